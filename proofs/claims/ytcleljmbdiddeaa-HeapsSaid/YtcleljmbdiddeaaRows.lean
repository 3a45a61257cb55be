/-
  No cell of these rows narrows 'for every input' (looked for: loops, veiled, ifaces, maps, wideKeys, modest, calm, conditions, laid).
  DERIVED. THE GIVEN ROWS OF THIS SEAT. 6 by the template 'for every input the law returns true; each argument reads behind the call as it read before'; 0 by the template 'total and deterministic' (their statements: YtcleljmbdiddeaaTotals.lean).
  GIVEN WITH THE SEED: the statements are not yours to turn. If you find one false, say at which input.
  Laid BY PROGRAM, IN A SANDBOX (cutbox-rows.mjs): the forced cells as the released guide's own fill.sh prints them over the translation f75d93015958e6ba… (all of the seat's roots in one cut). By AI agents, Wed Nov 11 2026. No macro, syntax, notation, axiom, sorry.
-/
import Derived.Test.YtcleljmbdiddeaaChecked
import GoSem.Claim
import GoSem.ClaimJoined
import GoSem.ClaimMapViews
import Derived.JoinedTies
import Derived.KernelRfl
namespace Go.Proofs.Ytcleljmbdiddeaa
/- THE CELL 'sum', in the pinned program and in every row, IS THE sha256 OF THE DUMP (.gsa) THAT YtcleljmbdiddeaaProg.lean LOADS. Nothing in Lean hashes anything: it is a label: what it is worth is what the hold of that sum in a sandbox is worth. -/
noncomputable def Try.pinned : Pinned := { name := "ytcleljmbdiddeaa", sum := "f75d93015958e6bab4dd649e31a6a6cd263214f2c0637f720e481a4773f22668", checked := Try.checked }
namespace Rows
def none {H : Type} : Left H := { results := [], args := [] }

/-- 'bournelaw0.BourneNames': WHATEVER THE INPUT: true; the input reads as it did. -/
def bourneNamesSpec : ChangeSpec := { name := "bourneNames", fn := fun _ => fun
  | [] => { results := [.lit (.bool true)], args := [] }
  | _ => none }
def bourneNamesRow : OpenClaim := { program := "ytcleljmbdiddeaa", sum := "f75d93015958e6bab4dd649e31a6a6cd263214f2c0637f720e481a4773f22668", func := "bourne/bournelaw0.BourneNames", spec := "bourneNames", apart := false }
def BourneNamesSaid : Prop := bourneNamesRow.holds Try.pinned (OpenSpec.ofChange bourneNamesSpec)

/-- ITS FALSE NEIGHBOUR: 'it returns false'. Refute it at one input. -/
def bourneNamesWrong : ChangeSpec := { name := "bourneNames", fn := fun _ => fun
  | [] => { results := [.lit (.bool false)], args := [] }
  | _ => none }
def BourneNamesWrongFalsely : Prop := bourneNamesRow.holds Try.pinned (OpenSpec.ofChange bourneNamesWrong)

/-- 'bournelaw15.Heaps': WHATEVER THE INPUT: true; the input reads as it did. -/
def heapsSpec : ChangeSpec := { name := "heaps", fn := fun _ => fun
  | [d1, d2, d3] => { results := [.lit (.bool true)], args := [d1, d2, d3] }
  | _ => none }
def heapsRow : OpenClaim := { program := "ytcleljmbdiddeaa", sum := "f75d93015958e6bab4dd649e31a6a6cd263214f2c0637f720e481a4773f22668", func := "bourne/bournelaw15.Heaps", spec := "heaps", apart := false }
def HeapsSaid : Prop := heapsRow.holds Try.pinned (OpenSpec.ofChange heapsSpec)

/-- ITS FALSE NEIGHBOUR: 'it returns false'. Refute it at one input. -/
def heapsWrong : ChangeSpec := { name := "heaps", fn := fun _ => fun
  | [d1, d2, d3] => { results := [.lit (.bool false)], args := [d1, d2, d3] }
  | _ => none }
def HeapsWrongFalsely : Prop := heapsRow.holds Try.pinned (OpenSpec.ofChange heapsWrong)

/-- 'bournelaw15.HeapSorts': WHATEVER THE INPUT: true; the input reads as it did. -/
def heapSortsSpec : ChangeSpec := { name := "heapSorts", fn := fun _ => fun
  | [d] => { results := [.lit (.bool true)], args := [d] }
  | _ => none }
def heapSortsRow : OpenClaim := { program := "ytcleljmbdiddeaa", sum := "f75d93015958e6bab4dd649e31a6a6cd263214f2c0637f720e481a4773f22668", func := "bourne/bournelaw15.HeapSorts", spec := "heapSorts", apart := false }
def HeapSortsSaid : Prop := heapSortsRow.holds Try.pinned (OpenSpec.ofChange heapSortsSpec)

/-- ITS FALSE NEIGHBOUR: 'it returns false'. Refute it at one input. -/
def heapSortsWrong : ChangeSpec := { name := "heapSorts", fn := fun _ => fun
  | [d] => { results := [.lit (.bool false)], args := [d] }
  | _ => none }
def HeapSortsWrongFalsely : Prop := heapSortsRow.holds Try.pinned (OpenSpec.ofChange heapSortsWrong)

/-- 'bournelaw15.HeapForms': WHATEVER THE INPUT: true; the input reads as it did. -/
def heapFormsSpec : ChangeSpec := { name := "heapForms", fn := fun _ => fun
  | [d1, d2, d3] => { results := [.lit (.bool true)], args := [d1, d2, d3] }
  | _ => none }
def heapFormsRow : OpenClaim := { program := "ytcleljmbdiddeaa", sum := "f75d93015958e6bab4dd649e31a6a6cd263214f2c0637f720e481a4773f22668", func := "bourne/bournelaw15.HeapForms", spec := "heapForms", apart := false }
def HeapFormsSaid : Prop := heapFormsRow.holds Try.pinned (OpenSpec.ofChange heapFormsSpec)

/-- ITS FALSE NEIGHBOUR: 'it returns false'. Refute it at one input. -/
def heapFormsWrong : ChangeSpec := { name := "heapForms", fn := fun _ => fun
  | [d1, d2, d3] => { results := [.lit (.bool false)], args := [d1, d2, d3] }
  | _ => none }
def HeapFormsWrongFalsely : Prop := heapFormsRow.holds Try.pinned (OpenSpec.ofChange heapFormsWrong)

/-- 'bournelaw15.HeapTies': WHATEVER THE INPUT: true; the input reads as it did. -/
def heapTiesSpec : ChangeSpec := { name := "heapTies", fn := fun _ => fun
  | [d] => { results := [.lit (.bool true)], args := [d] }
  | _ => none }
def heapTiesRow : OpenClaim := { program := "ytcleljmbdiddeaa", sum := "f75d93015958e6bab4dd649e31a6a6cd263214f2c0637f720e481a4773f22668", func := "bourne/bournelaw15.HeapTies", spec := "heapTies", apart := false }
def HeapTiesSaid : Prop := heapTiesRow.holds Try.pinned (OpenSpec.ofChange heapTiesSpec)

/-- ITS FALSE NEIGHBOUR: 'it returns false'. Refute it at one input. -/
def heapTiesWrong : ChangeSpec := { name := "heapTies", fn := fun _ => fun
  | [d] => { results := [.lit (.bool false)], args := [d] }
  | _ => none }
def HeapTiesWrongFalsely : Prop := heapTiesRow.holds Try.pinned (OpenSpec.ofChange heapTiesWrong)

/-- 'bournelaw15.HeapLeast': WHATEVER THE INPUT: true; the input reads as it did. -/
def heapLeastSpec : ChangeSpec := { name := "heapLeast", fn := fun _ => fun
  | [d] => { results := [.lit (.bool true)], args := [d] }
  | _ => none }
def heapLeastRow : OpenClaim := { program := "ytcleljmbdiddeaa", sum := "f75d93015958e6bab4dd649e31a6a6cd263214f2c0637f720e481a4773f22668", func := "bourne/bournelaw15.HeapLeast", spec := "heapLeast", apart := false }
def HeapLeastSaid : Prop := heapLeastRow.holds Try.pinned (OpenSpec.ofChange heapLeastSpec)

/-- ITS FALSE NEIGHBOUR: 'it returns false'. Refute it at one input. -/
def heapLeastWrong : ChangeSpec := { name := "heapLeast", fn := fun _ => fun
  | [d] => { results := [.lit (.bool false)], args := [d] }
  | _ => none }
def HeapLeastWrongFalsely : Prop := heapLeastRow.holds Try.pinned (OpenSpec.ofChange heapLeastWrong)

/- THE SECOND FORM. 'bulk': how many values and letters a reading holds, each counted each time it is reached (what is shared counts as often as it is met; a slice's spare places count too). A statement '..UptoSaid' is the law's where the arguments, and the package variables that the reading takes, are together of bulk at most 1048576: NARROWER than '..Said'. Prove '..Said' where nothing that the law and all that it calls make is longer than what came in: it says more and counts as full. Else prove '..UptoSaid'. A law counts once. -/
mutual
def uptoBulk {H : Type} : DataW H → Nat
  | .lit (.string bytes) => bytes.length + 1
  | .lit _ => 1
  | .nil => 1
  | .ptr d => uptoBulk d + 1
  | .slice elems spare => uptoBulkAll elems + uptoBulkAll spare + 1
  | .agg parts => uptoBulkAll parts + 1
  | .iface _ d => uptoBulk d + 1
  | .map entries => uptoBulkEntries entries + 1
  | .held _ => 1
def uptoBulkAll {H : Type} : List (DataW H) → Nat
  | [] => 0
  | d :: r => uptoBulk d + uptoBulkAll r
def uptoBulkEntries {H : Type} : List (Lit × DataW H) → Nat
  | [] => 0
  | x :: r => uptoBulkEntry x + uptoBulkEntries r
def uptoBulkEntry {H : Type} : Lit × DataW H → Nat
  | (.string bytes, d) => bytes.length + uptoBulk d + 1
  | (_, d) => uptoBulk d + 1
 end
def uptoSmall : (H : Type) → List (DataW H) → Bool := fun _ ds => decide (uptoBulkAll ds ≤ 1048576)
def OpenSpec.upto (s : _root_.Go.ChangeSpec) : _root_.Go.OpenSpec := { _root_.Go.OpenSpec.ofChange s with cond := some uptoSmall }

/-- 'bournelaw0.BourneNames', WHERE WHAT IT READS IS OF BULK AT MOST 1048576: true; the input reads as it did. -/
def bourneNamesUptoRow : OpenClaim := { program := "ytcleljmbdiddeaa", sum := "f75d93015958e6bab4dd649e31a6a6cd263214f2c0637f720e481a4773f22668", func := "bourne/bournelaw0.BourneNames", spec := "bourneNames", apart := false, narrowed := true }
def BourneNamesUptoSaid : Prop := bourneNamesUptoRow.holds Try.pinned (OpenSpec.upto bourneNamesSpec)

/-- 'bournelaw15.Heaps', WHERE WHAT IT READS IS OF BULK AT MOST 1048576: true; the input reads as it did. -/
def heapsUptoRow : OpenClaim := { program := "ytcleljmbdiddeaa", sum := "f75d93015958e6bab4dd649e31a6a6cd263214f2c0637f720e481a4773f22668", func := "bourne/bournelaw15.Heaps", spec := "heaps", apart := false, narrowed := true }
def HeapsUptoSaid : Prop := heapsUptoRow.holds Try.pinned (OpenSpec.upto heapsSpec)

/-- 'bournelaw15.HeapSorts', WHERE WHAT IT READS IS OF BULK AT MOST 1048576: true; the input reads as it did. -/
def heapSortsUptoRow : OpenClaim := { program := "ytcleljmbdiddeaa", sum := "f75d93015958e6bab4dd649e31a6a6cd263214f2c0637f720e481a4773f22668", func := "bourne/bournelaw15.HeapSorts", spec := "heapSorts", apart := false, narrowed := true }
def HeapSortsUptoSaid : Prop := heapSortsUptoRow.holds Try.pinned (OpenSpec.upto heapSortsSpec)

/-- 'bournelaw15.HeapForms', WHERE WHAT IT READS IS OF BULK AT MOST 1048576: true; the input reads as it did. -/
def heapFormsUptoRow : OpenClaim := { program := "ytcleljmbdiddeaa", sum := "f75d93015958e6bab4dd649e31a6a6cd263214f2c0637f720e481a4773f22668", func := "bourne/bournelaw15.HeapForms", spec := "heapForms", apart := false, narrowed := true }
def HeapFormsUptoSaid : Prop := heapFormsUptoRow.holds Try.pinned (OpenSpec.upto heapFormsSpec)

/-- 'bournelaw15.HeapTies', WHERE WHAT IT READS IS OF BULK AT MOST 1048576: true; the input reads as it did. -/
def heapTiesUptoRow : OpenClaim := { program := "ytcleljmbdiddeaa", sum := "f75d93015958e6bab4dd649e31a6a6cd263214f2c0637f720e481a4773f22668", func := "bourne/bournelaw15.HeapTies", spec := "heapTies", apart := false, narrowed := true }
def HeapTiesUptoSaid : Prop := heapTiesUptoRow.holds Try.pinned (OpenSpec.upto heapTiesSpec)

/-- 'bournelaw15.HeapLeast', WHERE WHAT IT READS IS OF BULK AT MOST 1048576: true; the input reads as it did. -/
def heapLeastUptoRow : OpenClaim := { program := "ytcleljmbdiddeaa", sum := "f75d93015958e6bab4dd649e31a6a6cd263214f2c0637f720e481a4773f22668", func := "bourne/bournelaw15.HeapLeast", spec := "heapLeast", apart := false, narrowed := true }
def HeapLeastUptoSaid : Prop := heapLeastUptoRow.holds Try.pinned (OpenSpec.upto heapLeastSpec)

end Rows
end Go.Proofs.Ytcleljmbdiddeaa
