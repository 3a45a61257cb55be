/-
  No cell of these rows narrows 'for every input' (looked for: loops, veiled, ifaces, maps, wideKeys, modest, calm, conditions, laid).
  DERIVED. THE GIVEN ROWS OF THIS SEAT. 8 by the template 'for every input the law returns true; each argument reads behind the call as it read before'; 0 by the template 'total and deterministic' (their statements: YtfgabafbcephaaaTotals.lean).
  GIVEN WITH THE SEED: the statements are not yours to turn. If you find one false, say at which input.
  Laid BY PROGRAM, IN A SANDBOX (cutbox-rows.mjs): the forced cells as the released guide's own fill.sh prints them over the translation d05fd31a9ec27e85… (all of the seat's roots in one cut). By AI agents, Wed Nov 11 2026. No macro, syntax, notation, axiom, sorry.
-/
import Derived.Test.YtfgabafbcephaaaChecked
import GoSem.Claim
import GoSem.ClaimJoined
import GoSem.ClaimMapViews
import Derived.JoinedTies
import Derived.KernelRfl
namespace Go.Proofs.Ytfgabafbcephaaa
/- THE CELL 'sum', in the pinned program and in every row, IS THE sha256 OF THE DUMP (.gsa) THAT YtfgabafbcephaaaProg.lean LOADS. Nothing in Lean hashes anything: it is a label: what it is worth is what the hold of that sum in a sandbox is worth. -/
noncomputable def Try.pinned : Pinned := { name := "ytfgabafbcephaaa", sum := "d05fd31a9ec27e857bcbf69905e5e4baf6a3079dec69821cdd0eb90218e125a6", checked := Try.checked }
namespace Rows
def none {H : Type} : Left H := { results := [], args := [] }

/-- 'bournelaw17.Queues': WHATEVER THE INPUT: true; the input reads as it did. -/
def queuesSpec : ChangeSpec := { name := "queues", fn := fun _ => fun
  | [d1, d2, d3] => { results := [.lit (.bool true)], args := [d1, d2, d3] }
  | _ => none }
def queuesRow : OpenClaim := { program := "ytfgabafbcephaaa", sum := "d05fd31a9ec27e857bcbf69905e5e4baf6a3079dec69821cdd0eb90218e125a6", func := "bourne/bournelaw17.Queues", spec := "queues", plainKeys := false, apart := false }
def QueuesSaid : Prop := queuesRow.holds Try.pinned (OpenSpec.ofChange queuesSpec)

/-- ITS FALSE NEIGHBOUR: 'it returns false'. Refute it at one input. -/
def queuesWrong : ChangeSpec := { name := "queues", fn := fun _ => fun
  | [d1, d2, d3] => { results := [.lit (.bool false)], args := [d1, d2, d3] }
  | _ => none }
def QueuesWrongFalsely : Prop := queuesRow.holds Try.pinned (OpenSpec.ofChange queuesWrong)

/-- 'bournelaw17.QueueSlides': WHATEVER THE INPUT: true; the input reads as it did. -/
def queueSlidesSpec : ChangeSpec := { name := "queueSlides", fn := fun _ => fun
  | [d1, d2] => { results := [.lit (.bool true)], args := [d1, d2] }
  | _ => none }
def queueSlidesRow : OpenClaim := { program := "ytfgabafbcephaaa", sum := "d05fd31a9ec27e857bcbf69905e5e4baf6a3079dec69821cdd0eb90218e125a6", func := "bourne/bournelaw17.QueueSlides", spec := "queueSlides", plainKeys := false, apart := false }
def QueueSlidesSaid : Prop := queueSlidesRow.holds Try.pinned (OpenSpec.ofChange queueSlidesSpec)

/-- ITS FALSE NEIGHBOUR: 'it returns false'. Refute it at one input. -/
def queueSlidesWrong : ChangeSpec := { name := "queueSlides", fn := fun _ => fun
  | [d1, d2] => { results := [.lit (.bool false)], args := [d1, d2] }
  | _ => none }
def QueueSlidesWrongFalsely : Prop := queueSlidesRow.holds Try.pinned (OpenSpec.ofChange queueSlidesWrong)

/-- 'bournelaw17.QueueForms': WHATEVER THE INPUT: true; the input reads as it did. -/
def queueFormsSpec : ChangeSpec := { name := "queueForms", fn := fun _ => fun
  | [d1, d2] => { results := [.lit (.bool true)], args := [d1, d2] }
  | _ => none }
def queueFormsRow : OpenClaim := { program := "ytfgabafbcephaaa", sum := "d05fd31a9ec27e857bcbf69905e5e4baf6a3079dec69821cdd0eb90218e125a6", func := "bourne/bournelaw17.QueueForms", spec := "queueForms", plainKeys := false, apart := false }
def QueueFormsSaid : Prop := queueFormsRow.holds Try.pinned (OpenSpec.ofChange queueFormsSpec)

/-- ITS FALSE NEIGHBOUR: 'it returns false'. Refute it at one input. -/
def queueFormsWrong : ChangeSpec := { name := "queueForms", fn := fun _ => fun
  | [d1, d2] => { results := [.lit (.bool false)], args := [d1, d2] }
  | _ => none }
def QueueFormsWrongFalsely : Prop := queueFormsRow.holds Try.pinned (OpenSpec.ofChange queueFormsWrong)

/-- 'bournelaw19.Trees': WHATEVER THE INPUT: true; the input reads as it did. -/
def treesSpec : ChangeSpec := { name := "trees", fn := fun _ => fun
  | [d1, d2] => { results := [.lit (.bool true)], args := [d1, d2] }
  | _ => none }
def treesRow : OpenClaim := { program := "ytfgabafbcephaaa", sum := "d05fd31a9ec27e857bcbf69905e5e4baf6a3079dec69821cdd0eb90218e125a6", func := "bourne/bournelaw19.Trees", spec := "trees", unfollowed := true, recurses := true, plainKeys := false, apart := false }
def TreesSaid : Prop := treesRow.holds Try.pinned (OpenSpec.ofChange treesSpec)

/-- ITS FALSE NEIGHBOUR: 'it returns false'. Refute it at one input. -/
def treesWrong : ChangeSpec := { name := "trees", fn := fun _ => fun
  | [d1, d2] => { results := [.lit (.bool false)], args := [d1, d2] }
  | _ => none }
def TreesWrongFalsely : Prop := treesRow.holds Try.pinned (OpenSpec.ofChange treesWrong)

/-- 'bournelaw19.TreeParts': WHATEVER THE INPUT: true; the input reads as it did. -/
def treePartsSpec : ChangeSpec := { name := "treeParts", fn := fun _ => fun
  | [d1, d2, d3, d4] => { results := [.lit (.bool true)], args := [d1, d2, d3, d4] }
  | _ => none }
def treePartsRow : OpenClaim := { program := "ytfgabafbcephaaa", sum := "d05fd31a9ec27e857bcbf69905e5e4baf6a3079dec69821cdd0eb90218e125a6", func := "bourne/bournelaw19.TreeParts", spec := "treeParts", unfollowed := true, recurses := true, plainKeys := false, apart := false }
def TreePartsSaid : Prop := treePartsRow.holds Try.pinned (OpenSpec.ofChange treePartsSpec)

/-- ITS FALSE NEIGHBOUR: 'it returns false'. Refute it at one input. -/
def treePartsWrong : ChangeSpec := { name := "treeParts", fn := fun _ => fun
  | [d1, d2, d3, d4] => { results := [.lit (.bool false)], args := [d1, d2, d3, d4] }
  | _ => none }
def TreePartsWrongFalsely : Prop := treePartsRow.holds Try.pinned (OpenSpec.ofChange treePartsWrong)

/-- 'bournelaw19.TreeForms': WHATEVER THE INPUT: true; the input reads as it did. -/
def treeFormsSpec : ChangeSpec := { name := "treeForms", fn := fun _ => fun
  | [d1, d2] => { results := [.lit (.bool true)], args := [d1, d2] }
  | _ => none }
def treeFormsRow : OpenClaim := { program := "ytfgabafbcephaaa", sum := "d05fd31a9ec27e857bcbf69905e5e4baf6a3079dec69821cdd0eb90218e125a6", func := "bourne/bournelaw19.TreeForms", spec := "treeForms", unfollowed := true, recurses := true, plainKeys := false, apart := false }
def TreeFormsSaid : Prop := treeFormsRow.holds Try.pinned (OpenSpec.ofChange treeFormsSpec)

/-- ITS FALSE NEIGHBOUR: 'it returns false'. Refute it at one input. -/
def treeFormsWrong : ChangeSpec := { name := "treeForms", fn := fun _ => fun
  | [d1, d2] => { results := [.lit (.bool false)], args := [d1, d2] }
  | _ => none }
def TreeFormsWrongFalsely : Prop := treeFormsRow.holds Try.pinned (OpenSpec.ofChange treeFormsWrong)

/-- 'bournelaw19.TreeEvicts': WHATEVER THE INPUT: true; the input reads as it did. -/
def treeEvictsSpec : ChangeSpec := { name := "treeEvicts", fn := fun _ => fun
  | [d1, d2, d3] => { results := [.lit (.bool true)], args := [d1, d2, d3] }
  | _ => none }
def treeEvictsRow : OpenClaim := { program := "ytfgabafbcephaaa", sum := "d05fd31a9ec27e857bcbf69905e5e4baf6a3079dec69821cdd0eb90218e125a6", func := "bourne/bournelaw19.TreeEvicts", spec := "treeEvicts", unfollowed := true, recurses := true, plainKeys := false, apart := false }
def TreeEvictsSaid : Prop := treeEvictsRow.holds Try.pinned (OpenSpec.ofChange treeEvictsSpec)

/-- ITS FALSE NEIGHBOUR: 'it returns false'. Refute it at one input. -/
def treeEvictsWrong : ChangeSpec := { name := "treeEvicts", fn := fun _ => fun
  | [d1, d2, d3] => { results := [.lit (.bool false)], args := [d1, d2, d3] }
  | _ => none }
def TreeEvictsWrongFalsely : Prop := treeEvictsRow.holds Try.pinned (OpenSpec.ofChange treeEvictsWrong)

/-- 'bournelaw19.TreeRows': WHATEVER THE INPUT: true; the input reads as it did. -/
def treeRowsSpec : ChangeSpec := { name := "treeRows", fn := fun _ => fun
  | [d1, d2] => { results := [.lit (.bool true)], args := [d1, d2] }
  | _ => none }
def treeRowsRow : OpenClaim := { program := "ytfgabafbcephaaa", sum := "d05fd31a9ec27e857bcbf69905e5e4baf6a3079dec69821cdd0eb90218e125a6", func := "bourne/bournelaw19.TreeRows", spec := "treeRows", unfollowed := true, recurses := true, plainKeys := false, apart := false }
def TreeRowsSaid : Prop := treeRowsRow.holds Try.pinned (OpenSpec.ofChange treeRowsSpec)

/-- ITS FALSE NEIGHBOUR: 'it returns false'. Refute it at one input. -/
def treeRowsWrong : ChangeSpec := { name := "treeRows", fn := fun _ => fun
  | [d1, d2] => { results := [.lit (.bool false)], args := [d1, d2] }
  | _ => none }
def TreeRowsWrongFalsely : Prop := treeRowsRow.holds Try.pinned (OpenSpec.ofChange treeRowsWrong)

/- THE SECOND FORM. 'bulk': how many values and letters a reading holds, each counted each time it is reached (what is shared counts as often as it is met; a slice's spare places count too). A statement '..UptoSaid' is the law's where the arguments, and the package variables that the reading takes, are together of bulk at most 1048576: NARROWER than '..Said'. Prove '..Said' where nothing that the law and all that it calls make is longer than what came in: it says more and counts as full. Else prove '..UptoSaid'. A law counts once. -/
mutual
def uptoBulk {H : Type} : DataW H → Nat
  | .lit (.string bytes) => bytes.length + 1
  | .lit _ => 1
  | .nil => 1
  | .ptr d => uptoBulk d + 1
  | .slice elems spare => uptoBulkAll elems + uptoBulkAll spare + 1
  | .agg parts => uptoBulkAll parts + 1
  | .iface _ d => uptoBulk d + 1
  | .map entries => uptoBulkEntries entries + 1
  | .held _ => 1
def uptoBulkAll {H : Type} : List (DataW H) → Nat
  | [] => 0
  | d :: r => uptoBulk d + uptoBulkAll r
def uptoBulkEntries {H : Type} : List (Lit × DataW H) → Nat
  | [] => 0
  | x :: r => uptoBulkEntry x + uptoBulkEntries r
def uptoBulkEntry {H : Type} : Lit × DataW H → Nat
  | (.string bytes, d) => bytes.length + uptoBulk d + 1
  | (_, d) => uptoBulk d + 1
 end
def uptoSmall : (H : Type) → List (DataW H) → Bool := fun _ ds => decide (uptoBulkAll ds ≤ 1048576)
def OpenSpec.upto (s : _root_.Go.ChangeSpec) : _root_.Go.OpenSpec := { _root_.Go.OpenSpec.ofChange s with cond := some uptoSmall }

/-- 'bournelaw17.Queues', WHERE WHAT IT READS IS OF BULK AT MOST 1048576: true; the input reads as it did. -/
def queuesUptoRow : OpenClaim := { program := "ytfgabafbcephaaa", sum := "d05fd31a9ec27e857bcbf69905e5e4baf6a3079dec69821cdd0eb90218e125a6", func := "bourne/bournelaw17.Queues", spec := "queues", plainKeys := false, apart := false, narrowed := true }
def QueuesUptoSaid : Prop := queuesUptoRow.holds Try.pinned (OpenSpec.upto queuesSpec)

/-- 'bournelaw17.QueueSlides', WHERE WHAT IT READS IS OF BULK AT MOST 1048576: true; the input reads as it did. -/
def queueSlidesUptoRow : OpenClaim := { program := "ytfgabafbcephaaa", sum := "d05fd31a9ec27e857bcbf69905e5e4baf6a3079dec69821cdd0eb90218e125a6", func := "bourne/bournelaw17.QueueSlides", spec := "queueSlides", plainKeys := false, apart := false, narrowed := true }
def QueueSlidesUptoSaid : Prop := queueSlidesUptoRow.holds Try.pinned (OpenSpec.upto queueSlidesSpec)

/-- 'bournelaw17.QueueForms', WHERE WHAT IT READS IS OF BULK AT MOST 1048576: true; the input reads as it did. -/
def queueFormsUptoRow : OpenClaim := { program := "ytfgabafbcephaaa", sum := "d05fd31a9ec27e857bcbf69905e5e4baf6a3079dec69821cdd0eb90218e125a6", func := "bourne/bournelaw17.QueueForms", spec := "queueForms", plainKeys := false, apart := false, narrowed := true }
def QueueFormsUptoSaid : Prop := queueFormsUptoRow.holds Try.pinned (OpenSpec.upto queueFormsSpec)

/-- 'bournelaw19.Trees', WHERE WHAT IT READS IS OF BULK AT MOST 1048576: true; the input reads as it did. -/
def treesUptoRow : OpenClaim := { program := "ytfgabafbcephaaa", sum := "d05fd31a9ec27e857bcbf69905e5e4baf6a3079dec69821cdd0eb90218e125a6", func := "bourne/bournelaw19.Trees", spec := "trees", unfollowed := true, recurses := true, plainKeys := false, apart := false, narrowed := true }
def TreesUptoSaid : Prop := treesUptoRow.holds Try.pinned (OpenSpec.upto treesSpec)

/-- 'bournelaw19.TreeParts', WHERE WHAT IT READS IS OF BULK AT MOST 1048576: true; the input reads as it did. -/
def treePartsUptoRow : OpenClaim := { program := "ytfgabafbcephaaa", sum := "d05fd31a9ec27e857bcbf69905e5e4baf6a3079dec69821cdd0eb90218e125a6", func := "bourne/bournelaw19.TreeParts", spec := "treeParts", unfollowed := true, recurses := true, plainKeys := false, apart := false, narrowed := true }
def TreePartsUptoSaid : Prop := treePartsUptoRow.holds Try.pinned (OpenSpec.upto treePartsSpec)

/-- 'bournelaw19.TreeForms', WHERE WHAT IT READS IS OF BULK AT MOST 1048576: true; the input reads as it did. -/
def treeFormsUptoRow : OpenClaim := { program := "ytfgabafbcephaaa", sum := "d05fd31a9ec27e857bcbf69905e5e4baf6a3079dec69821cdd0eb90218e125a6", func := "bourne/bournelaw19.TreeForms", spec := "treeForms", unfollowed := true, recurses := true, plainKeys := false, apart := false, narrowed := true }
def TreeFormsUptoSaid : Prop := treeFormsUptoRow.holds Try.pinned (OpenSpec.upto treeFormsSpec)

/-- 'bournelaw19.TreeEvicts', WHERE WHAT IT READS IS OF BULK AT MOST 1048576: true; the input reads as it did. -/
def treeEvictsUptoRow : OpenClaim := { program := "ytfgabafbcephaaa", sum := "d05fd31a9ec27e857bcbf69905e5e4baf6a3079dec69821cdd0eb90218e125a6", func := "bourne/bournelaw19.TreeEvicts", spec := "treeEvicts", unfollowed := true, recurses := true, plainKeys := false, apart := false, narrowed := true }
def TreeEvictsUptoSaid : Prop := treeEvictsUptoRow.holds Try.pinned (OpenSpec.upto treeEvictsSpec)

/-- 'bournelaw19.TreeRows', WHERE WHAT IT READS IS OF BULK AT MOST 1048576: true; the input reads as it did. -/
def treeRowsUptoRow : OpenClaim := { program := "ytfgabafbcephaaa", sum := "d05fd31a9ec27e857bcbf69905e5e4baf6a3079dec69821cdd0eb90218e125a6", func := "bourne/bournelaw19.TreeRows", spec := "treeRows", unfollowed := true, recurses := true, plainKeys := false, apart := false, narrowed := true }
def TreeRowsUptoSaid : Prop := treeRowsUptoRow.holds Try.pinned (OpenSpec.upto treeRowsSpec)

end Rows
end Go.Proofs.Ytfgabafbcephaaa
