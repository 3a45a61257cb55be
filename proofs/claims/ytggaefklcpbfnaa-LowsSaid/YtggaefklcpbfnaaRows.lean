/-
  No cell of these rows narrows 'for every input' (looked for: loops, veiled, ifaces, maps, wideKeys, modest, calm, conditions, laid).
  DERIVED. THE GIVEN ROWS OF THIS SEAT. 13 by the template 'for every input the law returns true; each argument reads behind the call as it read before'; 0 by the template 'total and deterministic' (their statements: YtggaefklcpbfnaaTotals.lean).
  GIVEN WITH THE SEED: the statements are not yours to turn. If you find one false, say at which input.
  Laid BY PROGRAM, IN A SANDBOX (cutbox-rows.mjs): the forced cells as the released guide's own fill.sh prints them over the translation a0bdd739ad2080db… (all of the seat's roots in one cut). By AI agents, Wed Nov 11 2026. No macro, syntax, notation, axiom, sorry.
-/
import Derived.Test.YtggaefklcpbfnaaChecked
import GoSem.Claim
import GoSem.ClaimJoined
import GoSem.ClaimMapViews
import Derived.JoinedTies
import Derived.KernelRfl
namespace Go.Proofs.Ytggaefklcpbfnaa
/- THE CELL 'sum', in the pinned program and in every row, IS THE sha256 OF THE DUMP (.gsa) THAT YtggaefklcpbfnaaProg.lean LOADS. Nothing in Lean hashes anything: it is a label: what it is worth is what the hold of that sum in a sandbox is worth. -/
noncomputable def Try.pinned : Pinned := { name := "ytggaefklcpbfnaa", sum := "a0bdd739ad2080db57fa4dba4219fd043c3591e354cc20bc65634597e303a81a", checked := Try.checked }
namespace Rows
def none {H : Type} : Left H := { results := [], args := [] }

/-- 'bournelaw2.Lows': WHATEVER THE INPUT: true; the input reads as it did. -/
def lowsSpec : ChangeSpec := { name := "lows", fn := fun _ => fun
  | [d1, d2] => { results := [.lit (.bool true)], args := [d1, d2] }
  | _ => none }
def lowsRow : OpenClaim := { program := "ytggaefklcpbfnaa", sum := "a0bdd739ad2080db57fa4dba4219fd043c3591e354cc20bc65634597e303a81a", func := "bourne/bournelaw2.Lows", spec := "lows", unfollowed := true, recurses := true, apart := false }
def LowsSaid : Prop := lowsRow.holds Try.pinned (OpenSpec.ofChange lowsSpec)

/-- ITS FALSE NEIGHBOUR: 'it returns false'. Refute it at one input. -/
def lowsWrong : ChangeSpec := { name := "lows", fn := fun _ => fun
  | [d1, d2] => { results := [.lit (.bool false)], args := [d1, d2] }
  | _ => none }
def LowsWrongFalsely : Prop := lowsRow.holds Try.pinned (OpenSpec.ofChange lowsWrong)

/-- 'bournelaw2.LowPlain': WHATEVER THE INPUT: true; the input reads as it did. -/
def lowPlainSpec : ChangeSpec := { name := "lowPlain", fn := fun _ => fun
  | [d] => { results := [.lit (.bool true)], args := [d] }
  | _ => none }
def lowPlainRow : OpenClaim := { program := "ytggaefklcpbfnaa", sum := "a0bdd739ad2080db57fa4dba4219fd043c3591e354cc20bc65634597e303a81a", func := "bourne/bournelaw2.LowPlain", spec := "lowPlain", unfollowed := true, recurses := true, apart := false }
def LowPlainSaid : Prop := lowPlainRow.holds Try.pinned (OpenSpec.ofChange lowPlainSpec)

/-- ITS FALSE NEIGHBOUR: 'it returns false'. Refute it at one input. -/
def lowPlainWrong : ChangeSpec := { name := "lowPlain", fn := fun _ => fun
  | [d] => { results := [.lit (.bool false)], args := [d] }
  | _ => none }
def LowPlainWrongFalsely : Prop := lowPlainRow.holds Try.pinned (OpenSpec.ofChange lowPlainWrong)

/-- 'bournelaw2.LowRanks': WHATEVER THE INPUT: true; the input reads as it did. -/
def lowRanksSpec : ChangeSpec := { name := "lowRanks", fn := fun _ => fun
  | [d1, d2] => { results := [.lit (.bool true)], args := [d1, d2] }
  | _ => none }
def lowRanksRow : OpenClaim := { program := "ytggaefklcpbfnaa", sum := "a0bdd739ad2080db57fa4dba4219fd043c3591e354cc20bc65634597e303a81a", func := "bourne/bournelaw2.LowRanks", spec := "lowRanks", unfollowed := true, recurses := true, apart := false }
def LowRanksSaid : Prop := lowRanksRow.holds Try.pinned (OpenSpec.ofChange lowRanksSpec)

/-- ITS FALSE NEIGHBOUR: 'it returns false'. Refute it at one input. -/
def lowRanksWrong : ChangeSpec := { name := "lowRanks", fn := fun _ => fun
  | [d1, d2] => { results := [.lit (.bool false)], args := [d1, d2] }
  | _ => none }
def LowRanksWrongFalsely : Prop := lowRanksRow.holds Try.pinned (OpenSpec.ofChange lowRanksWrong)

/-- 'bournelaw2.LowForms': WHATEVER THE INPUT: true; the input reads as it did. -/
def lowFormsSpec : ChangeSpec := { name := "lowForms", fn := fun _ => fun
  | [d1, d2] => { results := [.lit (.bool true)], args := [d1, d2] }
  | _ => none }
def lowFormsRow : OpenClaim := { program := "ytggaefklcpbfnaa", sum := "a0bdd739ad2080db57fa4dba4219fd043c3591e354cc20bc65634597e303a81a", func := "bourne/bournelaw2.LowForms", spec := "lowForms", unfollowed := true, recurses := true, apart := false }
def LowFormsSaid : Prop := lowFormsRow.holds Try.pinned (OpenSpec.ofChange lowFormsSpec)

/-- ITS FALSE NEIGHBOUR: 'it returns false'. Refute it at one input. -/
def lowFormsWrong : ChangeSpec := { name := "lowForms", fn := fun _ => fun
  | [d1, d2] => { results := [.lit (.bool false)], args := [d1, d2] }
  | _ => none }
def LowFormsWrongFalsely : Prop := lowFormsRow.holds Try.pinned (OpenSpec.ofChange lowFormsWrong)

/-- 'bournelaw2.LowOver': WHATEVER THE INPUT: true; the input reads as it did. -/
def lowOverSpec : ChangeSpec := { name := "lowOver", fn := fun _ => fun
  | [d1, d2] => { results := [.lit (.bool true)], args := [d1, d2] }
  | _ => none }
def lowOverRow : OpenClaim := { program := "ytggaefklcpbfnaa", sum := "a0bdd739ad2080db57fa4dba4219fd043c3591e354cc20bc65634597e303a81a", func := "bourne/bournelaw2.LowOver", spec := "lowOver", unfollowed := true, recurses := true, apart := false }
def LowOverSaid : Prop := lowOverRow.holds Try.pinned (OpenSpec.ofChange lowOverSpec)

/-- ITS FALSE NEIGHBOUR: 'it returns false'. Refute it at one input. -/
def lowOverWrong : ChangeSpec := { name := "lowOver", fn := fun _ => fun
  | [d1, d2] => { results := [.lit (.bool false)], args := [d1, d2] }
  | _ => none }
def LowOverWrongFalsely : Prop := lowOverRow.holds Try.pinned (OpenSpec.ofChange lowOverWrong)

/-- 'bournelaw2.LowHists': WHATEVER THE INPUT: true; the input reads as it did. -/
def lowHistsSpec : ChangeSpec := { name := "lowHists", fn := fun _ => fun
  | [d1, d2, d3] => { results := [.lit (.bool true)], args := [d1, d2, d3] }
  | _ => none }
def lowHistsRow : OpenClaim := { program := "ytggaefklcpbfnaa", sum := "a0bdd739ad2080db57fa4dba4219fd043c3591e354cc20bc65634597e303a81a", func := "bourne/bournelaw2.LowHists", spec := "lowHists", unfollowed := true, recurses := true, apart := false }
def LowHistsSaid : Prop := lowHistsRow.holds Try.pinned (OpenSpec.ofChange lowHistsSpec)

/-- ITS FALSE NEIGHBOUR: 'it returns false'. Refute it at one input. -/
def lowHistsWrong : ChangeSpec := { name := "lowHists", fn := fun _ => fun
  | [d1, d2, d3] => { results := [.lit (.bool false)], args := [d1, d2, d3] }
  | _ => none }
def LowHistsWrongFalsely : Prop := lowHistsRow.holds Try.pinned (OpenSpec.ofChange lowHistsWrong)

/-- 'bournelaw1.Accs': WHATEVER THE INPUT: true; the input reads as it did. -/
def accsSpec : ChangeSpec := { name := "accs", fn := fun _ => fun
  | [d1, d2, d3] => { results := [.lit (.bool true)], args := [d1, d2, d3] }
  | _ => none }
def accsRow : OpenClaim := { program := "ytggaefklcpbfnaa", sum := "a0bdd739ad2080db57fa4dba4219fd043c3591e354cc20bc65634597e303a81a", func := "bourne/bournelaw1.Accs", spec := "accs", apart := false }
def AccsSaid : Prop := accsRow.holds Try.pinned (OpenSpec.ofChange accsSpec)

/-- ITS FALSE NEIGHBOUR: 'it returns false'. Refute it at one input. -/
def accsWrong : ChangeSpec := { name := "accs", fn := fun _ => fun
  | [d1, d2, d3] => { results := [.lit (.bool false)], args := [d1, d2, d3] }
  | _ => none }
def AccsWrongFalsely : Prop := accsRow.holds Try.pinned (OpenSpec.ofChange accsWrong)

/-- 'bournelaw1.AccRows': WHATEVER THE INPUT: true; the input reads as it did. -/
def accRowsSpec : ChangeSpec := { name := "accRows", fn := fun _ => fun
  | [d1, d2, d3] => { results := [.lit (.bool true)], args := [d1, d2, d3] }
  | _ => none }
def accRowsRow : OpenClaim := { program := "ytggaefklcpbfnaa", sum := "a0bdd739ad2080db57fa4dba4219fd043c3591e354cc20bc65634597e303a81a", func := "bourne/bournelaw1.AccRows", spec := "accRows", apart := false }
def AccRowsSaid : Prop := accRowsRow.holds Try.pinned (OpenSpec.ofChange accRowsSpec)

/-- ITS FALSE NEIGHBOUR: 'it returns false'. Refute it at one input. -/
def accRowsWrong : ChangeSpec := { name := "accRows", fn := fun _ => fun
  | [d1, d2, d3] => { results := [.lit (.bool false)], args := [d1, d2, d3] }
  | _ => none }
def AccRowsWrongFalsely : Prop := accRowsRow.holds Try.pinned (OpenSpec.ofChange accRowsWrong)

/-- 'bournelaw1.AccForms': WHATEVER THE INPUT: true; the input reads as it did. -/
def accFormsSpec : ChangeSpec := { name := "accForms", fn := fun _ => fun
  | [d1, d2] => { results := [.lit (.bool true)], args := [d1, d2] }
  | _ => none }
def accFormsRow : OpenClaim := { program := "ytggaefklcpbfnaa", sum := "a0bdd739ad2080db57fa4dba4219fd043c3591e354cc20bc65634597e303a81a", func := "bourne/bournelaw1.AccForms", spec := "accForms", apart := false }
def AccFormsSaid : Prop := accFormsRow.holds Try.pinned (OpenSpec.ofChange accFormsSpec)

/-- ITS FALSE NEIGHBOUR: 'it returns false'. Refute it at one input. -/
def accFormsWrong : ChangeSpec := { name := "accForms", fn := fun _ => fun
  | [d1, d2] => { results := [.lit (.bool false)], args := [d1, d2] }
  | _ => none }
def AccFormsWrongFalsely : Prop := accFormsRow.holds Try.pinned (OpenSpec.ofChange accFormsWrong)

/-- 'bournelaw1.AccEmpty': WHATEVER THE INPUT: true; the input reads as it did. -/
def accEmptySpec : ChangeSpec := { name := "accEmpty", fn := fun _ => fun
  | [d1, d2, d3] => { results := [.lit (.bool true)], args := [d1, d2, d3] }
  | _ => none }
def accEmptyRow : OpenClaim := { program := "ytggaefklcpbfnaa", sum := "a0bdd739ad2080db57fa4dba4219fd043c3591e354cc20bc65634597e303a81a", func := "bourne/bournelaw1.AccEmpty", spec := "accEmpty", apart := false }
def AccEmptySaid : Prop := accEmptyRow.holds Try.pinned (OpenSpec.ofChange accEmptySpec)

/-- ITS FALSE NEIGHBOUR: 'it returns false'. Refute it at one input. -/
def accEmptyWrong : ChangeSpec := { name := "accEmpty", fn := fun _ => fun
  | [d1, d2, d3] => { results := [.lit (.bool false)], args := [d1, d2, d3] }
  | _ => none }
def AccEmptyWrongFalsely : Prop := accEmptyRow.holds Try.pinned (OpenSpec.ofChange accEmptyWrong)

/-- 'bournelaw1.AccBuckets': WHATEVER THE INPUT: true; the input reads as it did. -/
def accBucketsSpec : ChangeSpec := { name := "accBuckets", fn := fun _ => fun
  | [d] => { results := [.lit (.bool true)], args := [d] }
  | _ => none }
def accBucketsRow : OpenClaim := { program := "ytggaefklcpbfnaa", sum := "a0bdd739ad2080db57fa4dba4219fd043c3591e354cc20bc65634597e303a81a", func := "bourne/bournelaw1.AccBuckets", spec := "accBuckets", apart := false }
def AccBucketsSaid : Prop := accBucketsRow.holds Try.pinned (OpenSpec.ofChange accBucketsSpec)

/-- ITS FALSE NEIGHBOUR: 'it returns false'. Refute it at one input. -/
def accBucketsWrong : ChangeSpec := { name := "accBuckets", fn := fun _ => fun
  | [d] => { results := [.lit (.bool false)], args := [d] }
  | _ => none }
def AccBucketsWrongFalsely : Prop := accBucketsRow.holds Try.pinned (OpenSpec.ofChange accBucketsWrong)

/-- 'bournelaw1.AccMany': WHATEVER THE INPUT: true; the input reads as it did. -/
def accManySpec : ChangeSpec := { name := "accMany", fn := fun _ => fun
  | [d1, d2] => { results := [.lit (.bool true)], args := [d1, d2] }
  | _ => none }
def accManyRow : OpenClaim := { program := "ytggaefklcpbfnaa", sum := "a0bdd739ad2080db57fa4dba4219fd043c3591e354cc20bc65634597e303a81a", func := "bourne/bournelaw1.AccMany", spec := "accMany", apart := false }
def AccManySaid : Prop := accManyRow.holds Try.pinned (OpenSpec.ofChange accManySpec)

/-- ITS FALSE NEIGHBOUR: 'it returns false'. Refute it at one input. -/
def accManyWrong : ChangeSpec := { name := "accMany", fn := fun _ => fun
  | [d1, d2] => { results := [.lit (.bool false)], args := [d1, d2] }
  | _ => none }
def AccManyWrongFalsely : Prop := accManyRow.holds Try.pinned (OpenSpec.ofChange accManyWrong)

/-- 'bournelaw1.AccTies': WHATEVER THE INPUT: true; the input reads as it did. -/
def accTiesSpec : ChangeSpec := { name := "accTies", fn := fun _ => fun
  | [d] => { results := [.lit (.bool true)], args := [d] }
  | _ => none }
def accTiesRow : OpenClaim := { program := "ytggaefklcpbfnaa", sum := "a0bdd739ad2080db57fa4dba4219fd043c3591e354cc20bc65634597e303a81a", func := "bourne/bournelaw1.AccTies", spec := "accTies", apart := false }
def AccTiesSaid : Prop := accTiesRow.holds Try.pinned (OpenSpec.ofChange accTiesSpec)

/-- ITS FALSE NEIGHBOUR: 'it returns false'. Refute it at one input. -/
def accTiesWrong : ChangeSpec := { name := "accTies", fn := fun _ => fun
  | [d] => { results := [.lit (.bool false)], args := [d] }
  | _ => none }
def AccTiesWrongFalsely : Prop := accTiesRow.holds Try.pinned (OpenSpec.ofChange accTiesWrong)

/- THE SECOND FORM. 'bulk': how many values and letters a reading holds, each counted each time it is reached (what is shared counts as often as it is met; a slice's spare places count too). A statement '..UptoSaid' is the law's where the arguments, and the package variables that the reading takes, are together of bulk at most 1048576: NARROWER than '..Said'. Prove '..Said' where nothing that the law and all that it calls make is longer than what came in: it says more and counts as full. Else prove '..UptoSaid'. A law counts once. -/
mutual
def uptoBulk {H : Type} : DataW H → Nat
  | .lit (.string bytes) => bytes.length + 1
  | .lit _ => 1
  | .nil => 1
  | .ptr d => uptoBulk d + 1
  | .slice elems spare => uptoBulkAll elems + uptoBulkAll spare + 1
  | .agg parts => uptoBulkAll parts + 1
  | .iface _ d => uptoBulk d + 1
  | .map entries => uptoBulkEntries entries + 1
  | .held _ => 1
def uptoBulkAll {H : Type} : List (DataW H) → Nat
  | [] => 0
  | d :: r => uptoBulk d + uptoBulkAll r
def uptoBulkEntries {H : Type} : List (Lit × DataW H) → Nat
  | [] => 0
  | x :: r => uptoBulkEntry x + uptoBulkEntries r
def uptoBulkEntry {H : Type} : Lit × DataW H → Nat
  | (.string bytes, d) => bytes.length + uptoBulk d + 1
  | (_, d) => uptoBulk d + 1
 end
def uptoSmall : (H : Type) → List (DataW H) → Bool := fun _ ds => decide (uptoBulkAll ds ≤ 1048576)
def OpenSpec.upto (s : _root_.Go.ChangeSpec) : _root_.Go.OpenSpec := { _root_.Go.OpenSpec.ofChange s with cond := some uptoSmall }

/-- 'bournelaw2.Lows', WHERE WHAT IT READS IS OF BULK AT MOST 1048576: true; the input reads as it did. -/
def lowsUptoRow : OpenClaim := { program := "ytggaefklcpbfnaa", sum := "a0bdd739ad2080db57fa4dba4219fd043c3591e354cc20bc65634597e303a81a", func := "bourne/bournelaw2.Lows", spec := "lows", unfollowed := true, recurses := true, apart := false, narrowed := true }
def LowsUptoSaid : Prop := lowsUptoRow.holds Try.pinned (OpenSpec.upto lowsSpec)

/-- 'bournelaw2.LowPlain', WHERE WHAT IT READS IS OF BULK AT MOST 1048576: true; the input reads as it did. -/
def lowPlainUptoRow : OpenClaim := { program := "ytggaefklcpbfnaa", sum := "a0bdd739ad2080db57fa4dba4219fd043c3591e354cc20bc65634597e303a81a", func := "bourne/bournelaw2.LowPlain", spec := "lowPlain", unfollowed := true, recurses := true, apart := false, narrowed := true }
def LowPlainUptoSaid : Prop := lowPlainUptoRow.holds Try.pinned (OpenSpec.upto lowPlainSpec)

/-- 'bournelaw2.LowRanks', WHERE WHAT IT READS IS OF BULK AT MOST 1048576: true; the input reads as it did. -/
def lowRanksUptoRow : OpenClaim := { program := "ytggaefklcpbfnaa", sum := "a0bdd739ad2080db57fa4dba4219fd043c3591e354cc20bc65634597e303a81a", func := "bourne/bournelaw2.LowRanks", spec := "lowRanks", unfollowed := true, recurses := true, apart := false, narrowed := true }
def LowRanksUptoSaid : Prop := lowRanksUptoRow.holds Try.pinned (OpenSpec.upto lowRanksSpec)

/-- 'bournelaw2.LowForms', WHERE WHAT IT READS IS OF BULK AT MOST 1048576: true; the input reads as it did. -/
def lowFormsUptoRow : OpenClaim := { program := "ytggaefklcpbfnaa", sum := "a0bdd739ad2080db57fa4dba4219fd043c3591e354cc20bc65634597e303a81a", func := "bourne/bournelaw2.LowForms", spec := "lowForms", unfollowed := true, recurses := true, apart := false, narrowed := true }
def LowFormsUptoSaid : Prop := lowFormsUptoRow.holds Try.pinned (OpenSpec.upto lowFormsSpec)

/-- 'bournelaw2.LowOver', WHERE WHAT IT READS IS OF BULK AT MOST 1048576: true; the input reads as it did. -/
def lowOverUptoRow : OpenClaim := { program := "ytggaefklcpbfnaa", sum := "a0bdd739ad2080db57fa4dba4219fd043c3591e354cc20bc65634597e303a81a", func := "bourne/bournelaw2.LowOver", spec := "lowOver", unfollowed := true, recurses := true, apart := false, narrowed := true }
def LowOverUptoSaid : Prop := lowOverUptoRow.holds Try.pinned (OpenSpec.upto lowOverSpec)

/-- 'bournelaw2.LowHists', WHERE WHAT IT READS IS OF BULK AT MOST 1048576: true; the input reads as it did. -/
def lowHistsUptoRow : OpenClaim := { program := "ytggaefklcpbfnaa", sum := "a0bdd739ad2080db57fa4dba4219fd043c3591e354cc20bc65634597e303a81a", func := "bourne/bournelaw2.LowHists", spec := "lowHists", unfollowed := true, recurses := true, apart := false, narrowed := true }
def LowHistsUptoSaid : Prop := lowHistsUptoRow.holds Try.pinned (OpenSpec.upto lowHistsSpec)

/-- 'bournelaw1.Accs', WHERE WHAT IT READS IS OF BULK AT MOST 1048576: true; the input reads as it did. -/
def accsUptoRow : OpenClaim := { program := "ytggaefklcpbfnaa", sum := "a0bdd739ad2080db57fa4dba4219fd043c3591e354cc20bc65634597e303a81a", func := "bourne/bournelaw1.Accs", spec := "accs", apart := false, narrowed := true }
def AccsUptoSaid : Prop := accsUptoRow.holds Try.pinned (OpenSpec.upto accsSpec)

/-- 'bournelaw1.AccRows', WHERE WHAT IT READS IS OF BULK AT MOST 1048576: true; the input reads as it did. -/
def accRowsUptoRow : OpenClaim := { program := "ytggaefklcpbfnaa", sum := "a0bdd739ad2080db57fa4dba4219fd043c3591e354cc20bc65634597e303a81a", func := "bourne/bournelaw1.AccRows", spec := "accRows", apart := false, narrowed := true }
def AccRowsUptoSaid : Prop := accRowsUptoRow.holds Try.pinned (OpenSpec.upto accRowsSpec)

/-- 'bournelaw1.AccForms', WHERE WHAT IT READS IS OF BULK AT MOST 1048576: true; the input reads as it did. -/
def accFormsUptoRow : OpenClaim := { program := "ytggaefklcpbfnaa", sum := "a0bdd739ad2080db57fa4dba4219fd043c3591e354cc20bc65634597e303a81a", func := "bourne/bournelaw1.AccForms", spec := "accForms", apart := false, narrowed := true }
def AccFormsUptoSaid : Prop := accFormsUptoRow.holds Try.pinned (OpenSpec.upto accFormsSpec)

/-- 'bournelaw1.AccEmpty', WHERE WHAT IT READS IS OF BULK AT MOST 1048576: true; the input reads as it did. -/
def accEmptyUptoRow : OpenClaim := { program := "ytggaefklcpbfnaa", sum := "a0bdd739ad2080db57fa4dba4219fd043c3591e354cc20bc65634597e303a81a", func := "bourne/bournelaw1.AccEmpty", spec := "accEmpty", apart := false, narrowed := true }
def AccEmptyUptoSaid : Prop := accEmptyUptoRow.holds Try.pinned (OpenSpec.upto accEmptySpec)

/-- 'bournelaw1.AccBuckets', WHERE WHAT IT READS IS OF BULK AT MOST 1048576: true; the input reads as it did. -/
def accBucketsUptoRow : OpenClaim := { program := "ytggaefklcpbfnaa", sum := "a0bdd739ad2080db57fa4dba4219fd043c3591e354cc20bc65634597e303a81a", func := "bourne/bournelaw1.AccBuckets", spec := "accBuckets", apart := false, narrowed := true }
def AccBucketsUptoSaid : Prop := accBucketsUptoRow.holds Try.pinned (OpenSpec.upto accBucketsSpec)

/-- 'bournelaw1.AccMany', WHERE WHAT IT READS IS OF BULK AT MOST 1048576: true; the input reads as it did. -/
def accManyUptoRow : OpenClaim := { program := "ytggaefklcpbfnaa", sum := "a0bdd739ad2080db57fa4dba4219fd043c3591e354cc20bc65634597e303a81a", func := "bourne/bournelaw1.AccMany", spec := "accMany", apart := false, narrowed := true }
def AccManyUptoSaid : Prop := accManyUptoRow.holds Try.pinned (OpenSpec.upto accManySpec)

/-- 'bournelaw1.AccTies', WHERE WHAT IT READS IS OF BULK AT MOST 1048576: true; the input reads as it did. -/
def accTiesUptoRow : OpenClaim := { program := "ytggaefklcpbfnaa", sum := "a0bdd739ad2080db57fa4dba4219fd043c3591e354cc20bc65634597e303a81a", func := "bourne/bournelaw1.AccTies", spec := "accTies", apart := false, narrowed := true }
def AccTiesUptoSaid : Prop := accTiesUptoRow.holds Try.pinned (OpenSpec.upto accTiesSpec)

end Rows
end Go.Proofs.Ytggaefklcpbfnaa
