/-
  NARROWER THAN 'FOR EVERY INPUT', by the rows' own cells (each row's printed sentence says how): PathTells: laid · PathApart: laid · PathPut: laid.
  DERIVED. THE GIVEN ROWS OF THIS SEAT. 3 by the template 'for every input the law returns true; each argument reads behind the call as it read before'; 0 by the template 'total and deterministic' (their statements: YtfncfmiccomgcaaDoorTotals.lean).
  GIVEN WITH THE SEED: the statements are not yours to turn. If you find one false, say at which input.
  Laid BY PROGRAM, IN A SANDBOX (cutbox-rows.mjs): the forced cells as the released guide's own fill.sh prints them over the translation 3ca087b95be518bd… (all of the seat's roots in one cut). By AI agents, Wed Nov 11 2026. No macro, syntax, notation, axiom, sorry.
-/
import Derived.Test.YtfncfmiccomgcaaDoorChecked
import GoSem.Claim
import GoSem.ClaimJoined
import GoSem.ClaimMapViews
import Derived.JoinedTies
import Derived.KernelRfl
namespace Go.Proofs.YtfncfmiccomgcaaDoor
/- THE CELL 'sum', in the pinned program and in every row, IS THE sha256 OF THE DUMP (.gsa) THAT YtfncfmiccomgcaaDoorProg.lean LOADS. Nothing in Lean hashes anything: it is a label: what it is worth is what the hold of that sum in a sandbox is worth. -/
noncomputable def Tryd.pinned : Pinned := { name := "ytfncfmiccomgcaadoor", sum := "3ca087b95be518bd67b2feb59d5d2229f3623a3e5d58f5c9ba388ec715fe4003", checked := Tryd.checked }
namespace Rows
def none {H : Type} : Left H := { results := [], args := [] }

/- WHAT THE LISTED PACKAGE-LEVEL VARIABLES READ AS WHEN THE CALL BEGINS. Each datum BY PROGRAM (the guide's laid-datum.mjs) off the statement by which the dump's own 'gosem.cut.vars' lays the variable. In a bare row this is a premise. The card (YtfncfmiccomgcaaDoorCards.lean) ties it to the program's text. -/
def laid_bonsai_tree_counts {H : Type} : DataW H := .agg [.agg [.lit (.int .i64 0), .lit (.int .i64 0)], .agg [.lit (.int .i64 0), .lit (.int .i64 0)], .agg [.lit (.int .i64 0), .lit (.int .i64 0)], .agg [.lit (.int .i64 0), .lit (.int .i64 0)], .agg [.lit (.int .i64 2), .lit (.int .i64 (-1))], .agg [.lit (.int .i64 2), .lit (.int .i64 (-1))], .agg [.lit (.int .i64 1), .lit (.int .i64 1)], .agg [.lit (.int .i64 1), .lit (.int .i64 1)], .agg [.lit (.int .i64 1), .lit (.int .i64 1)], .agg [.lit (.int .i64 1), .lit (.int .i64 1)]]

/-- 'bonsailaw18.PathTells': WHATEVER THE INPUT: true; the input reads as it did. -/
def pathTellsSpec : ChangeSpec := { name := "pathTells", fn := fun _ => fun
  | [d1, d2, d3] => { results := [.lit (.bool true)], args := [d1, d2, d3] }
  | _ => none }
def pathTellsRow : OpenClaim := { program := "ytfncfmiccomgcaadoor", sum := "3ca087b95be518bd67b2feb59d5d2229f3623a3e5d58f5c9ba388ec715fe4003", func := "bonsai/bonsailaw18.PathTells", spec := "pathTells", unfollowed := true, recurses := true, named := ["bonsai/tree.counts"], apart := false, laid := [("bonsai/tree.counts", laid_bonsai_tree_counts)] }
def PathTellsSaid : Prop := pathTellsRow.holds Tryd.pinned (OpenSpec.ofChange pathTellsSpec)

/-- ITS FALSE NEIGHBOUR: 'it returns false'. Refute it at one input. -/
def pathTellsWrong : ChangeSpec := { name := "pathTells", fn := fun _ => fun
  | [d1, d2, d3] => { results := [.lit (.bool false)], args := [d1, d2, d3] }
  | _ => none }
def PathTellsWrongFalsely : Prop := pathTellsRow.holds Tryd.pinned (OpenSpec.ofChange pathTellsWrong)

/-- 'bonsailaw18.PathApart': WHATEVER THE INPUT: true; the input reads as it did. -/
def pathApartSpec : ChangeSpec := { name := "pathApart", fn := fun _ => fun
  | [d1, d2, d3, d4, d5] => { results := [.lit (.bool true)], args := [d1, d2, d3, d4, d5] }
  | _ => none }
def pathApartRow : OpenClaim := { program := "ytfncfmiccomgcaadoor", sum := "3ca087b95be518bd67b2feb59d5d2229f3623a3e5d58f5c9ba388ec715fe4003", func := "bonsai/bonsailaw18.PathApart", spec := "pathApart", unfollowed := true, recurses := true, named := ["bonsai/tree.counts"], apart := false, laid := [("bonsai/tree.counts", laid_bonsai_tree_counts)] }
def PathApartSaid : Prop := pathApartRow.holds Tryd.pinned (OpenSpec.ofChange pathApartSpec)

/-- ITS FALSE NEIGHBOUR: 'it returns false'. Refute it at one input. -/
def pathApartWrong : ChangeSpec := { name := "pathApart", fn := fun _ => fun
  | [d1, d2, d3, d4, d5] => { results := [.lit (.bool false)], args := [d1, d2, d3, d4, d5] }
  | _ => none }
def PathApartWrongFalsely : Prop := pathApartRow.holds Tryd.pinned (OpenSpec.ofChange pathApartWrong)

/-- 'bonsailaw18.PathPut': WHATEVER THE INPUT: true; the input reads as it did. -/
def pathPutSpec : ChangeSpec := { name := "pathPut", fn := fun _ => fun
  | [d1, d2, d3, d4] => { results := [.lit (.bool true)], args := [d1, d2, d3, d4] }
  | _ => none }
def pathPutRow : OpenClaim := { program := "ytfncfmiccomgcaadoor", sum := "3ca087b95be518bd67b2feb59d5d2229f3623a3e5d58f5c9ba388ec715fe4003", func := "bonsai/bonsailaw18.PathPut", spec := "pathPut", unfollowed := true, recurses := true, named := ["bonsai/tree.counts"], apart := false, laid := [("bonsai/tree.counts", laid_bonsai_tree_counts)] }
def PathPutSaid : Prop := pathPutRow.holds Tryd.pinned (OpenSpec.ofChange pathPutSpec)

/-- ITS FALSE NEIGHBOUR: 'it returns false'. Refute it at one input. -/
def pathPutWrong : ChangeSpec := { name := "pathPut", fn := fun _ => fun
  | [d1, d2, d3, d4] => { results := [.lit (.bool false)], args := [d1, d2, d3, d4] }
  | _ => none }
def PathPutWrongFalsely : Prop := pathPutRow.holds Tryd.pinned (OpenSpec.ofChange pathPutWrong)

/- THE SECOND FORM. 'bulk': how many values and letters a reading holds, each counted each time it is reached (what is shared counts as often as it is met; a slice's spare places count too). A statement '..UptoSaid' is the law's where the arguments, and the package variables that the reading takes, are together of bulk at most 1048576: NARROWER than '..Said'. Prove '..Said' where nothing that the law and all that it calls make is longer than what came in: it says more and counts as full. Else prove '..UptoSaid'. A law counts once. -/
mutual
def uptoBulk {H : Type} : DataW H → Nat
  | .lit (.string bytes) => bytes.length + 1
  | .lit _ => 1
  | .nil => 1
  | .ptr d => uptoBulk d + 1
  | .slice elems spare => uptoBulkAll elems + uptoBulkAll spare + 1
  | .agg parts => uptoBulkAll parts + 1
  | .iface _ d => uptoBulk d + 1
  | .map entries => uptoBulkEntries entries + 1
  | .held _ => 1
def uptoBulkAll {H : Type} : List (DataW H) → Nat
  | [] => 0
  | d :: r => uptoBulk d + uptoBulkAll r
def uptoBulkEntries {H : Type} : List (Lit × DataW H) → Nat
  | [] => 0
  | x :: r => uptoBulkEntry x + uptoBulkEntries r
def uptoBulkEntry {H : Type} : Lit × DataW H → Nat
  | (.string bytes, d) => bytes.length + uptoBulk d + 1
  | (_, d) => uptoBulk d + 1
 end
def uptoSmall : (H : Type) → List (DataW H) → Bool := fun _ ds => decide (uptoBulkAll ds ≤ 1048576)
def OpenSpec.upto (s : _root_.Go.ChangeSpec) : _root_.Go.OpenSpec := { _root_.Go.OpenSpec.ofChange s with cond := some uptoSmall }

/-- 'bonsailaw18.PathTells', WHERE WHAT IT READS IS OF BULK AT MOST 1048576: true; the input reads as it did. -/
def pathTellsUptoRow : OpenClaim := { program := "ytfncfmiccomgcaadoor", sum := "3ca087b95be518bd67b2feb59d5d2229f3623a3e5d58f5c9ba388ec715fe4003", func := "bonsai/bonsailaw18.PathTells", spec := "pathTells", unfollowed := true, recurses := true, named := ["bonsai/tree.counts"], apart := false, laid := [("bonsai/tree.counts", laid_bonsai_tree_counts)], narrowed := true }
def PathTellsUptoSaid : Prop := pathTellsUptoRow.holds Tryd.pinned (OpenSpec.upto pathTellsSpec)

/-- 'bonsailaw18.PathApart', WHERE WHAT IT READS IS OF BULK AT MOST 1048576: true; the input reads as it did. -/
def pathApartUptoRow : OpenClaim := { program := "ytfncfmiccomgcaadoor", sum := "3ca087b95be518bd67b2feb59d5d2229f3623a3e5d58f5c9ba388ec715fe4003", func := "bonsai/bonsailaw18.PathApart", spec := "pathApart", unfollowed := true, recurses := true, named := ["bonsai/tree.counts"], apart := false, laid := [("bonsai/tree.counts", laid_bonsai_tree_counts)], narrowed := true }
def PathApartUptoSaid : Prop := pathApartUptoRow.holds Tryd.pinned (OpenSpec.upto pathApartSpec)

/-- 'bonsailaw18.PathPut', WHERE WHAT IT READS IS OF BULK AT MOST 1048576: true; the input reads as it did. -/
def pathPutUptoRow : OpenClaim := { program := "ytfncfmiccomgcaadoor", sum := "3ca087b95be518bd67b2feb59d5d2229f3623a3e5d58f5c9ba388ec715fe4003", func := "bonsai/bonsailaw18.PathPut", spec := "pathPut", unfollowed := true, recurses := true, named := ["bonsai/tree.counts"], apart := false, laid := [("bonsai/tree.counts", laid_bonsai_tree_counts)], narrowed := true }
def PathPutUptoSaid : Prop := pathPutUptoRow.holds Tryd.pinned (OpenSpec.upto pathPutSpec)

end Rows
end Go.Proofs.YtfncfmiccomgcaaDoor
