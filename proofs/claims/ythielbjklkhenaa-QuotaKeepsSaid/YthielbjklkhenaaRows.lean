/-
  No cell of these rows narrows 'for every input' (looked for: loops, veiled, ifaces, maps, wideKeys, modest, calm, conditions, laid).
  DERIVED. THE GIVEN ROWS OF THIS SEAT. 4 by the template 'for every input the law returns true; each argument reads behind the call as it read before'; 0 by the template 'total and deterministic' (their statements: YthielbjklkhenaaTotals.lean).
  GIVEN WITH THE SEED: the statements are not yours to turn. If you find one false, say at which input.
  Laid BY PROGRAM, IN A SANDBOX (cutbox-rows.mjs): the forced cells as the released guide's own fill.sh prints them over the translation 86e7e4efe863a753… (all of the seat's roots in one cut). By AI agents, Wed Nov 11 2026. No macro, syntax, notation, axiom, sorry.
-/
import Derived.Test.YthielbjklkhenaaChecked
import GoSem.Claim
import GoSem.ClaimJoined
import GoSem.ClaimMapViews
import Derived.JoinedTies
import Derived.KernelRfl
namespace Go.Proofs.Ythielbjklkhenaa
/- THE CELL 'sum', in the pinned program and in every row, IS THE sha256 OF THE DUMP (.gsa) THAT YthielbjklkhenaaProg.lean LOADS. Nothing in Lean hashes anything: it is a label: what it is worth is what the hold of that sum in a sandbox is worth. -/
noncomputable def Try.pinned : Pinned := { name := "ythielbjklkhenaa", sum := "86e7e4efe863a7530c1c0f9156782a1f72cef4e44f58a05bacfdc5872264f924", checked := Try.checked }
namespace Rows
def none {H : Type} : Left H := { results := [], args := [] }

/-- 'fairleadlaw16.QuotaCounts': WHATEVER THE INPUT: true; the input reads as it did. -/
def quotaCountsSpec : ChangeSpec := { name := "quotaCounts", fn := fun _ => fun
  | [d1, d2, d3] => { results := [.lit (.bool true)], args := [d1, d2, d3] }
  | _ => none }
def quotaCountsRow : OpenClaim := { program := "ythielbjklkhenaa", sum := "86e7e4efe863a7530c1c0f9156782a1f72cef4e44f58a05bacfdc5872264f924", func := "fairlead/fairleadlaw16.QuotaCounts", spec := "quotaCounts", apart := false }
def QuotaCountsSaid : Prop := quotaCountsRow.holds Try.pinned (OpenSpec.ofChange quotaCountsSpec)

/-- ITS FALSE NEIGHBOUR: 'it returns false'. Refute it at one input. -/
def quotaCountsWrong : ChangeSpec := { name := "quotaCounts", fn := fun _ => fun
  | [d1, d2, d3] => { results := [.lit (.bool false)], args := [d1, d2, d3] }
  | _ => none }
def QuotaCountsWrongFalsely : Prop := quotaCountsRow.holds Try.pinned (OpenSpec.ofChange quotaCountsWrong)

/-- 'fairleadlaw16.QuotaBack': WHATEVER THE INPUT: true; the input reads as it did. -/
def quotaBackSpec : ChangeSpec := { name := "quotaBack", fn := fun _ => fun
  | [d1, d2] => { results := [.lit (.bool true)], args := [d1, d2] }
  | _ => none }
def quotaBackRow : OpenClaim := { program := "ythielbjklkhenaa", sum := "86e7e4efe863a7530c1c0f9156782a1f72cef4e44f58a05bacfdc5872264f924", func := "fairlead/fairleadlaw16.QuotaBack", spec := "quotaBack", apart := false }
def QuotaBackSaid : Prop := quotaBackRow.holds Try.pinned (OpenSpec.ofChange quotaBackSpec)

/-- ITS FALSE NEIGHBOUR: 'it returns false'. Refute it at one input. -/
def quotaBackWrong : ChangeSpec := { name := "quotaBack", fn := fun _ => fun
  | [d1, d2] => { results := [.lit (.bool false)], args := [d1, d2] }
  | _ => none }
def QuotaBackWrongFalsely : Prop := quotaBackRow.holds Try.pinned (OpenSpec.ofChange quotaBackWrong)

/-- 'fairleadlaw16.QuotaKeeps': WHATEVER THE INPUT: true; the input reads as it did. -/
def quotaKeepsSpec : ChangeSpec := { name := "quotaKeeps", fn := fun _ => fun
  | [d1, d2, d3] => { results := [.lit (.bool true)], args := [d1, d2, d3] }
  | _ => none }
def quotaKeepsRow : OpenClaim := { program := "ythielbjklkhenaa", sum := "86e7e4efe863a7530c1c0f9156782a1f72cef4e44f58a05bacfdc5872264f924", func := "fairlead/fairleadlaw16.QuotaKeeps", spec := "quotaKeeps", apart := false }
def QuotaKeepsSaid : Prop := quotaKeepsRow.holds Try.pinned (OpenSpec.ofChange quotaKeepsSpec)

/-- ITS FALSE NEIGHBOUR: 'it returns false'. Refute it at one input. -/
def quotaKeepsWrong : ChangeSpec := { name := "quotaKeeps", fn := fun _ => fun
  | [d1, d2, d3] => { results := [.lit (.bool false)], args := [d1, d2, d3] }
  | _ => none }
def QuotaKeepsWrongFalsely : Prop := quotaKeepsRow.holds Try.pinned (OpenSpec.ofChange quotaKeepsWrong)

/-- 'fairleadlaw16.QuotaLeft': WHATEVER THE INPUT: true; the input reads as it did. -/
def quotaLeftSpec : ChangeSpec := { name := "quotaLeft", fn := fun _ => fun
  | [d1, d2] => { results := [.lit (.bool true)], args := [d1, d2] }
  | _ => none }
def quotaLeftRow : OpenClaim := { program := "ythielbjklkhenaa", sum := "86e7e4efe863a7530c1c0f9156782a1f72cef4e44f58a05bacfdc5872264f924", func := "fairlead/fairleadlaw16.QuotaLeft", spec := "quotaLeft", apart := false }
def QuotaLeftSaid : Prop := quotaLeftRow.holds Try.pinned (OpenSpec.ofChange quotaLeftSpec)

/-- ITS FALSE NEIGHBOUR: 'it returns false'. Refute it at one input. -/
def quotaLeftWrong : ChangeSpec := { name := "quotaLeft", fn := fun _ => fun
  | [d1, d2] => { results := [.lit (.bool false)], args := [d1, d2] }
  | _ => none }
def QuotaLeftWrongFalsely : Prop := quotaLeftRow.holds Try.pinned (OpenSpec.ofChange quotaLeftWrong)

/- THE SECOND FORM. 'bulk': how many values and letters a reading holds, each counted each time it is reached (what is shared counts as often as it is met; a slice's spare places count too). A statement '..UptoSaid' is the law's where the arguments, and the package variables that the reading takes, are together of bulk at most 1048576: NARROWER than '..Said'. Prove '..Said' where nothing that the law and all that it calls make is longer than what came in: it says more and counts as full. Else prove '..UptoSaid'. A law counts once. -/
mutual
def uptoBulk {H : Type} : DataW H → Nat
  | .lit (.string bytes) => bytes.length + 1
  | .lit _ => 1
  | .nil => 1
  | .ptr d => uptoBulk d + 1
  | .slice elems spare => uptoBulkAll elems + uptoBulkAll spare + 1
  | .agg parts => uptoBulkAll parts + 1
  | .iface _ d => uptoBulk d + 1
  | .map entries => uptoBulkEntries entries + 1
  | .held _ => 1
def uptoBulkAll {H : Type} : List (DataW H) → Nat
  | [] => 0
  | d :: r => uptoBulk d + uptoBulkAll r
def uptoBulkEntries {H : Type} : List (Lit × DataW H) → Nat
  | [] => 0
  | x :: r => uptoBulkEntry x + uptoBulkEntries r
def uptoBulkEntry {H : Type} : Lit × DataW H → Nat
  | (.string bytes, d) => bytes.length + uptoBulk d + 1
  | (_, d) => uptoBulk d + 1
 end
def uptoSmall : (H : Type) → List (DataW H) → Bool := fun _ ds => decide (uptoBulkAll ds ≤ 1048576)
def OpenSpec.upto (s : _root_.Go.ChangeSpec) : _root_.Go.OpenSpec := { _root_.Go.OpenSpec.ofChange s with cond := some uptoSmall }

/-- 'fairleadlaw16.QuotaCounts', WHERE WHAT IT READS IS OF BULK AT MOST 1048576: true; the input reads as it did. -/
def quotaCountsUptoRow : OpenClaim := { program := "ythielbjklkhenaa", sum := "86e7e4efe863a7530c1c0f9156782a1f72cef4e44f58a05bacfdc5872264f924", func := "fairlead/fairleadlaw16.QuotaCounts", spec := "quotaCounts", apart := false, narrowed := true }
def QuotaCountsUptoSaid : Prop := quotaCountsUptoRow.holds Try.pinned (OpenSpec.upto quotaCountsSpec)

/-- 'fairleadlaw16.QuotaBack', WHERE WHAT IT READS IS OF BULK AT MOST 1048576: true; the input reads as it did. -/
def quotaBackUptoRow : OpenClaim := { program := "ythielbjklkhenaa", sum := "86e7e4efe863a7530c1c0f9156782a1f72cef4e44f58a05bacfdc5872264f924", func := "fairlead/fairleadlaw16.QuotaBack", spec := "quotaBack", apart := false, narrowed := true }
def QuotaBackUptoSaid : Prop := quotaBackUptoRow.holds Try.pinned (OpenSpec.upto quotaBackSpec)

/-- 'fairleadlaw16.QuotaKeeps', WHERE WHAT IT READS IS OF BULK AT MOST 1048576: true; the input reads as it did. -/
def quotaKeepsUptoRow : OpenClaim := { program := "ythielbjklkhenaa", sum := "86e7e4efe863a7530c1c0f9156782a1f72cef4e44f58a05bacfdc5872264f924", func := "fairlead/fairleadlaw16.QuotaKeeps", spec := "quotaKeeps", apart := false, narrowed := true }
def QuotaKeepsUptoSaid : Prop := quotaKeepsUptoRow.holds Try.pinned (OpenSpec.upto quotaKeepsSpec)

/-- 'fairleadlaw16.QuotaLeft', WHERE WHAT IT READS IS OF BULK AT MOST 1048576: true; the input reads as it did. -/
def quotaLeftUptoRow : OpenClaim := { program := "ythielbjklkhenaa", sum := "86e7e4efe863a7530c1c0f9156782a1f72cef4e44f58a05bacfdc5872264f924", func := "fairlead/fairleadlaw16.QuotaLeft", spec := "quotaLeft", apart := false, narrowed := true }
def QuotaLeftUptoSaid : Prop := quotaLeftUptoRow.holds Try.pinned (OpenSpec.upto quotaLeftSpec)

end Rows
end Go.Proofs.Ythielbjklkhenaa
