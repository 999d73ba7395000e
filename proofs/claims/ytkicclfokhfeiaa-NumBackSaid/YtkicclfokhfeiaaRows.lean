/-
  No cell of these rows narrows 'for every input' (looked for: loops, veiled, ifaces, maps, wideKeys, modest, calm, conditions, laid).
  DERIVED. THE GIVEN ROWS OF THIS SEAT. 5 by the template 'for every input the law returns true; each argument reads behind the call as it read before'; 0 by the template 'total and deterministic' (their statements: YtkicclfokhfeiaaTotals.lean).
  GIVEN WITH THE SEED: the statements are not yours to turn. If you find one false, say at which input.
  Laid BY PROGRAM, IN A SANDBOX (cutbox-rows.mjs): the forced cells as the released guide's own fill.sh prints them over the translation a916d2b1de20209d… (all of the seat's roots in one cut). By AI agents, Wed Nov 11 2026. No macro, syntax, notation, axiom, sorry.
-/
import Derived.Test.YtkicclfokhfeiaaChecked
import GoSem.Claim
import GoSem.ClaimJoined
import GoSem.ClaimMapViews
import Derived.JoinedTies
import Derived.KernelRfl
namespace Go.Proofs.Ytkicclfokhfeiaa
/- THE CELL 'sum', in the pinned program and in every row, IS THE sha256 OF THE DUMP (.gsa) THAT YtkicclfokhfeiaaProg.lean LOADS. Nothing in Lean hashes anything: it is a label: what it is worth is what the hold of that sum in a sandbox is worth. -/
noncomputable def Try.pinned : Pinned := { name := "ytkicclfokhfeiaa", sum := "a916d2b1de20209d0a02c54ae68d49d47ccc16bdb21c2454a64d1242d3f3b420", checked := Try.checked }
namespace Rows
def none {H : Type} : Left H := { results := [], args := [] }

/-- 'fairleadlaw01.NumHex': WHATEVER THE INPUT: true; the input reads as it did. -/
def numHexSpec : ChangeSpec := { name := "numHex", fn := fun _ => fun
  | [d] => { results := [.lit (.bool true)], args := [d] }
  | _ => none }
def numHexRow : OpenClaim := { program := "ytkicclfokhfeiaa", sum := "a916d2b1de20209d0a02c54ae68d49d47ccc16bdb21c2454a64d1242d3f3b420", func := "fairlead/fairleadlaw01.NumHex", spec := "numHex", apart := false }
def NumHexSaid : Prop := numHexRow.holds Try.pinned (OpenSpec.ofChange numHexSpec)

/-- ITS FALSE NEIGHBOUR: 'it returns false'. Refute it at one input. -/
def numHexWrong : ChangeSpec := { name := "numHex", fn := fun _ => fun
  | [d] => { results := [.lit (.bool false)], args := [d] }
  | _ => none }
def NumHexWrongFalsely : Prop := numHexRow.holds Try.pinned (OpenSpec.ofChange numHexWrong)

/-- 'fairleadlaw01.NumCounts': WHATEVER THE INPUT: true; the input reads as it did. -/
def numCountsSpec : ChangeSpec := { name := "numCounts", fn := fun _ => fun
  | [d1, d2] => { results := [.lit (.bool true)], args := [d1, d2] }
  | _ => none }
def numCountsRow : OpenClaim := { program := "ytkicclfokhfeiaa", sum := "a916d2b1de20209d0a02c54ae68d49d47ccc16bdb21c2454a64d1242d3f3b420", func := "fairlead/fairleadlaw01.NumCounts", spec := "numCounts", apart := false }
def NumCountsSaid : Prop := numCountsRow.holds Try.pinned (OpenSpec.ofChange numCountsSpec)

/-- ITS FALSE NEIGHBOUR: 'it returns false'. Refute it at one input. -/
def numCountsWrong : ChangeSpec := { name := "numCounts", fn := fun _ => fun
  | [d1, d2] => { results := [.lit (.bool false)], args := [d1, d2] }
  | _ => none }
def NumCountsWrongFalsely : Prop := numCountsRow.holds Try.pinned (OpenSpec.ofChange numCountsWrong)

/-- 'fairleadlaw01.NumBack': WHATEVER THE INPUT: true; the input reads as it did. -/
def numBackSpec : ChangeSpec := { name := "numBack", fn := fun _ => fun
  | [d1, d2, d3] => { results := [.lit (.bool true)], args := [d1, d2, d3] }
  | _ => none }
def numBackRow : OpenClaim := { program := "ytkicclfokhfeiaa", sum := "a916d2b1de20209d0a02c54ae68d49d47ccc16bdb21c2454a64d1242d3f3b420", func := "fairlead/fairleadlaw01.NumBack", spec := "numBack", apart := false }
def NumBackSaid : Prop := numBackRow.holds Try.pinned (OpenSpec.ofChange numBackSpec)

/-- ITS FALSE NEIGHBOUR: 'it returns false'. Refute it at one input. -/
def numBackWrong : ChangeSpec := { name := "numBack", fn := fun _ => fun
  | [d1, d2, d3] => { results := [.lit (.bool false)], args := [d1, d2, d3] }
  | _ => none }
def NumBackWrongFalsely : Prop := numBackRow.holds Try.pinned (OpenSpec.ofChange numBackWrong)

/-- 'fairleadlaw01.NumStays': WHATEVER THE INPUT: true; the input reads as it did. -/
def numStaysSpec : ChangeSpec := { name := "numStays", fn := fun _ => fun
  | [d1, d2, d3] => { results := [.lit (.bool true)], args := [d1, d2, d3] }
  | _ => none }
def numStaysRow : OpenClaim := { program := "ytkicclfokhfeiaa", sum := "a916d2b1de20209d0a02c54ae68d49d47ccc16bdb21c2454a64d1242d3f3b420", func := "fairlead/fairleadlaw01.NumStays", spec := "numStays", apart := false }
def NumStaysSaid : Prop := numStaysRow.holds Try.pinned (OpenSpec.ofChange numStaysSpec)

/-- ITS FALSE NEIGHBOUR: 'it returns false'. Refute it at one input. -/
def numStaysWrong : ChangeSpec := { name := "numStays", fn := fun _ => fun
  | [d1, d2, d3] => { results := [.lit (.bool false)], args := [d1, d2, d3] }
  | _ => none }
def NumStaysWrongFalsely : Prop := numStaysRow.holds Try.pinned (OpenSpec.ofChange numStaysWrong)

/-- 'fairleadlaw01.NumOrder': WHATEVER THE INPUT: true; the input reads as it did. -/
def numOrderSpec : ChangeSpec := { name := "numOrder", fn := fun _ => fun
  | [d1, d2] => { results := [.lit (.bool true)], args := [d1, d2] }
  | _ => none }
def numOrderRow : OpenClaim := { program := "ytkicclfokhfeiaa", sum := "a916d2b1de20209d0a02c54ae68d49d47ccc16bdb21c2454a64d1242d3f3b420", func := "fairlead/fairleadlaw01.NumOrder", spec := "numOrder", apart := false }
def NumOrderSaid : Prop := numOrderRow.holds Try.pinned (OpenSpec.ofChange numOrderSpec)

/-- ITS FALSE NEIGHBOUR: 'it returns false'. Refute it at one input. -/
def numOrderWrong : ChangeSpec := { name := "numOrder", fn := fun _ => fun
  | [d1, d2] => { results := [.lit (.bool false)], args := [d1, d2] }
  | _ => none }
def NumOrderWrongFalsely : Prop := numOrderRow.holds Try.pinned (OpenSpec.ofChange numOrderWrong)

/- THE SECOND FORM. 'bulk': how many values and letters a reading holds, each counted each time it is reached (what is shared counts as often as it is met; a slice's spare places count too). A statement '..UptoSaid' is the law's where the arguments, and the package variables that the reading takes, are together of bulk at most 1048576: NARROWER than '..Said'. Prove '..Said' where nothing that the law and all that it calls make is longer than what came in: it says more and counts as full. Else prove '..UptoSaid'. A law counts once. -/
mutual
def uptoBulk {H : Type} : DataW H → Nat
  | .lit (.string bytes) => bytes.length + 1
  | .lit _ => 1
  | .nil => 1
  | .ptr d => uptoBulk d + 1
  | .slice elems spare => uptoBulkAll elems + uptoBulkAll spare + 1
  | .agg parts => uptoBulkAll parts + 1
  | .iface _ d => uptoBulk d + 1
  | .map entries => uptoBulkEntries entries + 1
  | .held _ => 1
def uptoBulkAll {H : Type} : List (DataW H) → Nat
  | [] => 0
  | d :: r => uptoBulk d + uptoBulkAll r
def uptoBulkEntries {H : Type} : List (Lit × DataW H) → Nat
  | [] => 0
  | x :: r => uptoBulkEntry x + uptoBulkEntries r
def uptoBulkEntry {H : Type} : Lit × DataW H → Nat
  | (.string bytes, d) => bytes.length + uptoBulk d + 1
  | (_, d) => uptoBulk d + 1
 end
def uptoSmall : (H : Type) → List (DataW H) → Bool := fun _ ds => decide (uptoBulkAll ds ≤ 1048576)
def OpenSpec.upto (s : _root_.Go.ChangeSpec) : _root_.Go.OpenSpec := { _root_.Go.OpenSpec.ofChange s with cond := some uptoSmall }

/-- 'fairleadlaw01.NumHex', WHERE WHAT IT READS IS OF BULK AT MOST 1048576: true; the input reads as it did. -/
def numHexUptoRow : OpenClaim := { program := "ytkicclfokhfeiaa", sum := "a916d2b1de20209d0a02c54ae68d49d47ccc16bdb21c2454a64d1242d3f3b420", func := "fairlead/fairleadlaw01.NumHex", spec := "numHex", apart := false, narrowed := true }
def NumHexUptoSaid : Prop := numHexUptoRow.holds Try.pinned (OpenSpec.upto numHexSpec)

/-- 'fairleadlaw01.NumCounts', WHERE WHAT IT READS IS OF BULK AT MOST 1048576: true; the input reads as it did. -/
def numCountsUptoRow : OpenClaim := { program := "ytkicclfokhfeiaa", sum := "a916d2b1de20209d0a02c54ae68d49d47ccc16bdb21c2454a64d1242d3f3b420", func := "fairlead/fairleadlaw01.NumCounts", spec := "numCounts", apart := false, narrowed := true }
def NumCountsUptoSaid : Prop := numCountsUptoRow.holds Try.pinned (OpenSpec.upto numCountsSpec)

/-- 'fairleadlaw01.NumBack', WHERE WHAT IT READS IS OF BULK AT MOST 1048576: true; the input reads as it did. -/
def numBackUptoRow : OpenClaim := { program := "ytkicclfokhfeiaa", sum := "a916d2b1de20209d0a02c54ae68d49d47ccc16bdb21c2454a64d1242d3f3b420", func := "fairlead/fairleadlaw01.NumBack", spec := "numBack", apart := false, narrowed := true }
def NumBackUptoSaid : Prop := numBackUptoRow.holds Try.pinned (OpenSpec.upto numBackSpec)

/-- 'fairleadlaw01.NumStays', WHERE WHAT IT READS IS OF BULK AT MOST 1048576: true; the input reads as it did. -/
def numStaysUptoRow : OpenClaim := { program := "ytkicclfokhfeiaa", sum := "a916d2b1de20209d0a02c54ae68d49d47ccc16bdb21c2454a64d1242d3f3b420", func := "fairlead/fairleadlaw01.NumStays", spec := "numStays", apart := false, narrowed := true }
def NumStaysUptoSaid : Prop := numStaysUptoRow.holds Try.pinned (OpenSpec.upto numStaysSpec)

/-- 'fairleadlaw01.NumOrder', WHERE WHAT IT READS IS OF BULK AT MOST 1048576: true; the input reads as it did. -/
def numOrderUptoRow : OpenClaim := { program := "ytkicclfokhfeiaa", sum := "a916d2b1de20209d0a02c54ae68d49d47ccc16bdb21c2454a64d1242d3f3b420", func := "fairlead/fairleadlaw01.NumOrder", spec := "numOrder", apart := false, narrowed := true }
def NumOrderUptoSaid : Prop := numOrderUptoRow.holds Try.pinned (OpenSpec.upto numOrderSpec)

end Rows
end Go.Proofs.Ytkicclfokhfeiaa
