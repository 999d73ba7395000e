/- What comes at any rate is so; what counters come to. -/
import Derived.Test.YtkicclfokhfeiaaPNumBackx3
namespace Go.Proofs.Ytkicclfokhfeiaa.PNumBack
open Go.RowKit Go.Proofs.YtkicclfokhfeiaaW.PrintWords Go.Proofs.YtkicclfokhfeiaaW.PrintLast

theorem ev_dec120 : num_Dec.f 120 = some (strOfNums [49, 50, 48]) := by
  unfold num_Dec.f
  rw [if_pos (by decide), show Int.toNat 120 = 120 from rfl, num_decs, if_neg (by decide), num_decs, if_neg (by decide), num_decs, if_pos (by decide)]
  rfl

theorem ev_heads20 : fairleadlaw01_heads.f 20 = some true := by
  have h1 : num_Unhex.f 20 (⟨#[48, 97, 102, 102]⟩ : ByteArray) = some ([10, 255], true) := by decide +kernel
  have h2 : num_Unhex.f 20 (⟨#[48, 65]⟩ : ByteArray) = some ([], false) := by decide +kernel
  have h3 : num_Sum.f 4611686018427387904 5 = some 4611686018427387904 := by decide +kernel
  have h4 : num_Less.f 3 5 = some 0 := by decide +kernel
  have h5 : num_Put.f 20 258 2 = some [1, 2] := by decide +kernel
  have h6 : num_Hex.f 20 [10] = some (strOfNums [48, 97]) := by decide +kernel
  have h7 : num_Get.f 20 [1, 0] = some 256 := by decide +kernel
  unfold fairleadlaw01_heads.f
  rw [h1, h2, h3, h4, h5, h6, h7, ev_dec120]
  simp only [Option.bind_some, if_true]
  unfold fairleadref01_Same.f
  simp only [Option.bind_some, beq_self_eq_true, if_true]
  rw [if_pos (by rw [ByteArray.toList_eq]; rfl), if_pos (by decide), if_pos (by decide), if_pos (by decide), if_neg (by decide), if_pos (by rw [ByteArray.toList_eq]; rfl)]
theorem ev_heads (k : Nat) (hk : 20 ≤ k) : fairleadlaw01_heads.f k = some true := at_rounds (g := fairleadlaw01_heads.f) fairleadlaw01_heads.mono hk ev_heads20

/-! counters -/
def ev_cl (a : Int) : Int := if a < 0 then 0 else if a > 4611686018427387904 then 4611686018427387904 else a
theorem ev_cl_le (a : Int) : 0 ≤ ev_cl a ∧ ev_cl a ≤ 4611686018427387904 := by unfold ev_cl; split <;> (try split) <;> omega
theorem ev_within (a : Int) : num_within.f a = some (ev_cl a) := by
  unfold num_within.f ev_cl
  congr 1
  unfold mx mn
  repeat' split
  all_goals omega
def ev_sum (a b : Int) : Int := if ev_cl a + ev_cl b > 4611686018427387904 then 4611686018427387904 else ev_cl a + ev_cl b
theorem ev_Sum (a b : Int) : num_Sum.f a b = some (ev_sum a b) := by
  unfold num_Sum.f ev_sum
  simp only [ev_within, Option.bind_some]
  have ha := ev_cl_le a
  have hb := ev_cl_le b
  generalize ev_cl a = x at *
  generalize ev_cl b = y at *
  rw [show wrap64 (4611686018427387904 - x) = 4611686018427387904 - x from by unfold wrap64; omega]
  congr 1
  unfold mn
  split <;> split <;> unfold wrap64 <;> omega
def ev_less (a b : Int) : Int := if ev_cl b > ev_cl a then 0 else ev_cl a - ev_cl b
theorem ev_Less (a b : Int) : num_Less.f a b = some (ev_less a b) := by
  unfold num_Less.f ev_less
  simp only [ev_within, Option.bind_some]
  have ha := ev_cl_le a
  have hb := ev_cl_le b
  generalize ev_cl a = x at *
  generalize ev_cl b = y at *
  rw [show wrap64 (x - y) = x - y from by unfold wrap64; omega]
  congr 1
  unfold mx
  split <;> split <;> omega

end Go.Proofs.Ytkicclfokhfeiaa.PNumBack
