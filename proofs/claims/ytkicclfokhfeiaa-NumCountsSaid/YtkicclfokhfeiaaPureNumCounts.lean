/- Proves that counters, added and subtracted, are what the document says: for every numbers, no condition. -/
import Derived.Test.YtkicclfokhfeiaaEvalNumCounts
namespace Go.Proofs.Ytkicclfokhfeiaa.Pure
open Go.RowKit Go.Proofs.Ytkicclfokhfeiaa.PNumCounts Go.Proofs.YtkicclfokhfeiaaW.PrintWords Go.Proofs.YtkicclfokhfeiaaW.PrintLast

theorem counts_keep (a : Int) : fairleadref01_keep.f a = some (ev_cl a) := by
  unfold fairleadref01_keep.f ev_cl
  split
  · rfl
  · split <;> rfl
theorem counts_Sum (a b : Int) : fairleadref01_Sum.f a b = some (ev_sum a b) := by
  unfold fairleadref01_Sum.f ev_sum
  simp only [counts_keep, Option.bind_some]
  have ha := ev_cl_le a
  have hb := ev_cl_le b
  generalize ev_cl a = x at *
  generalize ev_cl b = y at *
  rw [show wrap64 (4611686018427387904 - y) = 4611686018427387904 - y from by unfold wrap64; omega]
  by_cases h : x > 4611686018427387904 - y
  · rw [if_pos h, if_pos (by omega)]
  · rw [if_neg h, if_neg (by omega)]
    congr 1
    unfold wrap64; omega
theorem counts_Less (a b : Int) : fairleadref01_Less.f a b = some (ev_less a b) := by
  unfold fairleadref01_Less.f ev_less
  simp only [counts_keep, Option.bind_some]
  have ha := ev_cl_le a
  have hb := ev_cl_le b
  generalize ev_cl a = x at *
  generalize ev_cl b = y at *
  by_cases h : y > x
  · rw [if_pos h, if_pos h]
  · rw [if_neg h, if_neg h]
    congr 1
    unfold wrap64; omega

theorem NumCounts : fairleadlaw01_NumCounts.Pure := by
  intro a b _ _
  refine ⟨20, ?_⟩
  unfold fairleadlaw01_NumCounts.f
  rw [ev_Sum, ev_Less, counts_Sum, counts_Less, ev_heads20]
  simp only [Option.bind_some, if_true]

end Go.Proofs.Ytkicclfokhfeiaa.Pure
