/- Proves that a counter never turns, nor falls by adding, nor below nought: for every numbers, no condition. -/
import Derived.Test.YtkicclfokhfeiaaEvalNumStays
namespace Go.Proofs.Ytkicclfokhfeiaa.Pure
open Go.RowKit Go.Proofs.Ytkicclfokhfeiaa.PNumStays Go.Proofs.YtkicclfokhfeiaaW.PrintWords Go.Proofs.YtkicclfokhfeiaaW.PrintLast

theorem stays_cl_of {a : Int} (h0 : 0 ≤ a) (h1 : a ≤ 4611686018427387904) : ev_cl a = a := by
  unfold ev_cl; rw [if_neg (by omega), if_neg (by omega)]
theorem stays_sum_le (a b : Int) : 0 ≤ ev_sum a b ∧ ev_sum a b ≤ 4611686018427387904 := by
  have ha := ev_cl_le a
  have hb := ev_cl_le b
  unfold ev_sum; split <;> omega
theorem stays_def (a b : Int) : ev_sum a b = if ev_cl a + ev_cl b > 4611686018427387904 then 4611686018427387904 else ev_cl a + ev_cl b := rfl
theorem stays_assoc (a b c : Int) : ev_sum (ev_sum a b) c = ev_sum a (ev_sum b c) := by
  have h1 := stays_sum_le a b
  have h2 := stays_sum_le b c
  have e1 : ev_cl (ev_sum a b) = ev_sum a b := stays_cl_of h1.1 h1.2
  have e2 : ev_cl (ev_sum b c) = ev_sum b c := stays_cl_of h2.1 h2.2
  have ha := ev_cl_le a
  have hb := ev_cl_le b
  have hc := ev_cl_le c
  have d1 : ev_sum (ev_sum a b) c = if ev_sum a b + ev_cl c > 4611686018427387904 then 4611686018427387904 else ev_sum a b + ev_cl c := by
    rw [stays_def (ev_sum a b) c, e1]
  have d2 : ev_sum a (ev_sum b c) = if ev_cl a + ev_sum b c > 4611686018427387904 then 4611686018427387904 else ev_cl a + ev_sum b c := by
    rw [stays_def a (ev_sum b c), e2]
  rw [d1, d2]
  have f1 : ev_sum a b = if ev_cl a + ev_cl b > 4611686018427387904 then 4611686018427387904 else ev_cl a + ev_cl b := rfl
  have f2 : ev_sum b c = if ev_cl b + ev_cl c > 4611686018427387904 then 4611686018427387904 else ev_cl b + ev_cl c := rfl
  rw [f1, f2]
  generalize ev_cl a = x at *
  generalize ev_cl b = y at *
  generalize ev_cl c = z at *
  clear d1 d2 f1 f2 e1 e2 h1 h2
  repeat' split
  all_goals omega
theorem stays_comm (a b : Int) : ev_sum a b = ev_sum b a := by unfold ev_sum; rw [Int.add_comm]

theorem NumStays : fairleadlaw01_NumStays.Pure := by
  intro a b c _ _ _
  refine ⟨20, ?_⟩
  have h := stays_sum_le (ev_sum a b) c
  have hab := stays_sum_le a b
  have ha := ev_cl_le a
  have hb := ev_cl_le b
  have hc := ev_cl_le c
  have hge : ev_sum (ev_sum a b) c ≥ ev_cl a := by
    have e1 : ev_cl (ev_sum a b) = ev_sum a b := stays_cl_of hab.1 hab.2
    have d1 : ev_sum (ev_sum a b) c = if ev_sum a b + ev_cl c > 4611686018427387904 then 4611686018427387904 else ev_sum a b + ev_cl c := by
      rw [stays_def (ev_sum a b) c, e1]
    have f1 : ev_sum a b = if ev_cl a + ev_cl b > 4611686018427387904 then 4611686018427387904 else ev_cl a + ev_cl b := rfl
    rw [d1, f1]
    clear d1 f1 e1 h hab
    repeat' split
    all_goals omega
  have hmn : mn (mx a 0) 4611686018427387904 = ev_cl a := by
    unfold mn mx ev_cl
    repeat' split
    all_goals omega
  have hless : ev_less (ev_sum (ev_sum a b) c) c ≥ 0 ∧ ev_less (ev_sum (ev_sum a b) c) c ≤ ev_sum (ev_sum a b) c := by
    have e1 : ev_cl (ev_sum (ev_sum a b) c) = ev_sum (ev_sum a b) c := stays_cl_of h.1 h.2
    unfold ev_less
    rw [e1]
    generalize ev_sum (ev_sum a b) c = s at *
    split <;> omega
  unfold fairleadlaw01_NumStays.f
  simp only [ev_Sum, ev_Less, Option.bind_some, hmn, ev_heads20]
  rw [← stays_assoc, stays_comm b a]
  simp only [if_true]
  rw [if_pos h.1, if_pos h.2, if_pos hge, if_pos hless.1, if_pos hless.2]

end Go.Proofs.Ytkicclfokhfeiaa.Pure
