/- Proves that a quota behind each call is what the document says: for every quota, right or not, and every numbers, no condition. -/
import Derived.Test.YthielbjklkhenaaEvalQuotaCounts
namespace Go.Proofs.Ythielbjklkhenaa.Pure
open Go.RowKit Go.Proofs.Ythielbjklkhenaa.PQuotaCounts Go.Proofs.YthielbjklkhenaaW.PrintWords Go.Proofs.YthielbjklkhenaaW.PrintLast

theorem counts_right (a : Int) : fairleadref16_count.f a = quota_right.f a := rfl

theorem counts_Check (a0 a1 a2 a3 a4 : Int) : fairleadref16_Check.f a0 a1 a2 a3 a4 = quota_Check.f a0 a1 a2 a3 a4 := by
  rw [ev_Check]
  unfold fairleadref16_Check.f
  simp only [counts_right, ev_right, Option.bind_some]
  by_cases h0 : 0 ≤ a0 ∧ a0 ≤ 4611686018427387904
  · rw [if_pos (by simpa using h0)]
    by_cases h1 : 0 ≤ a1 ∧ a1 ≤ 4611686018427387904
    · rw [if_pos (by simpa using h1)]
      by_cases h2 : 0 ≤ a2 ∧ a2 ≤ 4611686018427387904
      · rw [if_pos (by simpa using h2)]
        by_cases h3 : 0 ≤ a3 ∧ a3 ≤ 4611686018427387904
        · rw [if_pos (by simpa using h3)]
          congr 1
          rw [Bool.eq_iff_iff, decide_eq_true_iff, decide_eq_true_iff]
          exact ⟨fun h => show ev_ok a0 a1 a2 a3 a4 from ⟨h0, h1, h2, h3, h⟩, fun h => (show _ ∧ _ ∧ _ ∧ _ ∧ _ from h).2.2.2.2⟩
        · rw [if_neg (by simpa using h3)]
          congr 1
          exact (decide_eq_false (fun h => h3 (show _ ∧ _ ∧ _ ∧ _ ∧ _ from h).2.2.2.1)).symm
      · rw [if_neg (by simpa using h2)]
        congr 1
        exact (decide_eq_false (fun h => h2 (show _ ∧ _ ∧ _ ∧ _ ∧ _ from h).2.2.1)).symm
    · rw [if_neg (by simpa using h1)]
      congr 1
      exact (decide_eq_false (fun h => h1 (show _ ∧ _ ∧ _ ∧ _ ∧ _ from h).2.1)).symm
  · rw [if_neg (by simpa using h0)]
    congr 1
    exact (decide_eq_false (fun h => h0 (show _ ∧ _ ∧ _ ∧ _ ∧ _ from h).1)).symm

def counts_cl (a : Int) : Int := if a < 0 then 0 else if a > 4611686018427387904 then 4611686018427387904 else a
theorem counts_cl_le (a : Int) : 0 ≤ counts_cl a ∧ counts_cl a ≤ 4611686018427387904 := by unfold counts_cl; split <;> (try split) <;> omega
theorem counts_keep (a : Int) : fairleadref01_keep.f a = some (counts_cl a) := by
  unfold fairleadref01_keep.f counts_cl
  split
  · rfl
  · split <;> rfl
theorem counts_within (a : Int) : num_within.f a = some (counts_cl a) := by
  unfold num_within.f counts_cl
  congr 1
  unfold mx mn
  repeat' split
  all_goals omega

theorem counts_Sum (a b : Int) : fairleadref01_Sum.f a b = num_Sum.f a b := by
  unfold fairleadref01_Sum.f num_Sum.f
  simp only [counts_keep, counts_within, Option.bind_some]
  have ha := counts_cl_le a
  have hb := counts_cl_le b
  generalize counts_cl a = x at *
  generalize counts_cl b = y at *
  rw [show wrap64 (4611686018427387904 - y) = 4611686018427387904 - y from by unfold wrap64; omega, show wrap64 (4611686018427387904 - x) = 4611686018427387904 - x from by unfold wrap64; omega]
  by_cases h : x > 4611686018427387904 - y
  · rw [if_pos h]
    congr 1
    unfold mn
    rw [if_pos (by omega)]
    unfold wrap64; omega
  · rw [if_neg h]
    congr 1
    unfold mn
    split
    · unfold wrap64; omega
    · rfl

theorem counts_Less (a b : Int) : fairleadref01_Less.f a b = num_Less.f a b := by
  unfold fairleadref01_Less.f num_Less.f
  simp only [counts_keep, counts_within, Option.bind_some]
  have ha := counts_cl_le a
  have hb := counts_cl_le b
  generalize counts_cl a = x at *
  generalize counts_cl b = y at *
  rw [show wrap64 (x - y) = x - y from by unfold wrap64; omega]
  by_cases h : y > x
  · rw [if_pos h]
    congr 1
    unfold mx
    split <;> omega
  · rw [if_neg h]
    congr 1
    unfold mx
    split <;> omega

theorem counts_Charge (k : Nat) (a0 a1 a2 a3 a4 n : Int) : fairleadref16_Charge.f k a0 a1 a2 a3 a4 n = quota_Charge.f k a0 a1 a2 a3 a4 n := by
  have hj : ∀ (x : Bool), fairleadref16_Charge.j0 k n x a0 a1 a2 a3 a4 = quota_Charge.j0 k n x a0 a1 a2 a3 a4 := by
    intro x
    cases k with
    | zero => rfl
    | succ k =>
      simp only [fairleadref16_Charge.j0, quota_Charge.j0, counts_Sum]
  unfold fairleadref16_Charge.f quota_Charge.f
  simp only [counts_Check, counts_right, hj]

theorem counts_Release (a0 a1 a2 a3 a4 n : Int) : fairleadref16_Release.f a0 a1 a2 a3 a4 n = quota_Release.f a0 a1 a2 a3 a4 n := by
  unfold fairleadref16_Release.f quota_Release.f
  simp only [counts_Check, counts_right]

theorem counts_Grant (a0 a1 a2 a3 a4 b n : Int) : fairleadref16_Grant.f a0 a1 a2 a3 a4 b n = quota_Grant.f a0 a1 a2 a3 a4 b n := by
  unfold fairleadref16_Grant.f quota_Grant.f
  simp only [counts_Check, counts_right]

theorem counts_Left (a0 a1 a2 a3 a4 : Int) : fairleadref16_Left.f a0 a1 a2 a3 a4 = quota_Left.f a0 a1 a2 a3 a4 := by
  unfold fairleadref16_Left.f quota_Left.f
  simp only [counts_Check, counts_Less]

theorem counts_some_Charge (a0 a1 a2 a3 a4 n : Int) : ∃ r, quota_Charge.f 1 a0 a1 a2 a3 a4 n = some r := by
  by_cases hk : ev_ok a0 a1 a2 a3 a4 ∧ 0 ≤ n ∧ n ≤ 4611686018427387904
  · by_cases h3 : a0 - a2 < n ∨ a3 ≥ a1
    · exact ⟨_, ev_Charge_full 0 a0 a1 a2 a3 a4 n hk.1 hk.2 h3⟩
    · exact ⟨_, ev_Charge_good 0 a0 a1 a2 a3 a4 n hk.1 hk.2 (by omega) (by omega)⟩
  · exact ⟨_, ev_Charge_bad 0 a0 a1 a2 a3 a4 n hk⟩
theorem counts_some_Release (a0 a1 a2 a3 a4 n : Int) : ∃ r, quota_Release.f a0 a1 a2 a3 a4 n = some r := by
  by_cases h : ev_ok a0 a1 a2 a3 a4 ∧ (0 ≤ n ∧ n ≤ 4611686018427387904) ∧ n ≤ a2 ∧ a3 ≠ 0
  · exact ⟨_, ev_Release_good a0 a1 a2 a3 a4 n h.1 h.2.1 h.2.2.1 h.2.2.2⟩
  · exact ⟨_, ev_Release_bad a0 a1 a2 a3 a4 n h⟩
theorem counts_some_Grant (a0 a1 a2 a3 a4 b n : Int) : ∃ r, quota_Grant.f a0 a1 a2 a3 a4 b n = some r := by
  by_cases h : ev_ok a0 a1 a2 a3 a4 ∧ (0 ≤ b ∧ b ≤ 4611686018427387904) ∧ (0 ≤ n ∧ n ≤ 4611686018427387904)
  · exact ⟨_, ev_Grant_good a0 a1 a2 a3 a4 b n h.1 h.2.1 h.2.2⟩
  · exact ⟨_, ev_Grant_bad a0 a1 a2 a3 a4 b n h⟩
theorem counts_some_Left (a0 a1 a2 a3 a4 : Int) : ∃ r, quota_Left.f a0 a1 a2 a3 a4 = some r := by
  by_cases h : ev_ok a0 a1 a2 a3 a4
  · exact ⟨_, ev_Left_good a0 a1 a2 a3 a4 h⟩
  · exact ⟨_, ev_Left_bad a0 a1 a2 a3 a4 h⟩

theorem QuotaCounts (a0 a1 a2 a3 a4 n m : Int) : fairleadlaw16_QuotaCounts.f 1 a0 a1 a2 a3 a4 n m = some true := by
  obtain ⟨r, hr⟩ := counts_some_Charge a0 a1 a2 a3 a4 n
  obtain ⟨s, hs⟩ := counts_some_Release a0 a1 a2 a3 a4 n
  obtain ⟨g, hg⟩ := counts_some_Grant a0 a1 a2 a3 a4 n m
  obtain ⟨l, hl⟩ := counts_some_Left a0 a1 a2 a3 a4
  unfold fairleadlaw16_QuotaCounts.f
  rw [counts_Charge, counts_Release, counts_Grant, counts_Left, counts_Check, hr, hs, hg, hl, ev_Check]
  simp only [Option.bind_some, beq_self_eq_true, Bool.and_self, if_true]
  rfl

end Go.Proofs.Ythielbjklkhenaa.Pure
namespace Go.Proofs.Ythielbjklkhenaa.PQuotaCounts
open Go.RowKit Go.Proofs.YthielbjklkhenaaW.PrintWords
theorem law_walk (a0 a1 a2 a3 a4 n m : Int) (w : World) (_ : (Lit.int .i64 a0).wf = true) (_ : (Lit.int .i64 a1).wf = true) (_ : (Lit.int .i64 a2).wf = true) (_ : (Lit.int .i64 a3).wf = true) (_ : (Lit.int .i64 a4).wf = true) (_ : (Lit.int .i64 n).wf = true) (_ : (Lit.int .i64 m).wf = true) :
    Calls Try.prog 3 #[.agg #[.int .i64 a0, .int .i64 a1, .int .i64 a2, .int .i64 a3, .int .i64 a4], .int .i64 n, .int .i64 m] w fun e w' => e = .returned (.bool true) ∧ Below w.heap.size w w' :=
  fairleadlaw16_QuotaCounts.calls 1 a0 a1 a2 a3 a4 n m true w ⟨rfl⟩ (Pure.QuotaCounts a0 a1 a2 a3 a4 n m)
end Go.Proofs.Ythielbjklkhenaa.PQuotaCounts
