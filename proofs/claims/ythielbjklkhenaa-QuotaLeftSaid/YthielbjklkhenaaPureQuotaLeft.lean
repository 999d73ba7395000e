/- Proves that just what is left may be charged: for every quota and every number, no condition. -/
import Derived.Test.YthielbjklkhenaaEvalQuotaLeft
namespace Go.Proofs.Ythielbjklkhenaa.Pure
open Go.RowKit Go.Proofs.Ythielbjklkhenaa.PQuotaLeft Go.Proofs.YthielbjklkhenaaW.PrintWords Go.Proofs.YthielbjklkhenaaW.PrintLast

theorem QuotaLeft (a0 a1 a2 a3 a4 n : Int) : ∃ k, fairleadlaw16_QuotaLeft.f k a0 a1 a2 a3 a4 n = some true := by
  refine ⟨3, ?_⟩
  have hT : fairleadlaw16_QuotaLeft.j0 3 n true a0 a1 a2 a3 a4 = some true := by
    simp only [fairleadlaw16_QuotaLeft.j0]
    rfl
  unfold fairleadlaw16_QuotaLeft.f
  rw [ev_Check]
  simp only [Option.bind_some]
  by_cases hk : ev_ok a0 a1 a2 a3 a4
  · rw [if_pos (by simpa using hk)]
    by_cases h1 : n < 0
    · rw [if_pos h1]; exact hT
    · rw [if_neg h1]
      by_cases h2 : n > 4611686018427387904
      · rw [decide_eq_true h2]; exact hT
      · rw [decide_eq_false h2]
        have hn : 0 ≤ n ∧ n ≤ 4611686018427387904 := by omega
        simp only [fairleadlaw16_QuotaLeft.j0]
        rw [if_neg (by decide), ev_Left_good a0 a1 a2 a3 a4 hk]
        simp only [Option.bind_some]
        unfold ev_less
        by_cases h3 : a0 - a2 < n ∨ a3 ≥ a1
        · rw [ev_Charge_full 1 a0 a1 a2 a3 a4 n hk hn h3]
          simp only [Option.bind_some]
          by_cases hc : a1 ≤ a3
          · rw [if_pos hc, if_neg (by decide), if_pos (by decide)]
            rfl
          · rw [if_neg hc, if_pos (by omega)]
            by_cases hb : a0 ≤ a2
            · rw [if_pos hb]
              by_cases hz : n ≤ 0
              · rw [if_pos hz, if_pos (by rw [decide_eq_false (show ¬ a2 ≤ a0 by omega)]; decide)]
                rfl
              · rw [if_neg hz, if_pos (by decide)]
                rfl
            · rw [if_neg hb, if_neg (by omega), if_pos (by decide)]
              rfl
        · rw [ev_Charge_good 1 a0 a1 a2 a3 a4 n hk hn (by omega) (by omega)]
          simp only [Option.bind_some]
          have hle : (if a0 ≤ a2 then 0 else a0 - a2) = a0 - a2 := by split <;> omega
          rw [if_neg (show ¬ a1 ≤ a3 by omega), hle, if_pos (by omega), if_pos (by omega), if_pos (by rw [decide_eq_true (show a2 ≤ a0 by omega)]; decide)]
          rfl
  · rw [if_neg (by simpa using hk)]; exact hT

end Go.Proofs.Ythielbjklkhenaa.Pure
namespace Go.Proofs.Ythielbjklkhenaa.PQuotaLeft
open Go.RowKit
theorem law_walk (a0 a1 a2 a3 a4 n : Int) (w : World) (_ : (Lit.int .i64 a0).wf = true) (_ : (Lit.int .i64 a1).wf = true) (_ : (Lit.int .i64 a2).wf = true) (_ : (Lit.int .i64 a3).wf = true) (_ : (Lit.int .i64 a4).wf = true) (_ : (Lit.int .i64 n).wf = true) :
    Calls Try.prog 6 #[.agg #[.int .i64 a0, .int .i64 a1, .int .i64 a2, .int .i64 a3, .int .i64 a4], .int .i64 n] w fun e w' => e = .returned (.bool true) ∧ Below w.heap.size w w' := by
  obtain ⟨k, h⟩ := Pure.QuotaLeft a0 a1 a2 a3 a4 n
  exact fairleadlaw16_QuotaLeft.calls k a0 a1 a2 a3 a4 n true w h
end Go.Proofs.Ythielbjklkhenaa.PQuotaLeft
