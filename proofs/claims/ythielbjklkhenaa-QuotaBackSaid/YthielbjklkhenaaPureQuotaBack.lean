/- Proves that what is charged and released leaves the quota: for every quota and every number, no condition. -/
import Derived.Test.YthielbjklkhenaaEvalQuotaLeft
namespace Go.Proofs.Ythielbjklkhenaa.PQuotaLeft
open Go.RowKit Go.Proofs.YthielbjklkhenaaW.PrintWords Go.Proofs.YthielbjklkhenaaW.PrintLast Go.Proofs.YthielbjklkhenaaW.PrintMore
set_option linter.unusedVariables false

set_option maxHeartbeats 8000000 in
set_option maxRecDepth 100000 in
/-- It was not charged: but for the number of refusals the quota is as it was. -/
theorem back_no (a0 a1 a2 a3 a4 x e n : Int) (w : World) (h : quota_Charge.f 1 a0 a1 a2 a3 a4 n = some (a0, a1, a2, a3, x, e)) (he : ¬ e = 0) :
    Calls Try.prog 4 #[.agg #[.int .i64 a0, .int .i64 a1, .int .i64 a2, .int .i64 a3, .int .i64 a4], .int .i64 n] w fun e w' => e = .returned (.bool true) ∧ Below w.heap.size w w' := by
  have hu23 := Try.underlying23
  have heq := eqA23
  have H1 := Aside0.mk h
  have he1 : (e != 0) = true := bne_iff_ne.mpr he
  clear h he
  go_enter Try.func4, Try.ntmps4
  go_wp2_with fail
  refine (quota_Charge.calls 1 a0 a1 a2 a3 a4 n _ _ _ _ _ _ _ H1.out).mono ?_
  rintro e' w1 ⟨rfl, hb1⟩
  have G1 := Aside0.mk (blk_below (blk_new _ _) hb1)
  have HB1 := Aside0.mk (below_step (below_alloc (Below.refl _ _) _) hb1)
  clear hb1
  have lt1 : w.heap.size < w1.heap.size := blk_lt G1.out
  have g0 : w1.cell? ⟨w.heap.size, 0, none⟩ = some (.int .i64 a0) := (blk_cell G1.out 0).trans rfl
  have g1 : w1.cell? ⟨w.heap.size, 1, none⟩ = some (.int .i64 a1) := (blk_cell G1.out 1).trans rfl
  have g2 : w1.cell? ⟨w.heap.size, 2, none⟩ = some (.int .i64 a2) := (blk_cell G1.out 2).trans rfl
  have g3 : w1.cell? ⟨w.heap.size, 3, none⟩ = some (.int .i64 a3) := (blk_cell G1.out 3).trans rfl
  have g4 : w1.cell? ⟨w.heap.size, 4, none⟩ = some (.int .i64 a4) := (blk_cell G1.out 4).trans rfl
  go_wp2_with fail
  refine (fairleadlaw16_heads_calls _).mono ?_
  rintro e2 w2 ⟨rfl, hb2⟩
  have HB2 := Aside0.mk (below_step (below_alloc HB1.out _) hb2)
  clear hb2
  go_wp2
  go_ret
  exact ⟨rfl, HB2.out⟩

set_option maxHeartbeats 8000000 in
set_option maxRecDepth 100000 in
/-- It was charged, and is released. -/
theorem back_yes (a0 a1 a2 a3 a4 b2 b3 n : Int) (w : World) (h : quota_Charge.f 1 a0 a1 a2 a3 a4 n = some (a0, a1, b2, b3, a4, 0)) (h' : quota_Release.f a0 a1 b2 b3 a4 n = some (a0, a1, a2, a3, a4, 0)) (l2 : b2 ≤ a0) (l3 : b3 ≤ a1) :
    Calls Try.prog 4 #[.agg #[.int .i64 a0, .int .i64 a1, .int .i64 a2, .int .i64 a3, .int .i64 a4], .int .i64 n] w fun e w' => e = .returned (.bool true) ∧ Below w.heap.size w w' := by
  have hu23 := Try.underlying23
  have heq := eqA23
  have H1 := Aside0.mk h
  have H2 := Aside0.mk h'
  clear h h'
  go_enter Try.func4, Try.ntmps4
  go_wp2_with fail
  refine (quota_Charge.calls 1 a0 a1 a2 a3 a4 n _ _ _ _ _ _ _ H1.out).mono ?_
  rintro e' w1 ⟨rfl, hb1⟩
  have G1 := Aside0.mk (blk_below (blk_new _ _) hb1)
  have HB1 := Aside0.mk (below_step (below_alloc (Below.refl _ _) _) hb1)
  clear hb1
  go_wp2_with fail
  refine (quota_Release.calls a0 a1 b2 b3 a4 n _ _ _ _ _ _ _ H2.out).mono ?_
  rintro e' w2 ⟨rfl, hb2⟩
  have G2 := Aside0.mk (blk_below (blk_alloc G1.out _) hb2)
  have K2 := Aside0.mk (blk_below (blk_new _ _) hb2)
  have HB2 := Aside0.mk (below_step (below_alloc HB1.out _) hb2)
  clear hb2 HB1 G1
  have ltg : w.heap.size < w2.heap.size := blk_lt G2.out
  have ltk : w1.heap.size < w2.heap.size := blk_lt K2.out
  have g0 : w2.cell? ⟨w.heap.size, 0, none⟩ = some (.int .i64 a0) := (blk_cell G2.out 0).trans rfl
  have g1 : w2.cell? ⟨w.heap.size, 1, none⟩ = some (.int .i64 a1) := (blk_cell G2.out 1).trans rfl
  have g2 : w2.cell? ⟨w.heap.size, 2, none⟩ = some (.int .i64 a2) := (blk_cell G2.out 2).trans rfl
  have g3 : w2.cell? ⟨w.heap.size, 3, none⟩ = some (.int .i64 a3) := (blk_cell G2.out 3).trans rfl
  have g4 : w2.cell? ⟨w.heap.size, 4, none⟩ = some (.int .i64 a4) := (blk_cell G2.out 4).trans rfl
  have k0 : w2.cell? ⟨w1.heap.size, 0, none⟩ = some (.int .i64 a0) := (blk_cell K2.out 0).trans rfl
  have k1 : w2.cell? ⟨w1.heap.size, 1, none⟩ = some (.int .i64 a1) := (blk_cell K2.out 1).trans rfl
  have k2 : w2.cell? ⟨w1.heap.size, 2, none⟩ = some (.int .i64 b2) := (blk_cell K2.out 2).trans rfl
  have k3 : w2.cell? ⟨w1.heap.size, 3, none⟩ = some (.int .i64 b3) := (blk_cell K2.out 3).trans rfl
  have d2 : decide (b2 ≤ a0) = true := decide_eq_true l2
  have d3 : decide (b3 ≤ a1) = true := decide_eq_true l3
  go_wp2_with fail
  refine (fairleadlaw16_heads_calls _).mono ?_
  rintro e2 w3 ⟨rfl, hb3⟩
  have HB3 := Aside0.mk (below_step (below_alloc HB2.out _) hb3)
  clear hb3
  go_wp2
  go_ret
  exact ⟨rfl, HB3.out⟩

theorem back_walk (a0 a1 a2 a3 a4 n : Int) (w : World) (_ : (Lit.int .i64 a0).wf = true) (_ : (Lit.int .i64 a1).wf = true) (_ : (Lit.int .i64 a2).wf = true) (_ : (Lit.int .i64 a3).wf = true) (_ : (Lit.int .i64 a4).wf = true) (_ : (Lit.int .i64 n).wf = true) :
    Calls Try.prog 4 #[.agg #[.int .i64 a0, .int .i64 a1, .int .i64 a2, .int .i64 a3, .int .i64 a4], .int .i64 n] w fun e w' => e = .returned (.bool true) ∧ Below w.heap.size w w' := by
  by_cases hk : ev_ok a0 a1 a2 a3 a4 ∧ 0 ≤ n ∧ n ≤ 4611686018427387904
  · by_cases h3 : a0 - a2 < n ∨ a3 ≥ a1
    · exact back_no a0 a1 a2 a3 a4 _ 160 n w (ev_Charge_full 0 a0 a1 a2 a3 a4 n hk.1 hk.2 h3) (by decide)
    · have hc := ev_Charge_good 0 a0 a1 a2 a3 a4 n hk.1 hk.2 (by omega) (by omega)
      obtain ⟨k0, k1, k2, k3, k4⟩ := hk.1
      have hr := ev_Release_good a0 a1 (a2 + n) (a3 + 1) a4 n ⟨k0, k1, ⟨by omega, by omega⟩, ⟨by omega, by omega⟩, k4⟩ hk.2 (by omega) (by omega)
      rw [show a2 + n - n = a2 from by omega, show a3 + 1 - 1 = a3 from by omega] at hr
      exact back_yes a0 a1 a2 a3 a4 _ _ n w hc hr (by omega) (by omega)
  · exact back_no a0 a1 a2 a3 a4 a4 2 n w (ev_Charge_bad 0 a0 a1 a2 a3 a4 n hk) (by decide)
end Go.Proofs.Ythielbjklkhenaa.PQuotaLeft
