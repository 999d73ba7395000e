/- Proves that the Go functions that QuotaKeeps reaches (this part of them) come to what the Lean functions of their names answer, where these answer something. By a program of this session (the kit's print, with turns of its own: wip/print in the repo); Lean checks it. -/
import Derived.Test.YthielbjklkhenaaPQuotaKeepsx0
import Derived.Test.YthielbjklkhenaaPQuotaKeepsx2
import Derived.Test.YthielbjklkhenaaPQuotaKeepsx3
namespace Go.Proofs.Ythielbjklkhenaa.PQuotaKeeps
open Go.RowKit Go.Proofs.YthielbjklkhenaaW.PrintWords Go.Proofs.YthielbjklkhenaaW.PrintLast Go.Proofs.YthielbjklkhenaaW.PrintMore
attribute [local go_sem] max2_int min2_int max_two min_two max_three min_three max_four min_four   -- for this text's walks alone
set_option linter.unusedVariables false
set_option linter.unusedSimpArgs false

/-! ### fairleadlaw16_QuotaKeeps: function 5 -/
mutual
def fairleadlaw16_QuotaKeeps.j0 : Nat → Int → Int → List Int → Bool → Int → Int → Int → Int → Int → Option (Bool)
  | 0, _, _, _, _, _, _, _, _, _ => none
  | k + 1, x0, x1, x2, x35, x137000, x137001, x137002, x137003, x137004 => if x35 = true then ((fairleadlaw16_heads.f).bind fun t137 => (some t137)) else (fairleadlaw16_QuotaKeeps.l0 k x0 x1 x2 ([] : List Int) 0 0 x137000 x137001 x137002 x137003 x137004)
def fairleadlaw16_QuotaKeeps.l0 : Nat → Int → Int → List Int → List Int → Int → Int → Int → Int → Int → Int → Int → Option (Bool)
  | 0, _, _, _, _, _, _, _, _, _, _, _ => none
  | k + 1, x0, x1, x2, x9, x10, x11, x137000, x137001, x137002, x137003, x137004 => if x11 < (x2.length : Int) then (if 0 ≤ x11 then (if (rd x2 x11) < 0 then (if (x9.length : Int) = 0 then (fairleadlaw16_QuotaKeeps.l0 k x0 x1 x2 x9 x10 (wrap64 (x11 + 1)) x137000 x137001 x137002 x137003 x137004) else (if 0 < (x9.length : Int) then ((quota_Release.f x137000 x137001 x137002 x137003 x137004 (rd x9 0)).bind fun bt141 => (if bt141.2.2.2.2.2 = 0 then (if 1 ≤ (x9.length : Int) then ((some (x9.drop (1 : Int).toNat : List Int)).bind fun y149 => (if bt141.2.2.1 = (wrap64 (x10 - (rd x9 0))) then (if bt141.2.2.2.1 = (y149.length : Int) then (if (wrap64 (x10 - (rd x9 0))) > x0 then (some false) else (if (y149.length : Int) > x1 then (some false) else (fairleadlaw16_QuotaKeeps.l0 k x0 x1 x2 y149 (wrap64 (x10 - (rd x9 0))) (wrap64 (x11 + 1)) bt141.1 bt141.2.1 bt141.2.2.1 bt141.2.2.2.1 bt141.2.2.2.2.1))) else (some false)) else (some false))) else (none)) else (some false))) else (none))) else ((quota_Charge.f k x137000 x137001 x137002 x137003 x137004 (Go.bits .and .i64 (rd x2 x11) 1023)).bind fun bt153 => (if (wrap64 (x10 + (Go.bits .and .i64 (rd x2 x11) 1023))) ≤ x0 then (fairleadlaw16_QuotaKeeps.j2 k x0 x1 x2 x9 x10 x11 (Go.bits .and .i64 (rd x2 x11) 1023) bt153.2.2.2.2.2 (decide ((x9.length : Int) < x1)) bt153.1 bt153.2.1 bt153.2.2.1 bt153.2.2.2.1 bt153.2.2.2.2.1) else (fairleadlaw16_QuotaKeeps.j2 k x0 x1 x2 x9 x10 x11 (Go.bits .and .i64 (rd x2 x11) 1023) bt153.2.2.2.2.2 false bt153.1 bt153.2.1 bt153.2.2.1 bt153.2.2.2.1 bt153.2.2.2.2.1)))) else (none)) else ((fairleadlaw16_heads.f).bind fun t138 => (some t138))
def fairleadlaw16_QuotaKeeps.j2 : Nat → Int → Int → List Int → List Int → Int → Int → Int → Int → Bool → Int → Int → Int → Int → Int → Option (Bool)
  | 0, _, _, _, _, _, _, _, _, _, _, _, _, _, _ => none
  | k + 1, x0, x1, x2, x9, x10, x11, x14, x16, x17, x160000, x160001, x160002, x160003, x160004 => if ((x16 == 0) != x17) = true then (some false) else (if x17 = true then (if x9.length < 17592186044416 then ((some (x9 ++ [x14] : List Int)).bind fun y160 => (if x160002 = (wrap64 (x10 + x14)) then (if x160003 = (y160.length : Int) then (if (wrap64 (x10 + x14)) > x0 then (some false) else (if (y160.length : Int) > x1 then (some false) else (fairleadlaw16_QuotaKeeps.l0 k x0 x1 x2 y160 (wrap64 (x10 + x14)) (wrap64 (x11 + 1)) x160000 x160001 x160002 x160003 x160004))) else (some false)) else (some false))) else (none)) else (if x160002 = x10 then (if x160003 = (x9.length : Int) then (if x10 > x0 then (some false) else (if (x9.length : Int) > x1 then (some false) else (fairleadlaw16_QuotaKeeps.l0 k x0 x1 x2 x9 x10 (wrap64 (x11 + 1)) x160000 x160001 x160002 x160003 x160004))) else (some false)) else (some false)))
end
def fairleadlaw16_QuotaKeeps.f (k : Nat) (a0 : Int) (a1 : Int) (l2 : List Int) : Option (Bool) := (quota_Grant.f 0 0 0 0 0 a0 a1).bind fun bt130 => (if bt130.2.2.2.2.2 = 0 then (if (l2.length : Int) > 300 then (fairleadlaw16_QuotaKeeps.j0 k a0 a1 l2 true bt130.1 bt130.2.1 bt130.2.2.1 bt130.2.2.2.1 bt130.2.2.2.2.1) else (fairleadlaw16_QuotaKeeps.j0 k a0 a1 l2 (decide (a0 > 1099511627776)) bt130.1 bt130.2.1 bt130.2.2.1 bt130.2.2.2.1 bt130.2.2.2.2.1)) else (fairleadlaw16_QuotaKeeps.j0 k a0 a1 l2 true bt130.1 bt130.2.1 bt130.2.2.1 bt130.2.2.2.1 bt130.2.2.2.2.1))
theorem fairleadlaw16_QuotaKeeps.mono_l : ∀ k, (∀ y0 y1 y2 y3 y4 y5 y6 y7 y8, LeO (fairleadlaw16_QuotaKeeps.j0 k y0 y1 y2 y3 y4 y5 y6 y7 y8) (fairleadlaw16_QuotaKeeps.j0 (k + 1) y0 y1 y2 y3 y4 y5 y6 y7 y8)) ∧ (∀ y0 y1 y2 y3 y4 y5 y6 y7 y8 y9 y10, LeO (fairleadlaw16_QuotaKeeps.l0 k y0 y1 y2 y3 y4 y5 y6 y7 y8 y9 y10) (fairleadlaw16_QuotaKeeps.l0 (k + 1) y0 y1 y2 y3 y4 y5 y6 y7 y8 y9 y10)) ∧ (∀ y0 y1 y2 y3 y4 y5 y6 y7 y8 y9 y10 y11 y12 y13, LeO (fairleadlaw16_QuotaKeeps.j2 k y0 y1 y2 y3 y4 y5 y6 y7 y8 y9 y10 y11 y12 y13) (fairleadlaw16_QuotaKeeps.j2 (k + 1) y0 y1 y2 y3 y4 y5 y6 y7 y8 y9 y10 y11 y12 y13))
  | 0 => ⟨fun _ _ _ _ _ _ _ _ _ r h => by simp [fairleadlaw16_QuotaKeeps.j0] at h, fun _ _ _ _ _ _ _ _ _ _ _ r h => by simp [fairleadlaw16_QuotaKeeps.l0] at h, fun _ _ _ _ _ _ _ _ _ _ _ _ _ _ r h => by simp [fairleadlaw16_QuotaKeeps.j2] at h⟩
  | k + 1 => by
    obtain ⟨ih0, ih1, ih2⟩ := fairleadlaw16_QuotaKeeps.mono_l k
    refine ⟨?_, ?_, ?_⟩
    · intro y0 y1 y2 y3 y4 y5 y6 y7 y8
      unfold fairleadlaw16_QuotaKeeps.j0
      repeat' first
      | (with_reducible exact ih0 _ _ _ _ _ _ _ _ _)
      | (with_reducible exact ih1 _ _ _ _ _ _ _ _ _ _ _)
      | (with_reducible exact ih2 _ _ _ _ _ _ _ _ _ _ _ _ _ _)
      | (with_reducible exact quota_Charge.mono _ _ _ _ _ _ _)
      | (with_reducible exact LeO.refl _)
      | (with_reducible exact LeO.none _)
      | (with_reducible refine LeO.ite ?_ ?_)
      | (with_reducible refine LeO.bind ?_ (fun _ => ?_))
      | exact ih0 _ _ _ _ _ _ _ _ _
      | exact ih1 _ _ _ _ _ _ _ _ _ _ _
      | exact ih2 _ _ _ _ _ _ _ _ _ _ _ _ _ _
      | exact quota_Charge.mono _ _ _ _ _ _ _
      | exact LeO.none _
      | refine LeO.ite ?_ ?_
      | refine LeO.bind ?_ (fun _ => ?_)
    · intro y0 y1 y2 y3 y4 y5 y6 y7 y8 y9 y10
      unfold fairleadlaw16_QuotaKeeps.l0
      repeat' first
      | (with_reducible exact ih0 _ _ _ _ _ _ _ _ _)
      | (with_reducible exact ih1 _ _ _ _ _ _ _ _ _ _ _)
      | (with_reducible exact ih2 _ _ _ _ _ _ _ _ _ _ _ _ _ _)
      | (with_reducible exact quota_Charge.mono _ _ _ _ _ _ _)
      | (with_reducible exact LeO.refl _)
      | (with_reducible exact LeO.none _)
      | (with_reducible refine LeO.ite ?_ ?_)
      | (with_reducible refine LeO.bind ?_ (fun _ => ?_))
      | exact ih0 _ _ _ _ _ _ _ _ _
      | exact ih1 _ _ _ _ _ _ _ _ _ _ _
      | exact ih2 _ _ _ _ _ _ _ _ _ _ _ _ _ _
      | exact quota_Charge.mono _ _ _ _ _ _ _
      | exact LeO.none _
      | refine LeO.ite ?_ ?_
      | refine LeO.bind ?_ (fun _ => ?_)
    · intro y0 y1 y2 y3 y4 y5 y6 y7 y8 y9 y10 y11 y12 y13
      unfold fairleadlaw16_QuotaKeeps.j2
      repeat' first
      | (with_reducible exact ih0 _ _ _ _ _ _ _ _ _)
      | (with_reducible exact ih1 _ _ _ _ _ _ _ _ _ _ _)
      | (with_reducible exact ih2 _ _ _ _ _ _ _ _ _ _ _ _ _ _)
      | (with_reducible exact quota_Charge.mono _ _ _ _ _ _ _)
      | (with_reducible exact LeO.refl _)
      | (with_reducible exact LeO.none _)
      | (with_reducible refine LeO.ite ?_ ?_)
      | (with_reducible refine LeO.bind ?_ (fun _ => ?_))
      | exact ih0 _ _ _ _ _ _ _ _ _
      | exact ih1 _ _ _ _ _ _ _ _ _ _ _
      | exact ih2 _ _ _ _ _ _ _ _ _ _ _ _ _ _
      | exact quota_Charge.mono _ _ _ _ _ _ _
      | exact LeO.none _
      | refine LeO.ite ?_ ?_
      | refine LeO.bind ?_ (fun _ => ?_)
theorem fairleadlaw16_QuotaKeeps.mono : ∀ a0 a1 a2 k, LeO (fairleadlaw16_QuotaKeeps.f k a0 a1 a2) (fairleadlaw16_QuotaKeeps.f (k + 1) a0 a1 a2) := by
  intro a0 a1 a2 k
  obtain ⟨ih0, ih1, ih2⟩ := fairleadlaw16_QuotaKeeps.mono_l k
  unfold fairleadlaw16_QuotaKeeps.f
  repeat' first
      | (with_reducible exact ih0 _ _ _ _ _ _ _ _ _)
      | (with_reducible exact ih1 _ _ _ _ _ _ _ _ _ _ _)
      | (with_reducible exact ih2 _ _ _ _ _ _ _ _ _ _ _ _ _ _)
      | (with_reducible exact quota_Charge.mono _ _ _ _ _ _ _)
      | (with_reducible exact LeO.refl _)
      | (with_reducible exact LeO.none _)
      | (with_reducible refine LeO.ite ?_ ?_)
      | (with_reducible refine LeO.bind ?_ (fun _ => ?_))
      | exact ih0 _ _ _ _ _ _ _ _ _
      | exact ih1 _ _ _ _ _ _ _ _ _ _ _
      | exact ih2 _ _ _ _ _ _ _ _ _ _ _ _ _ _
      | exact quota_Charge.mono _ _ _ _ _ _ _
      | exact LeO.none _
      | refine LeO.ite ?_ ?_
      | refine LeO.bind ?_ (fun _ => ?_)
def fairleadlaw16_QuotaKeeps.T11 : Bool × List (List Nat × List Nat) := (true, [([], []), ([], []), ([1], [1]), ([2], [2]), ([0, 3], [0, 3]), ([4], [4]), ([5], [5]), ([5], [5]), ([], []), ([8, 6, 4, 0, 1, 2, 3, 4, 5, 6, 8], [6, 8]), ([7, 9, 0, 1, 2, 3, 4, 5, 6, 7, 8, 9], [7])])
def fairleadlaw16_QuotaKeeps.B11 : List Nat := [0, 0, 2, 6, 15, 31, 63, 63, 0, 383, 1023]
theorem fairleadlaw16_QuotaKeeps.tab11 : rtab .any (opsOf Try.f5 11) = fairleadlaw16_QuotaKeeps.T11 := by kernel_rfl
theorem fairleadlaw16_QuotaKeeps.bits11 : waitsOk fairleadlaw16_QuotaKeeps.T11.2 fairleadlaw16_QuotaKeeps.B11 = true := by kernel_rfl
set_option maxHeartbeats 8000000 in
set_option maxRecDepth 100000 in
theorem fairleadlaw16_QuotaKeeps.calls (k : Nat) (a0 : Int) (a1 : Int) (A2 : Option Addr) (c2 : Nat) (l2 : List Int) (r : Bool) (w : World) (hr2 : Kd.C (Kd.int .i64) w A2 l2.length l2) (hc2 : l2.length ≤ c2) (hr_ : Aside0 (r = true)) (h : fairleadlaw16_QuotaKeeps.f k a0 a1 l2 = some r) :
    Calls Try.prog 5 #[.int .i64 a0, .int .i64 a1, .slice A2 l2.length c2] w fun e w' => e = .returned (.bool r) ∧ Below w.heap.size w w' := by
  have hu23 := Try.underlying23
  have HR2 := Aside0.mk hr2
  have HC2 := Aside0.mk hc2
  clear hr2 hc2
  have HB := Aside0.mk (Below.refl w.heap.size w)
  have H : ((quota_Grant.f 0 0 0 0 0 a0 a1).bind fun bt130 => (if bt130.2.2.2.2.2 = 0 then (if (l2.length : Int) > 300 then (fairleadlaw16_QuotaKeeps.j0 k a0 a1 l2 true bt130.1 bt130.2.1 bt130.2.2.1 bt130.2.2.2.1 bt130.2.2.2.2.1) else (fairleadlaw16_QuotaKeeps.j0 k a0 a1 l2 (decide (a0 > 1099511627776)) bt130.1 bt130.2.1 bt130.2.2.1 bt130.2.2.2.1 bt130.2.2.2.2.1)) else (fairleadlaw16_QuotaKeeps.j0 k a0 a1 l2 true bt130.1 bt130.2.1 bt130.2.2.1 bt130.2.2.2.1 bt130.2.2.2.2.1))) = some r := h
  clear h
  replace H := Option.bind_eq_some_iff.mp H
  obtain ⟨⟨t130, t131, t132, t133, t134, t135⟩, A40, H⟩ := H
  replace H : (if t135 = 0 then (if (l2.length : Int) > 300 then (fairleadlaw16_QuotaKeeps.j0 k a0 a1 l2 true t130 t131 t132 t133 t134) else (fairleadlaw16_QuotaKeeps.j0 k a0 a1 l2 (decide (a0 > 1099511627776)) t130 t131 t132 t133 t134)) else (fairleadlaw16_QuotaKeeps.j0 k a0 a1 l2 true t130 t131 t132 t133 t134)) = some r := H
  have A4 := Aside0.mk A40
  clear A40
  have HC5 := Aside0.mk H
  clear H
  go_enter Try.func5, Try.ntmps5
  go_upto_region 2 with (first | ((with_reducible refine gate_callee (f := 11) rfl ?_); refine goesL_ (some 22) rfl rfl Try.func11 (by kernel_rfl) rfl #[.agg #[.int .i64 0, .int .i64 0, .int .i64 0, .int .i64 0, .int .i64 0], .int .i64 a0, .int .i64 a1] rfl (by (try simp only [List.map_toArray, List.map_cons, List.map_nil]); first | done | rfl | (simp only [List.length_drop, List.length_take]; rfl)) ?_; (with_reducible refine (quota_Grant.calls 0 0 0 0 0 a0 a1 t130 t131 t132 t133 t134 t135 _ A4.out).mono ?_); rintro e w6 ⟨rfl, hb⟩; refine ⟨_, rfl, ?_⟩; have n0_ := Aside0.mk (below_step (by repeat (first | (with_reducible first | exact HB.out | apply below_alloc | apply pw_below_drewN | apply below_drew1) | exact HB.out)) hb); clear HB; have HB := n0_; clear n0_; (try clear hb); (try clear hb2); (try clear hk); (try clear hi)) | ((with_reducible refine gate_dst (N := 7) rfl ?_); (try (refine gate_guard (by rfl) ?_; dsimp only)); refine box_event ?hg (N := 7) ?hd (cs := #[.int .i64 0, .int .i64 0, .int .i64 0, .int .i64 0, .int .i64 0]) (t := 23) ?hr ?_; (case hd => rfl); (case hg => rfl); (case hr => first | (go_simp; done) | (go_simp; rfl)); intro gb136 hg w7 hbox hb; have n0_ := Aside0.mk (below_step (by repeat (first | (with_reducible first | exact HB.out | apply below_alloc | apply pw_below_drewN | apply below_drew1) | exact HB.out)) hb); have n1_ := Aside0.mk (hbox); have n2_ := Aside0.mk ((by rw [hg]; exact (below_size (by repeat (first | (with_reducible first | exact HB.out | apply below_alloc | apply pw_below_drewN | apply below_drew1) | exact HB.out))) : w.heap.size ≤ gb136)); have n3_ := Aside0.mk ((by rw [hg]; exact (below_size (by repeat (first | (with_reducible first | exact HB.out | apply below_alloc | apply pw_below_drewN | apply below_drew1) | exact HB.out))) : w.heap.size ≤ gb136)); clear HB; have HB := n0_; have BK136 := n1_; have GW136 := n2_; have GE136 := n3_; clear n0_ n1_ n2_ n3_; clear hb hbox hg; have hcz8_0 : w7.cell? ⟨gb136, 0, none⟩ = some (.int .i64 0) := (blk_cell BK136.out 0).trans rfl; have hcz8_1 : w7.cell? ⟨gb136, 1, none⟩ = some (.int .i64 0) := (blk_cell BK136.out 1).trans rfl; have hcz8_2 : w7.cell? ⟨gb136, 2, none⟩ = some (.int .i64 0) := (blk_cell BK136.out 2).trans rfl; have hcz8_3 : w7.cell? ⟨gb136, 3, none⟩ = some (.int .i64 0) := (blk_cell BK136.out 3).trans rfl; have hcz8_4 : w7.cell? ⟨gb136, 4, none⟩ = some (.int .i64 0) := (blk_cell BK136.out 4).trans rfl; have hfz8_0 := blk_frozen BK136.out 0; have hfz8_1 := blk_frozen BK136.out 1; have hfz8_2 := blk_frozen BK136.out 2; have hfz8_3 := blk_frozen BK136.out 3; have hfz8_4 := blk_frozen BK136.out 4))
  (try simp only [Act.put, List.setIfInBounds_toArray, List.set_cons_zero, List.set_cons_succ])
  go_cut [35] (fun v35 wc => ∃ (kq : Nat) (x35_4 : Bool), v35 = .bool x35_4 ∧ Aside0 (fairleadlaw16_QuotaKeeps.j0 kq a0 a1 l2 x35_4 t130 t131 t132 t133 t134 = some r) ∧ Aside0 (kq ≤ k) ∧ Aside0 (wc.heap[gb136]? = some (.cells #[.int .i64 t130, .int .i64 t131, .int .i64 t132, .int .i64 t133, .int .i64 t134] 23 (0, 0))) ∧ Aside0 (Below w.heap.size w wc))
  case first =>
    have H := HC5.out
    clear HC5
    by_cases c9 : t135 = 0
    · rw [if_pos c9] at H
      have c9b0 : (t135 == 0) = true := beq_iff_eq.mpr c9
      have c9b1 : (t135 != 0) = false := bne_eq_false_iff_eq.mpr c9
      clear c9
      (first | rw [c9b0] | (simp only [i64_w, i32_w]; rw [c9b0]) | skip)
      by_cases c10 : (l2.length : Int) > 300
      · rw [if_pos c10] at H
        have c10b0 : decide (300 < (l2.length : Int)) = true := decide_eq_true c10
        have c10b1 : decide (300 < l2.length) = true := decide_eq_true (by omega)
        clear c10
        have H' := Aside0.mk H
        clear H
        go_wp2
        go_meet
        case rel => exact ⟨_, (true), (by first | rfl | (simp; done) | (simp [*]; done)), H', ⟨by first | omega | exact Nat.le_refl _⟩, ⟨by (with_reducible repeat (first | refine blk_drewN ?_ _ | refine blk_drew ?_ | refine blk_alloc ?_ _)); refine blk_put (cs := #[.int .i64 t130, .int .i64 t131, .int .i64 t132, .int .i64 t133, .int .i64 0]) ?_ 4 _ rfl; (with_reducible repeat (first | refine blk_drewN ?_ _ | refine blk_drew ?_ | refine blk_alloc ?_ _)); refine blk_put (cs := #[.int .i64 t130, .int .i64 t131, .int .i64 t132, .int .i64 0, .int .i64 0]) ?_ 3 _ rfl; (with_reducible repeat (first | refine blk_drewN ?_ _ | refine blk_drew ?_ | refine blk_alloc ?_ _)); refine blk_put (cs := #[.int .i64 t130, .int .i64 t131, .int .i64 0, .int .i64 0, .int .i64 0]) ?_ 2 _ rfl; (with_reducible repeat (first | refine blk_drewN ?_ _ | refine blk_drew ?_ | refine blk_alloc ?_ _)); refine blk_put (cs := #[.int .i64 t130, .int .i64 0, .int .i64 0, .int .i64 0, .int .i64 0]) ?_ 1 _ rfl; (with_reducible repeat (first | refine blk_drewN ?_ _ | refine blk_drew ?_ | refine blk_alloc ?_ _)); refine blk_put (cs := #[.int .i64 0, .int .i64 0, .int .i64 0, .int .i64 0, .int .i64 0]) ?_ 0 _ rfl; (with_reducible repeat (first | refine blk_drewN ?_ _ | refine blk_drew ?_ | refine blk_alloc ?_ _)); exact BK136.out⟩, ⟨by repeat (first | (with_reducible first | exact HB.out | apply below_alloc | apply pw_below_drewN | apply below_drew1 | refine below_set ?_ GE136.out) | exact HB.out)⟩⟩
      · rw [if_neg c10] at H
        have c10b0 : decide (300 < (l2.length : Int)) = false := decide_eq_false c10
        have c10b1 : decide (300 < l2.length) = false := decide_eq_false (by omega)
        clear c10
        have H' := Aside0.mk H
        clear H
        go_wp2
        go_meet
        case rel => exact ⟨_, (decide (a0 > 1099511627776)), (by first | rfl | (simp; done) | (simp [*]; done)), H', ⟨by first | omega | exact Nat.le_refl _⟩, ⟨by (with_reducible repeat (first | refine blk_drewN ?_ _ | refine blk_drew ?_ | refine blk_alloc ?_ _)); refine blk_put (cs := #[.int .i64 t130, .int .i64 t131, .int .i64 t132, .int .i64 t133, .int .i64 0]) ?_ 4 _ rfl; (with_reducible repeat (first | refine blk_drewN ?_ _ | refine blk_drew ?_ | refine blk_alloc ?_ _)); refine blk_put (cs := #[.int .i64 t130, .int .i64 t131, .int .i64 t132, .int .i64 0, .int .i64 0]) ?_ 3 _ rfl; (with_reducible repeat (first | refine blk_drewN ?_ _ | refine blk_drew ?_ | refine blk_alloc ?_ _)); refine blk_put (cs := #[.int .i64 t130, .int .i64 t131, .int .i64 0, .int .i64 0, .int .i64 0]) ?_ 2 _ rfl; (with_reducible repeat (first | refine blk_drewN ?_ _ | refine blk_drew ?_ | refine blk_alloc ?_ _)); refine blk_put (cs := #[.int .i64 t130, .int .i64 0, .int .i64 0, .int .i64 0, .int .i64 0]) ?_ 1 _ rfl; (with_reducible repeat (first | refine blk_drewN ?_ _ | refine blk_drew ?_ | refine blk_alloc ?_ _)); refine blk_put (cs := #[.int .i64 0, .int .i64 0, .int .i64 0, .int .i64 0, .int .i64 0]) ?_ 0 _ rfl; (with_reducible repeat (first | refine blk_drewN ?_ _ | refine blk_drew ?_ | refine blk_alloc ?_ _)); exact BK136.out⟩, ⟨by repeat (first | (with_reducible first | exact HB.out | apply below_alloc | apply pw_below_drewN | apply below_drew1 | refine below_set ?_ GE136.out) | exact HB.out)⟩⟩
    · rw [if_neg c9] at H
      have c9b0 : (t135 == 0) = false := beq_eq_false_iff_ne.mpr c9
      have c9b1 : (t135 != 0) = true := bne_iff_ne.mpr c9
      (first | rw [c9b0] | (simp only [i64_w, i32_w]; rw [c9b0]) | skip)
      have H' := Aside0.mk H
      clear H
      go_wp2
      go_meet
      case rel => exact ⟨_, (true), (by first | rfl | (simp; done) | (simp [*]; done)), H', ⟨by first | omega | exact Nat.le_refl _⟩, ⟨by (with_reducible repeat (first | refine blk_drewN ?_ _ | refine blk_drew ?_ | refine blk_alloc ?_ _)); refine blk_put (cs := #[.int .i64 t130, .int .i64 t131, .int .i64 t132, .int .i64 t133, .int .i64 0]) ?_ 4 _ rfl; (with_reducible repeat (first | refine blk_drewN ?_ _ | refine blk_drew ?_ | refine blk_alloc ?_ _)); refine blk_put (cs := #[.int .i64 t130, .int .i64 t131, .int .i64 t132, .int .i64 0, .int .i64 0]) ?_ 3 _ rfl; (with_reducible repeat (first | refine blk_drewN ?_ _ | refine blk_drew ?_ | refine blk_alloc ?_ _)); refine blk_put (cs := #[.int .i64 t130, .int .i64 t131, .int .i64 0, .int .i64 0, .int .i64 0]) ?_ 2 _ rfl; (with_reducible repeat (first | refine blk_drewN ?_ _ | refine blk_drew ?_ | refine blk_alloc ?_ _)); refine blk_put (cs := #[.int .i64 t130, .int .i64 0, .int .i64 0, .int .i64 0, .int .i64 0]) ?_ 1 _ rfl; (with_reducible repeat (first | refine blk_drewN ?_ _ | refine blk_drew ?_ | refine blk_alloc ?_ _)); refine blk_put (cs := #[.int .i64 0, .int .i64 0, .int .i64 0, .int .i64 0, .int .i64 0]) ?_ 0 _ rfl; (with_reducible repeat (first | refine blk_drewN ?_ _ | refine blk_drew ?_ | refine blk_alloc ?_ _)); exact BK136.out⟩, ⟨by repeat (first | (with_reducible first | exact HB.out | apply below_alloc | apply pw_below_drewN | apply below_drew1 | refine below_set ?_ GE136.out) | exact HB.out)⟩⟩
  case rest =>
    clear HC5
    try clear c1
    try clear c2
    try clear p2
    try clear c5
    try clear c9
    try clear c9b0
    try clear c9b1
    try clear c10
    try clear c10b0
    try clear c10b1
    try clear hcz8_0
    try clear hcz8_1
    try clear hcz8_2
    try clear hcz8_3
    try clear hcz8_4
    try clear hfz8_0
    try clear hfz8_1
    try clear hfz8_2
    try clear hfz8_3
    try clear hfz8_4
    obtain ⟨kq, x35_4, rfl, HA, HJ4, BK136, HB⟩ := hcut
    cases kq with
    | zero => exact absurd HA.out (by simp [fairleadlaw16_QuotaKeeps.j0])
    | succ kj4 =>
      have H := HA.out
      clear HA
      simp only [fairleadlaw16_QuotaKeeps.j0] at H
      by_cases c11 : x35_4 = true
      · subst c11
        have H1 : ((fairleadlaw16_heads.f).bind fun t137 => (some t137)) = some r := by rw [if_pos rfl] at H; exact H
        clear H
        have H := H1
        clear H1
        replace H := Option.bind_eq_some_iff.mp H
        obtain ⟨t137, A120, H⟩ := H
        replace H : (some t137) = some r := H
        have A12 := Aside0.mk A120
        clear A120
        obtain rfl := Option.some.inj H
        go_wp2_with (first | ((with_reducible refine gate_callee (f := 17) rfl ?_); refine goesL_ (some 36) rfl rfl Try.func17 (by kernel_rfl) rfl #[] rfl (by (try simp only [List.map_toArray, List.map_cons, List.map_nil]); first | done | rfl | (simp only [List.length_drop, List.length_take]; rfl)) ?_; (with_reducible refine (fairleadlaw16_heads.calls  t137 _ A12.out).mono ?_); rintro e w13 ⟨rfl, hb⟩; refine ⟨_, rfl, ?_⟩; have n0_ := Aside0.mk (blk_below (g := gb136) (o := .cells #[.int .i64 t130, .int .i64 t131, .int .i64 t132, .int .i64 t133, .int .i64 t134] 23 (0, 0)) (by (with_reducible repeat (first | refine blk_drewN ?_ _ | refine blk_drew ?_ | refine blk_alloc ?_ _)); exact BK136.out) hb); have n1_ := Aside0.mk (below_step (by repeat (first | (with_reducible first | exact HB.out | apply below_alloc | apply pw_below_drewN | apply below_drew1 | refine below_set ?_ GE136.out) | exact HB.out)) hb); clear BK136; clear HB; have BK136 := n0_; have HB := n1_; clear n0_ n1_; (try clear hb); (try clear hb2); (try clear hk); (try clear hi)))
        go_ret
        exact ⟨by first | rfl | (simp [errW_none, errW_some] <;> rfl) | (simp [*, errW_none, errW_some] <;> rfl), by repeat (first | (with_reducible first | exact HB.out | apply below_alloc | apply pw_below_drewN | apply below_drew1 | refine below_set ?_ GE136.out) | exact HB.out)⟩
      · replace c11 := Bool.eq_false_iff.mpr c11
        subst c11
        have H1 : (fairleadlaw16_QuotaKeeps.l0 kj4 a0 a1 l2 ([] : List Int) 0 0 t130 t131 t132 t133 t134) = some r := by rw [if_neg (show ¬ (false = true) by decide)] at H; exact H
        clear H
        have H := H1
        clear H1
        have H' := Aside0.mk H
        clear H
        go_wp2
        go_loopg [9, 10, 11] kj4 (fun kq v9 v10 v11 w' => ∃ (x9_2 : List Int) (x10_2 : Int) (x11_2 : Int) (x137000_2 : Int) (x137001_2 : Int) (x137002_2 : Int) (x137003_2 : Int) (x137004_2 : Int), v10 = .int .i64 x10_2 ∧ v11 = .int .i64 x11_2 ∧ Aside0 (fairleadlaw16_QuotaKeeps.l0 kq a0 a1 l2 x9_2 x10_2 x11_2 x137000_2 x137001_2 x137002_2 x137003_2 x137004_2 = some r) ∧ Aside0 (kq ≤ kj4) ∧ Aside0 (Kd.Q (Kd.int .i64) 3 w' w.heap.size (fun _ => True) v9 x9_2) ∧ Aside0 (w'.heap[gb136]? = some (.cells #[.int .i64 x137000_2, .int .i64 x137001_2, .int .i64 x137002_2, .int .i64 x137003_2, .int .i64 x137004_2] 23 (0, 0))) ∧ Aside0 (Below w.heap.size w w'))
        case atStart => exact ⟨(([] : List Int)), (0), (0), (t130), (t131), (t132), (t133), (t134), (by first | rfl | (simp; done) | (simp [*]; done)), (by first | rfl | (simp; done) | (simp [*]; done)), H', ⟨Nat.le_refl _⟩, ⟨Kd.Q_of_R (by first | exact Kd.R_nil _ _ _ _ _ | exact Kd.N_nil _ _ _ _ _ | exact Kd.V_nil _ _ _ _ _ | exact Kd.Q_nil _ _ _ _ _ | exact Kd.S_nil _ _ _ _ _)⟩, ⟨by (with_reducible repeat (first | refine blk_drewN ?_ _ | refine blk_drew ?_ | refine blk_alloc ?_ _)); exact BK136.out⟩, ⟨by repeat (first | (with_reducible first | exact HB.out | apply below_alloc | apply pw_below_drewN | apply below_drew1 | refine below_set ?_ GE136.out) | exact HB.out)⟩⟩
        case round =>
          clear H'
          try clear c1
          try clear c2
          try clear p2
          try clear c5
          try clear c9
          try clear c9b0
          try clear c9b1
          try clear c10
          try clear c10b0
          try clear c10b1
          try clear c11
          try clear hcz8_0
          try clear hcz8_1
          try clear hcz8_2
          try clear hcz8_3
          try clear hcz8_4
          try clear hfz8_0
          try clear hfz8_1
          try clear hfz8_2
          try clear hfz8_3
          try clear hfz8_4
          try clear p2
          obtain ⟨x9_2, x10_2, x11_2, x137000_2, x137001_2, x137002_2, x137003_2, x137004_2, rfl, rfl, HA, HK2, HO_9, BK136, HB⟩ := hrel
          cases gk with
          | zero => exact absurd HA.out (by simp [fairleadlaw16_QuotaKeeps.l0])
          | succ k2 =>
            have H := HA.out
            clear HA
            simp only [fairleadlaw16_QuotaKeeps.l0] at H
            by_cases c14 : x11_2 < (l2.length : Int)
            · rw [if_pos c14] at H
              have c14b0 : decide (x11_2 < (l2.length : Int)) = true := decide_eq_true c14
              clear c14
              by_cases c15 : 0 ≤ x11_2
              · rw [if_pos c15] at H
                have c15b0 : decide (0 ≤ x11_2) = true := decide_eq_true c15
                clear c15
                by_cases c16 : (rd l2 x11_2) < 0
                · rw [if_pos c16] at H
                  have c16b0 : decide ((rd l2 x11_2) < 0) = true := decide_eq_true c16
                  clear c16
                  by_cases c17 : (x9_2.length : Int) = 0
                  · rw [if_pos c17] at H
                    have c17b0 : ((x9_2.length : Int) == 0) = true := beq_iff_eq.mpr c17
                    have c17b1 : ((x9_2.length : Int) != 0) = false := bne_eq_false_iff_eq.mpr c17
                    clear c17
                    have H' := Aside0.mk H
                    clear H
                    have p139 : 0 ≤ (x11_2 : Int) := of_decide_eq_true (by first | (with_reducible assumption) | assumption)
                    have q139 : x11_2 < (l2.length : Int) := of_decide_eq_true (by first | (with_reducible assumption) | assumption)
                    obtain ⟨ad139, e139, hx139_0⟩ := Kd.at_int HR2.out x11_2 p139 q139
                    cases e139
                    replace hx139_0 := (HB.out.cell (World.block_lt_of_cell? w _ hx139_0)).trans hx139_0
                    replace p139 := eq_true p139
                    replace q139 := eq_true q139
                    obtain ⟨Ao18, co18, eo18, _⟩ := Kd.Q_slice HO_9.out
                    subst eo18
                    go_wp2
                    go_roundg k2
                    case measure => have := HJ4.out; have := HK2.out; omega
                    case rel => exact ⟨(x9_2), (x10_2), (wrap64 (x11_2 + 1)), (x137000_2), (x137001_2), (x137002_2), (x137003_2), (x137004_2), (by first | rfl | (simp; done) | (simp [*]; done)), (by first | rfl | (simp; done) | (simp [*]; done)), H', ⟨by have := HJ4.out; have := HK2.out; omega⟩, ⟨by (with_reducible repeat (first | apply Kd.Q_alloc | apply Kd.Q_drewN | apply Kd.Q_drew)); exact HO_9.out⟩, ⟨by (with_reducible repeat (first | refine blk_drewN ?_ _ | refine blk_drew ?_ | refine blk_alloc ?_ _)); exact BK136.out⟩, ⟨by repeat (first | (with_reducible first | exact HB.out | apply below_alloc | apply pw_below_drewN | apply below_drew1 | refine below_set ?_ GE136.out) | exact HB.out)⟩⟩
                  · rw [if_neg c17] at H
                    have c17b0 : ((x9_2.length : Int) == 0) = false := beq_eq_false_iff_ne.mpr c17
                    have c17b1 : ((x9_2.length : Int) != 0) = true := bne_iff_ne.mpr c17
                    have c17b2 : ¬ (x9_2 = []) := fun h_ => c17 (by rw [h_]; rfl)
                    by_cases c19 : 0 < (x9_2.length : Int)
                    · rw [if_pos c19] at H
                      have c19b0 : decide (0 < (x9_2.length : Int)) = true := decide_eq_true c19
                      have c19b1 : decide (0 < x9_2.length) = true := decide_eq_true (by omega)
                      clear c19
                      replace H := Option.bind_eq_some_iff.mp H
                      obtain ⟨⟨t141, t142, t143, t144, t145, t146⟩, A200, H⟩ := H
                      replace H : (if t146 = 0 then (if 1 ≤ (x9_2.length : Int) then ((some (x9_2.drop (1 : Int).toNat : List Int)).bind fun y149 => (if t143 = (wrap64 (x10_2 - (rd x9_2 0))) then (if t144 = (y149.length : Int) then (if (wrap64 (x10_2 - (rd x9_2 0))) > a0 then (some false) else (if (y149.length : Int) > a1 then (some false) else (fairleadlaw16_QuotaKeeps.l0 k2 a0 a1 l2 y149 (wrap64 (x10_2 - (rd x9_2 0))) (wrap64 (x11_2 + 1)) t141 t142 t143 t144 t145))) else (some false)) else (some false))) else (none)) else (some false)) = some r := H
                      have A20 := Aside0.mk A200
                      clear A200
                      by_cases c21 : t146 = 0
                      · rw [if_pos c21] at H
                        have c21b0 : (t146 == 0) = true := beq_iff_eq.mpr c21
                        have c21b1 : (t146 != 0) = false := bne_eq_false_iff_eq.mpr c21
                        clear c21
                        by_cases c22 : 1 ≤ (x9_2.length : Int)
                        · rw [if_pos c22] at H
                          have c22b0 := eq_true c22
                          have c22b1 : decide (1 ≤ (x9_2.length : Int)) = true := decide_eq_true c22
                          clear c22
                          obtain ⟨y149, hy149⟩ : ∃ y_ : List Int, y_ = (x9_2.drop (1 : Int).toNat) := ⟨_, rfl⟩
                          replace H : (if t143 = (wrap64 (x10_2 - (rd x9_2 0))) then (if t144 = (y149.length : Int) then (if (wrap64 (x10_2 - (rd x9_2 0))) > a0 then (some false) else (if (y149.length : Int) > a1 then (some false) else (fairleadlaw16_QuotaKeeps.l0 k2 a0 a1 l2 y149 (wrap64 (x10_2 - (rd x9_2 0))) (wrap64 (x11_2 + 1)) t141 t142 t143 t144 t145))) else (some false)) else (some false)) = some r := by first | (rw [hy149]; with_reducible exact H) | (have H2_ := (Option.bind_some _ _).symm.trans H; rw [hy149]; with_reducible exact H2_) | (have H2_ := (Option.bind_some _ _).symm.trans H; with_reducible exact H2_) | with_reducible exact H | (rw [hy149]; exact H) | exact H
                          have Ny149 := Aside0.mk hy149
                          clear hy149
                          by_cases c23 : t143 = (wrap64 (x10_2 - (rd x9_2 0)))
                          · rw [if_pos c23] at H
                            have c23b0 : (t143 == (wrap64 (x10_2 - (rd x9_2 0)))) = true := beq_iff_eq.mpr c23
                            have c23b1 : (t143 != (wrap64 (x10_2 - (rd x9_2 0)))) = false := bne_eq_false_iff_eq.mpr c23
                            clear c23
                            by_cases c24 : t144 = (y149.length : Int)
                            · rw [if_pos c24] at H
                              have c24b0 : (t144 == (y149.length : Int)) = true := beq_iff_eq.mpr c24
                              have c24b1 : (t144 != (y149.length : Int)) = false := bne_eq_false_iff_eq.mpr c24
                              clear c24
                              by_cases c25 : (wrap64 (x10_2 - (rd x9_2 0))) > a0
                              · rw [if_pos c25] at H
                                have c25b0 : decide (a0 < (wrap64 (x10_2 - (rd x9_2 0)))) = true := decide_eq_true c25
                                clear c25
                                obtain rfl := Option.some.inj H
                                exact absurd hr_.out (by decide)
                              · rw [if_neg c25] at H
                                have c25b0 : decide (a0 < (wrap64 (x10_2 - (rd x9_2 0)))) = false := decide_eq_false c25
                                clear c25
                                by_cases c26 : (y149.length : Int) > a1
                                · rw [if_pos c26] at H
                                  have c26b0 : decide (a1 < (y149.length : Int)) = true := decide_eq_true c26
                                  clear c26
                                  obtain rfl := Option.some.inj H
                                  exact absurd hr_.out (by decide)
                                · rw [if_neg c26] at H
                                  have c26b0 : decide (a1 < (y149.length : Int)) = false := decide_eq_false c26
                                  clear c26
                                  have H' := Aside0.mk H
                                  clear H
                                  have p139 : 0 ≤ (x11_2 : Int) := of_decide_eq_true (by first | (with_reducible assumption) | assumption)
                                  have q139 : x11_2 < (l2.length : Int) := of_decide_eq_true (by first | (with_reducible assumption) | assumption)
                                  obtain ⟨ad139, e139, hx139_0⟩ := Kd.at_int HR2.out x11_2 p139 q139
                                  cases e139
                                  replace hx139_0 := (HB.out.cell (World.block_lt_of_cell? w _ hx139_0)).trans hx139_0
                                  replace p139 := eq_true p139
                                  replace q139 := eq_true q139
                                  obtain ⟨Ao27, co27, eo27, _⟩ := Kd.Q_slice HO_9.out
                                  subst eo27
                                  try go_wp2
                                  have n0_ := Aside0.mk (Kd.Q_drew HO_9.out)
                                  have n1_ := Aside0.mk (blk_drew BK136.out)
                                  have n2_ := Aside0.mk (below_drew1 HB.out)
                                  clear HO_9
                                  clear BK136
                                  clear HB
                                  have HO_9 := n0_
                                  have BK136 := n1_
                                  have HB := n2_
                                  clear n0_ n1_ n2_
                                  have p140 : 0 ≤ (0 : Int) := (by omega)
                                  have q140 : 0 < (x9_2.length : Int) := of_decide_eq_true (by first | (with_reducible assumption) | assumption)
                                  obtain ⟨ad140, e140, hx140_0⟩ := Kd.at_int (Kd.Q_reads' HO_9.out).2.2 0 p140 q140
                                  cases e140
                                  have qi140 : (0 < x9_2.length) = True := eq_true (by omega)
                                  (try rw [show ((0 : Int)).toNat = 0 from rfl] at hx140_0)
                                  (try rw [Addr.add_zero'] at hx140_0)
                                  replace p140 := eq_true p140
                                  replace q140 := eq_true q140
                                  refine start_ (n := 11) (S := fun w' => w'.cell? ⟨gb136, 0, none⟩ = some (.int .i64 x137000_2) ∧ w'.cell? ⟨gb136, 1, none⟩ = some (.int .i64 x137001_2) ∧ w'.cell? ⟨gb136, 2, none⟩ = some (.int .i64 x137002_2) ∧ w'.cell? ⟨gb136, 3, none⟩ = some (.int .i64 x137003_2) ∧ w'.cell? ⟨gb136, 4, none⟩ = some (.int .i64 x137004_2) ∧ w'.cell? ad140 = some (.int .i64 (rd x9_2 0))) (ds := []) #[false, false, false, false, false, false, false, false, false, false, false] (by kernel_rfl) rfl rfl ⟨(blk_cell BK136.out 0).trans rfl, (blk_cell BK136.out 1).trans rfl, (blk_cell BK136.out 2).trans rfl, (blk_cell BK136.out 3).trans rfl, (blk_cell BK136.out 4).trans rfl, hx140_0⟩ (fun hHeld => ?_); refine with_tabW fairleadlaw16_QuotaKeeps.tab11 fairleadlaw16_QuotaKeeps.bits11 (fun HT_ HW_ => ?_)
                                  generalize wr.drew = w28 at HO_9 BK136 HB hx140_0 hHeld ⊢
                                  refine pure_ (i := 1) (N := some 53) (v := ?_) (a' := ?_) #[false, true, false, false, false, false, false, false, false, false, false] rfl rfl (any_of HT_.out (by kernel_rfl)) (fun _ _ _ h => h) (Or.inl ⟨by rfl, ?_⟩) ?_ ?_
                                  rotate_left
                                  · intro w'
                                    go_simp
                                    with_reducible rfl
                                  rotate_left
                                  · simp only [Act.put, List.setIfInBounds_toArray, List.set_cons_zero, List.set_cons_succ, i64_w, i32_w]
                                    rfl
                                  refine pure_ (i := 2) (N := some 54) (v := ?_) (a' := ?_) #[false, true, true, false, false, false, false, false, false, false, false] rfl rfl (any_of HT_.out (by kernel_rfl)) (fun _ _ _ h => h) (Or.inl ⟨by rfl, ?_⟩) ?_ ?_
                                  rotate_left
                                  · intro w'
                                    go_simp
                                    with_reducible rfl
                                  rotate_left
                                  · simp only [Act.put, List.setIfInBounds_toArray, List.set_cons_zero, List.set_cons_succ, i64_w, i32_w]
                                    rfl
                                  refine take_ (i := 0) (N := some 52) (v := ?_) (a' := ?_) #[true, true, true, false, false, false, false, false, false, false, false] rfl rfl (take_ofW HT_.out HW_.out (by kernel_rfl)) (fun _ _ _ h => h) (Or.inl ⟨by rfl, ?_⟩) hHeld ?_ ?_
                                  rotate_left
                                  · rintro w' ⟨s0, s1, s2, s3, s4, s5⟩
                                    go_simp
                                    with_reducible rfl
                                  rotate_left
                                  · simp only [Act.put, List.setIfInBounds_toArray, List.set_cons_zero, List.set_cons_succ, i64_w, i32_w]
                                    rfl
                                  refine take_ (i := 3) (N := some 55) (v := ?_) (a' := ?_) #[true, true, true, true, false, false, false, false, false, false, false] rfl rfl (take_ofW HT_.out HW_.out (by kernel_rfl)) (fun _ _ _ h => h) (Or.inl ⟨by rfl, ?_⟩) hHeld ?_ ?_
                                  rotate_left
                                  · rintro w' ⟨s0, s1, s2, s3, s4, s5⟩
                                    go_simp
                                    with_reducible rfl
                                  rotate_left
                                  · simp only [Act.put, List.setIfInBounds_toArray, List.set_cons_zero, List.set_cons_succ, i64_w, i32_w]
                                    rfl
                                  refine join_ (σ := Nat) 2 #[true, true, true, true, true, true, true, true, true, false, false] (fun s_ => [(56, .tuple #[.agg #[.int .i64 t141, .int .i64 t142, .int .i64 t143, .int .i64 t144, .int .i64 t145], .int .i64 t146]), (12, .pointer (some ⟨s_, 0, none⟩)), (51, .tuple #[.agg #[.int .i64 t141, .int .i64 t142, .int .i64 t143, .int .i64 t144, .int .i64 t145], .int .i64 t146]), (57, .agg #[.int .i64 t141, .int .i64 t142, .int .i64 t143, .int .i64 t144, .int .i64 t145]), (58, .int .i64 t146)]) (fun s_ w' => (w'.cell? ⟨gb136, 0, none⟩ = some (.int .i64 x137000_2) ∧ w'.cell? ⟨gb136, 1, none⟩ = some (.int .i64 x137001_2) ∧ w'.cell? ⟨gb136, 2, none⟩ = some (.int .i64 x137002_2) ∧ w'.cell? ⟨gb136, 3, none⟩ = some (.int .i64 x137003_2) ∧ w'.cell? ⟨gb136, 4, none⟩ = some (.int .i64 x137004_2) ∧ w'.cell? ad140 = some (.int .i64 (rd x9_2 0))) ∧ (Kd.Q (Kd.int .i64) 3 w' w.heap.size (fun _ => True) (.slice (some ad140) x9_2.length co27) x9_2) ∧ (w'.heap[gb136]? = some (.cells #[.int .i64 x137000_2, .int .i64 x137001_2, .int .i64 x137002_2, .int .i64 x137003_2, .int .i64 x137004_2] 23 (0, 0))) ∧ (w'.heap[s_]? = some (.cells #[.int .i64 0, .int .i64 0, .int .i64 0, .int .i64 0, .int .i64 0] 23 (0, 0))) ∧ (w.heap.size ≤ s_) ∧ (w.heap.size ≤ s_) ∧ (gb136 ≠ s_) ∧ (s_ ≠ gb136) ∧ (Below w.heap.size w w')) ?_ ?_
                                  rotate_left
                                  · intro hCont
                                    refine two_ (i := 4) (j := 8) (Ni := some 56) (Nj := some 12) #[true, true, true, true, true, false, false, false, false, false, false] #[true, true, true, true, false, false, false, false, true, false, false] rfl rfl rfl rfl (two_of HT_.out (by kernel_rfl)) (by decide) (by decide) (fun K hK => ?_) (fun K hK => ?_)
                                    · skip
                                      refine goes_ Try.func9 (by kernel_rfl) rfl #[.agg #[.int .i64 x137000_2, .int .i64 x137001_2, .int .i64 x137002_2, .int .i64 x137003_2, .int .i64 x137004_2], .int .i64 (rd x9_2 0)] (by rfl) rfl rfl (by (try simp only [List.map_toArray, List.map_cons, List.map_nil]); first | done | rfl | (simp only [List.length_drop, List.length_take]; rfl)) ?_
                                      with_reducible refine (quota_Release.calls x137000_2 x137001_2 x137002_2 x137003_2 x137004_2 (rd x9_2 0) t141 t142 t143 t144 t145 t146 _ A20.out).mono ?_
                                      rintro e w29 ⟨rfl, hb⟩
                                      have HS5_ := (hb.cell (World.block_lt_of_cell? _ _ (hHeld.2.2.2.2.2))).trans (hHeld.2.2.2.2.2)
                                      refine ⟨_, rfl, ?_⟩
                                      have n0_ := Aside0.mk (Kd.Q_below (by (with_reducible repeat (first | apply Kd.Q_alloc | apply Kd.Q_drewN | apply Kd.Q_drew)); exact HO_9.out) hb)
                                      have n1_ := Aside0.mk (blk_below (g := gb136) (o := .cells #[.int .i64 x137000_2, .int .i64 x137001_2, .int .i64 x137002_2, .int .i64 x137003_2, .int .i64 x137004_2] 23 (0, 0)) (by (with_reducible repeat (first | refine blk_drewN ?_ _ | refine blk_drew ?_ | refine blk_alloc ?_ _)); exact BK136.out) hb)
                                      have n2_ := Aside0.mk (below_step (by repeat (first | (with_reducible first | exact HB.out | apply below_alloc | apply pw_below_drewN | apply below_drew1 | refine below_set ?_ GE136.out) | exact HB.out)) hb)
                                      clear HO_9
                                      clear BK136
                                      clear HB
                                      have HO_9 := n0_
                                      have BK136 := n1_
                                      have HB := n2_
                                      clear n0_ n1_ n2_
                                      (try clear hb)
                                      (try clear hb2)
                                      (try clear hk)
                                      (try clear hi)
                                      refine hK.out _ _ ⟨(blk_cell BK136.out 0).trans rfl, (blk_cell BK136.out 1).trans rfl, (blk_cell BK136.out 2).trans rfl, (blk_cell BK136.out 3).trans rfl, (blk_cell BK136.out 4).trans rfl, HS5_⟩ (fun hHeld => ?_)
                                      clear hK K
                                      refine norm_ (a' := ?_) ?_ ?_
                                      rotate_left
                                      · show Act.put _ (some 56) _ = _
                                        simp only [Act.put, List.setIfInBounds_toArray, List.set_cons_zero, List.set_cons_succ, i64_w, i32_w]
                                        rfl
                                      refine pure_ (i := 5) (N := some 51) (v := ?_) (a' := ?_) #[true, true, true, true, true, true, false, false, false, false, false] rfl rfl (any_of HT_.out (by kernel_rfl)) (fun _ _ _ h => h) (Or.inl ⟨by rfl, ?_⟩) ?_ ?_
                                      rotate_left
                                      · intro w'
                                        go_simp
                                        with_reducible rfl
                                      rotate_left
                                      · simp only [Act.put, List.setIfInBounds_toArray, List.set_cons_zero, List.set_cons_succ, i64_w, i32_w]
                                        rfl
                                      refine pure_ (i := 6) (N := some 57) (v := ?_) (a' := ?_) #[true, true, true, true, true, true, true, false, false, false, false] rfl rfl (any_of HT_.out (by kernel_rfl)) (fun _ _ _ h => h) (Or.inl ⟨by rfl, ?_⟩) ?_ ?_
                                      rotate_left
                                      · intro w'
                                        go_simp
                                        with_reducible rfl
                                      rotate_left
                                      · simp only [Act.put, List.setIfInBounds_toArray, List.set_cons_zero, List.set_cons_succ, i64_w, i32_w]
                                        rfl
                                      refine pure_ (i := 7) (N := some 58) (v := ?_) (a' := ?_) #[true, true, true, true, true, true, true, true, false, false, false] rfl rfl (any_of HT_.out (by kernel_rfl)) (fun _ _ _ h => h) (Or.inl ⟨by rfl, ?_⟩) ?_ ?_
                                      rotate_left
                                      · intro w'
                                        go_simp
                                        with_reducible rfl
                                      rotate_left
                                      · simp only [Act.put, List.setIfInBounds_toArray, List.set_cons_zero, List.set_cons_succ, i64_w, i32_w]
                                        rfl
                                      refine one_ (i := 8) (N := some 12) #[true, true, true, true, true, true, true, true, true, false, false] rfl rfl (one_of HT_.out (by kernel_rfl)) (by decide) (fun K hK => ?_)
                                      refine box_step ?hg (N := 12) ?hd (cs := #[.int .i64 0, .int .i64 0, .int .i64 0, .int .i64 0, .int .i64 0]) (t := 23) ?hr ?_; (case hd => rfl); (case hg => rfl); (case hr => first | (go_simp; done) | (go_simp; rfl))
                                      intro gb147 hg w30 hbox hb
                                      have HS5_ := (hb.cell (World.block_lt_of_cell? _ _ (hHeld.2.2.2.2.2))).trans (hHeld.2.2.2.2.2)
                                      have n0_ := Aside0.mk (Kd.Q_below (by (with_reducible repeat (first | apply Kd.Q_alloc | apply Kd.Q_drewN | apply Kd.Q_drew)); exact HO_9.out) hb)
                                      have n1_ := Aside0.mk (blk_below (g := gb136) (o := .cells #[.int .i64 x137000_2, .int .i64 x137001_2, .int .i64 x137002_2, .int .i64 x137003_2, .int .i64 x137004_2] 23 (0, 0)) (by (with_reducible repeat (first | refine blk_drewN ?_ _ | refine blk_drew ?_ | refine blk_alloc ?_ _)); exact BK136.out) hb)
                                      have n2_ := Aside0.mk (below_step (by repeat (first | (with_reducible first | exact HB.out | apply below_alloc | apply pw_below_drewN | apply below_drew1 | refine below_set ?_ GE136.out) | exact HB.out)) hb)
                                      have n3_ := Aside0.mk (hbox)
                                      have n4_ := Aside0.mk ((by rw [hg]; exact (below_size (by repeat (first | (with_reducible first | exact HB.out | apply below_alloc | apply pw_below_drewN | apply below_drew1 | refine below_set ?_ GE136.out) | exact HB.out))) : w.heap.size ≤ gb147))
                                      have n5_ := Aside0.mk ((by rw [hg]; exact (below_size (by repeat (first | (with_reducible first | exact HB.out | apply below_alloc | apply pw_below_drewN | apply below_drew1 | refine below_set ?_ GE136.out) | exact HB.out))) : w.heap.size ≤ gb147))
                                      have n6_ := Aside0.mk ((by rw [hg]; exact Nat.ne_of_lt (blk_lt (g := gb136) (o := .cells #[.int .i64 x137000_2, .int .i64 x137001_2, .int .i64 x137002_2, .int .i64 x137003_2, .int .i64 x137004_2] 23 (0, 0)) (by (with_reducible repeat (first | refine blk_drewN ?_ _ | refine blk_drew ?_ | refine blk_alloc ?_ _)); exact BK136.out)) : gb136 ≠ gb147))
                                      have n7_ := Aside0.mk ((by rw [hg]; exact Nat.ne_of_gt (blk_lt (g := gb136) (o := .cells #[.int .i64 x137000_2, .int .i64 x137001_2, .int .i64 x137002_2, .int .i64 x137003_2, .int .i64 x137004_2] 23 (0, 0)) (by (with_reducible repeat (first | refine blk_drewN ?_ _ | refine blk_drew ?_ | refine blk_alloc ?_ _)); exact BK136.out)) : gb147 ≠ gb136))
                                      clear HO_9
                                      clear BK136
                                      clear HB
                                      have HO_9 := n0_
                                      have BK136 := n1_
                                      have HB := n2_
                                      have BK147 := n3_
                                      have GW147 := n4_
                                      have GE147 := n5_
                                      have NB136_147 := n6_
                                      have NB147_136 := n7_
                                      clear n0_ n1_ n2_ n3_ n4_ n5_ n6_ n7_
                                      clear hb hbox hg
                                      refine hK.out _ _ ⟨(blk_cell BK136.out 0).trans rfl, (blk_cell BK136.out 1).trans rfl, (blk_cell BK136.out 2).trans rfl, (blk_cell BK136.out 3).trans rfl, (blk_cell BK136.out 4).trans rfl, HS5_⟩ (fun hHeld => ?_)
                                      clear hK K
                                      refine norm_ (a' := ?_) ?_ ?_
                                      rotate_left
                                      · show Act.put _ (some 12) _ = _
                                        simp only [Act.put, List.setIfInBounds_toArray, List.set_cons_zero, List.set_cons_succ, i64_w, i32_w]
                                        rfl
                                      exact norm_ (by simp only [putAll, Act.put, List.setIfInBounds_toArray, List.set_cons_zero, List.set_cons_succ]) (hCont (gb147) _ ⟨hHeld, (by (with_reducible repeat (first | apply Kd.Q_alloc | apply Kd.Q_drewN | apply Kd.Q_drew)); exact HO_9.out), (by (with_reducible repeat (first | refine blk_drewN ?_ _ | refine blk_drew ?_ | refine blk_alloc ?_ _)); exact BK136.out), (by (with_reducible repeat (first | refine blk_drewN ?_ _ | refine blk_drew ?_ | refine blk_alloc ?_ _)); exact BK147.out), GW147.out, GE147.out, NB136_147.out, NB147_136.out, (by repeat (first | (with_reducible first | exact HB.out | apply below_alloc | apply pw_below_drewN | apply below_drew1 | refine below_set ?_ GE136.out | refine below_set ?_ GE147.out) | exact HB.out))⟩)
                                    · skip
                                      refine box_step ?hg (N := 12) ?hd (cs := #[.int .i64 0, .int .i64 0, .int .i64 0, .int .i64 0, .int .i64 0]) (t := 23) ?hr ?_; (case hd => rfl); (case hg => rfl); (case hr => first | (go_simp; done) | (go_simp; rfl))
                                      intro gb147 hg w29 hbox hb
                                      have HS5_ := (hb.cell (World.block_lt_of_cell? _ _ (hHeld.2.2.2.2.2))).trans (hHeld.2.2.2.2.2)
                                      have n0_ := Aside0.mk (Kd.Q_below (by (with_reducible repeat (first | apply Kd.Q_alloc | apply Kd.Q_drewN | apply Kd.Q_drew)); exact HO_9.out) hb)
                                      have n1_ := Aside0.mk (blk_below (g := gb136) (o := .cells #[.int .i64 x137000_2, .int .i64 x137001_2, .int .i64 x137002_2, .int .i64 x137003_2, .int .i64 x137004_2] 23 (0, 0)) (by (with_reducible repeat (first | refine blk_drewN ?_ _ | refine blk_drew ?_ | refine blk_alloc ?_ _)); exact BK136.out) hb)
                                      have n2_ := Aside0.mk (below_step (by repeat (first | (with_reducible first | exact HB.out | apply below_alloc | apply pw_below_drewN | apply below_drew1 | refine below_set ?_ GE136.out) | exact HB.out)) hb)
                                      have n3_ := Aside0.mk (hbox)
                                      have n4_ := Aside0.mk ((by rw [hg]; exact (below_size (by repeat (first | (with_reducible first | exact HB.out | apply below_alloc | apply pw_below_drewN | apply below_drew1 | refine below_set ?_ GE136.out) | exact HB.out))) : w.heap.size ≤ gb147))
                                      have n5_ := Aside0.mk ((by rw [hg]; exact (below_size (by repeat (first | (with_reducible first | exact HB.out | apply below_alloc | apply pw_below_drewN | apply below_drew1 | refine below_set ?_ GE136.out) | exact HB.out))) : w.heap.size ≤ gb147))
                                      have n6_ := Aside0.mk ((by rw [hg]; exact Nat.ne_of_lt (blk_lt (g := gb136) (o := .cells #[.int .i64 x137000_2, .int .i64 x137001_2, .int .i64 x137002_2, .int .i64 x137003_2, .int .i64 x137004_2] 23 (0, 0)) (by (with_reducible repeat (first | refine blk_drewN ?_ _ | refine blk_drew ?_ | refine blk_alloc ?_ _)); exact BK136.out)) : gb136 ≠ gb147))
                                      have n7_ := Aside0.mk ((by rw [hg]; exact Nat.ne_of_gt (blk_lt (g := gb136) (o := .cells #[.int .i64 x137000_2, .int .i64 x137001_2, .int .i64 x137002_2, .int .i64 x137003_2, .int .i64 x137004_2] 23 (0, 0)) (by (with_reducible repeat (first | refine blk_drewN ?_ _ | refine blk_drew ?_ | refine blk_alloc ?_ _)); exact BK136.out)) : gb147 ≠ gb136))
                                      clear HO_9
                                      clear BK136
                                      clear HB
                                      have HO_9 := n0_
                                      have BK136 := n1_
                                      have HB := n2_
                                      have BK147 := n3_
                                      have GW147 := n4_
                                      have GE147 := n5_
                                      have NB136_147 := n6_
                                      have NB147_136 := n7_
                                      clear n0_ n1_ n2_ n3_ n4_ n5_ n6_ n7_
                                      clear hb hbox hg
                                      refine hK.out _ _ ⟨(blk_cell BK136.out 0).trans rfl, (blk_cell BK136.out 1).trans rfl, (blk_cell BK136.out 2).trans rfl, (blk_cell BK136.out 3).trans rfl, (blk_cell BK136.out 4).trans rfl, HS5_⟩ (fun hHeld => ?_)
                                      clear hK K
                                      refine norm_ (a' := ?_) ?_ ?_
                                      rotate_left
                                      · show Act.put _ (some 12) _ = _
                                        simp only [Act.put, List.setIfInBounds_toArray, List.set_cons_zero, List.set_cons_succ, i64_w, i32_w]
                                        rfl
                                      refine one_ (i := 4) (N := some 56) #[true, true, true, true, true, false, false, false, true, false, false] rfl rfl (one_of HT_.out (by kernel_rfl)) (by decide) (fun K hK => ?_)
                                      refine goes_ Try.func9 (by kernel_rfl) rfl #[.agg #[.int .i64 x137000_2, .int .i64 x137001_2, .int .i64 x137002_2, .int .i64 x137003_2, .int .i64 x137004_2], .int .i64 (rd x9_2 0)] (by rfl) rfl rfl (by (try simp only [List.map_toArray, List.map_cons, List.map_nil]); first | done | rfl | (simp only [List.length_drop, List.length_take]; rfl)) ?_
                                      with_reducible refine (quota_Release.calls x137000_2 x137001_2 x137002_2 x137003_2 x137004_2 (rd x9_2 0) t141 t142 t143 t144 t145 t146 _ A20.out).mono ?_
                                      rintro e w30 ⟨rfl, hb⟩
                                      have HS5_ := (hb.cell (World.block_lt_of_cell? _ _ (hHeld.2.2.2.2.2))).trans (hHeld.2.2.2.2.2)
                                      refine ⟨_, rfl, ?_⟩
                                      have n0_ := Aside0.mk (Kd.Q_below (by (with_reducible repeat (first | apply Kd.Q_alloc | apply Kd.Q_drewN | apply Kd.Q_drew)); exact HO_9.out) hb)
                                      have n1_ := Aside0.mk (blk_below (g := gb136) (o := .cells #[.int .i64 x137000_2, .int .i64 x137001_2, .int .i64 x137002_2, .int .i64 x137003_2, .int .i64 x137004_2] 23 (0, 0)) (by (with_reducible repeat (first | refine blk_drewN ?_ _ | refine blk_drew ?_ | refine blk_alloc ?_ _)); exact BK136.out) hb)
                                      have n2_ := Aside0.mk (blk_below (g := gb147) (o := .cells #[.int .i64 0, .int .i64 0, .int .i64 0, .int .i64 0, .int .i64 0] 23 (0, 0)) (by (with_reducible repeat (first | refine blk_drewN ?_ _ | refine blk_drew ?_ | refine blk_alloc ?_ _)); exact BK147.out) hb)
                                      have n3_ := Aside0.mk (below_step (by repeat (first | (with_reducible first | exact HB.out | apply below_alloc | apply pw_below_drewN | apply below_drew1 | refine below_set ?_ GE136.out | refine below_set ?_ GE147.out) | exact HB.out)) hb)
                                      clear HO_9
                                      clear BK136
                                      clear BK147
                                      clear HB
                                      have HO_9 := n0_
                                      have BK136 := n1_
                                      have BK147 := n2_
                                      have HB := n3_
                                      clear n0_ n1_ n2_ n3_
                                      (try clear hb)
                                      (try clear hb2)
                                      (try clear hk)
                                      (try clear hi)
                                      refine hK.out _ _ ⟨(blk_cell BK136.out 0).trans rfl, (blk_cell BK136.out 1).trans rfl, (blk_cell BK136.out 2).trans rfl, (blk_cell BK136.out 3).trans rfl, (blk_cell BK136.out 4).trans rfl, HS5_⟩ (fun hHeld => ?_)
                                      clear hK K
                                      refine norm_ (a' := ?_) ?_ ?_
                                      rotate_left
                                      · show Act.put _ (some 56) _ = _
                                        simp only [Act.put, List.setIfInBounds_toArray, List.set_cons_zero, List.set_cons_succ, i64_w, i32_w]
                                        rfl
                                      refine pure_ (i := 5) (N := some 51) (v := ?_) (a' := ?_) #[true, true, true, true, true, true, false, false, true, false, false] rfl rfl (any_of HT_.out (by kernel_rfl)) (fun _ _ _ h => h) (Or.inl ⟨by rfl, ?_⟩) ?_ ?_
                                      rotate_left
                                      · intro w'
                                        go_simp
                                        with_reducible rfl
                                      rotate_left
                                      · simp only [Act.put, List.setIfInBounds_toArray, List.set_cons_zero, List.set_cons_succ, i64_w, i32_w]
                                        rfl
                                      refine pure_ (i := 6) (N := some 57) (v := ?_) (a' := ?_) #[true, true, true, true, true, true, true, false, true, false, false] rfl rfl (any_of HT_.out (by kernel_rfl)) (fun _ _ _ h => h) (Or.inl ⟨by rfl, ?_⟩) ?_ ?_
                                      rotate_left
                                      · intro w'
                                        go_simp
                                        with_reducible rfl
                                      rotate_left
                                      · simp only [Act.put, List.setIfInBounds_toArray, List.set_cons_zero, List.set_cons_succ, i64_w, i32_w]
                                        rfl
                                      refine pure_ (i := 7) (N := some 58) (v := ?_) (a' := ?_) #[true, true, true, true, true, true, true, true, true, false, false] rfl rfl (any_of HT_.out (by kernel_rfl)) (fun _ _ _ h => h) (Or.inl ⟨by rfl, ?_⟩) ?_ ?_
                                      rotate_left
                                      · intro w'
                                        go_simp
                                        with_reducible rfl
                                      rotate_left
                                      · simp only [Act.put, List.setIfInBounds_toArray, List.set_cons_zero, List.set_cons_succ, i64_w, i32_w]
                                        rfl
                                      exact norm_ (by simp only [putAll, Act.put, List.setIfInBounds_toArray, List.set_cons_zero, List.set_cons_succ]) (hCont (gb147) _ ⟨hHeld, (by (with_reducible repeat (first | apply Kd.Q_alloc | apply Kd.Q_drewN | apply Kd.Q_drew)); exact HO_9.out), (by (with_reducible repeat (first | refine blk_drewN ?_ _ | refine blk_drew ?_ | refine blk_alloc ?_ _)); exact BK136.out), (by (with_reducible repeat (first | refine blk_drewN ?_ _ | refine blk_drew ?_ | refine blk_alloc ?_ _)); exact BK147.out), GW147.out, GE147.out, NB136_147.out, NB147_136.out, (by repeat (first | (with_reducible first | exact HB.out | apply below_alloc | apply pw_below_drewN | apply below_drew1 | refine below_set ?_ GE136.out | refine below_set ?_ GE147.out) | exact HB.out))⟩)
                                  rintro gb147 w31 ⟨hS_, h0_, h1_, h2_, h3_, h4_, h5_, h6_, h7_⟩
                                  have n0_ : Aside0 (Kd.Q (Kd.int .i64) 3 w31 w.heap.size (fun _ => True) (.slice (some ad140) x9_2.length co27) x9_2) := ⟨h0_⟩
                                  have n1_ : Aside0 (w31.heap[gb136]? = some (.cells #[.int .i64 x137000_2, .int .i64 x137001_2, .int .i64 x137002_2, .int .i64 x137003_2, .int .i64 x137004_2] 23 (0, 0))) := ⟨h1_⟩
                                  have n2_ : Aside0 (w31.heap[gb147]? = some (.cells #[.int .i64 0, .int .i64 0, .int .i64 0, .int .i64 0, .int .i64 0] 23 (0, 0))) := ⟨h2_⟩
                                  have n3_ : Aside0 (w.heap.size ≤ gb147) := ⟨h3_⟩
                                  have n4_ : Aside0 (w.heap.size ≤ gb147) := ⟨h4_⟩
                                  have n5_ : Aside0 (gb136 ≠ gb147) := ⟨h5_⟩
                                  have n6_ : Aside0 (gb147 ≠ gb136) := ⟨h6_⟩
                                  have n7_ : Aside0 (Below w.heap.size w w31) := ⟨h7_⟩
                                  clear HO_9
                                  clear BK136
                                  clear HB
                                  clear h0_ h1_ h2_ h3_ h4_ h5_ h6_ h7_
                                  have HO_9 := n0_
                                  have BK136 := n1_
                                  have BK147 := n2_
                                  have GW147 := n3_
                                  have GE147 := n4_
                                  have NB136_147 := n5_
                                  have NB147_136 := n6_
                                  have HB := n7_
                                  clear n0_ n1_ n2_ n3_ n4_ n5_ n6_ n7_
                                  have hHeld : w31.cell? ⟨gb136, 0, none⟩ = some (.int .i64 x137000_2) ∧ w31.cell? ⟨gb136, 1, none⟩ = some (.int .i64 x137001_2) ∧ w31.cell? ⟨gb136, 2, none⟩ = some (.int .i64 x137002_2) ∧ w31.cell? ⟨gb136, 3, none⟩ = some (.int .i64 x137003_2) ∧ w31.cell? ⟨gb136, 4, none⟩ = some (.int .i64 x137004_2) ∧ w31.cell? ad140 = some (.int .i64 (rd x9_2 0)) := hS_
                                  refine norm_ (a' := ?_) ?_ ?_
                                  rotate_left
                                  · simp only [putAll, Act.put, List.setIfInBounds_toArray, List.set_cons_zero, List.set_cons_succ]
                                    rfl
                                  refine one_ (i := 9) (N := none) #[true, true, true, true, true, true, true, true, true, true, false] rfl rfl (one_of HT_.out (by kernel_rfl)) (by decide) (fun K hK => ?_)
                                  have hs32 : w31.cell? ⟨gb147, 0, none⟩ = some (.int .i64 0) := (blk_cell BK147.out 0).trans rfl
                                  have hfs32 := blk_frozen BK147.out 0
                                  have hns32_0 := NB136_147.out
                                  have hms32_0 := NB147_136.out
                                  have hs33 : w31.cell? ⟨gb147, 1, none⟩ = some (.int .i64 0) := (blk_cell BK147.out 1).trans rfl
                                  have hfs33 := blk_frozen BK147.out 1
                                  have hns33_0 := NB136_147.out
                                  have hms33_0 := NB147_136.out
                                  have hs34 : w31.cell? ⟨gb147, 2, none⟩ = some (.int .i64 0) := (blk_cell BK147.out 2).trans rfl
                                  have hfs34 := blk_frozen BK147.out 2
                                  have hns34_0 := NB136_147.out
                                  have hms34_0 := NB147_136.out
                                  have hs35 : w31.cell? ⟨gb147, 3, none⟩ = some (.int .i64 0) := (blk_cell BK147.out 3).trans rfl
                                  have hfs35 := blk_frozen BK147.out 3
                                  have hns35_0 := NB136_147.out
                                  have hms35_0 := NB147_136.out
                                  have hs36 : w31.cell? ⟨gb147, 4, none⟩ = some (.int .i64 0) := (blk_cell BK147.out 4).trans rfl
                                  have hfs36 := blk_frozen BK147.out 4
                                  have hns36_0 := NB136_147.out
                                  have hms36_0 := NB147_136.out
                                  refine skip_ (w1 := ?_) (by rfl) rfl ?_ ?_
                                  rotate_left
                                  · go_simp
                                    rfl
                                  refine hK.out _ _ ⟨((cell_far (p := ⟨gb147, _, none⟩) NB136_147.out _).trans (((cell_far (p := ⟨gb147, _, none⟩) NB136_147.out _).trans (((cell_far (p := ⟨gb147, _, none⟩) NB136_147.out _).trans (((cell_far (p := ⟨gb147, _, none⟩) NB136_147.out _).trans (((cell_far (p := ⟨gb147, _, none⟩) NB136_147.out _).trans (hHeld.1)))))))))), ((cell_far (p := ⟨gb147, _, none⟩) NB136_147.out _).trans (((cell_far (p := ⟨gb147, _, none⟩) NB136_147.out _).trans (((cell_far (p := ⟨gb147, _, none⟩) NB136_147.out _).trans (((cell_far (p := ⟨gb147, _, none⟩) NB136_147.out _).trans (((cell_far (p := ⟨gb147, _, none⟩) NB136_147.out _).trans (hHeld.2.1)))))))))), ((cell_far (p := ⟨gb147, _, none⟩) NB136_147.out _).trans (((cell_far (p := ⟨gb147, _, none⟩) NB136_147.out _).trans (((cell_far (p := ⟨gb147, _, none⟩) NB136_147.out _).trans (((cell_far (p := ⟨gb147, _, none⟩) NB136_147.out _).trans (((cell_far (p := ⟨gb147, _, none⟩) NB136_147.out _).trans (hHeld.2.2.1)))))))))), ((cell_far (p := ⟨gb147, _, none⟩) NB136_147.out _).trans (((cell_far (p := ⟨gb147, _, none⟩) NB136_147.out _).trans (((cell_far (p := ⟨gb147, _, none⟩) NB136_147.out _).trans (((cell_far (p := ⟨gb147, _, none⟩) NB136_147.out _).trans (((cell_far (p := ⟨gb147, _, none⟩) NB136_147.out _).trans (hHeld.2.2.2.1)))))))))), ((cell_far (p := ⟨gb147, _, none⟩) NB136_147.out _).trans (((cell_far (p := ⟨gb147, _, none⟩) NB136_147.out _).trans (((cell_far (p := ⟨gb147, _, none⟩) NB136_147.out _).trans (((cell_far (p := ⟨gb147, _, none⟩) NB136_147.out _).trans (((cell_far (p := ⟨gb147, _, none⟩) NB136_147.out _).trans (hHeld.2.2.2.2.1)))))))))), ((cell_far (p := ⟨gb147, _, none⟩) (by first | exact Kd.own_blk (Kd.Q_ne HO_9.out BK147.out (by decide)) | (rw [add_block]; exact Kd.own_blk (Kd.Q_ne HO_9.out BK147.out (by decide))) | (show (Addr.add _ _).block ≠ _; rw [add_block]; exact Kd.own_blk (Kd.Q_ne HO_9.out BK147.out (by decide))) | (dsimp only; exact Kd.own_blk (Kd.Q_ne HO_9.out BK147.out (by decide)))) _).trans (((cell_far (p := ⟨gb147, _, none⟩) (by first | exact Kd.own_blk (Kd.Q_ne HO_9.out BK147.out (by decide)) | (rw [add_block]; exact Kd.own_blk (Kd.Q_ne HO_9.out BK147.out (by decide))) | (show (Addr.add _ _).block ≠ _; rw [add_block]; exact Kd.own_blk (Kd.Q_ne HO_9.out BK147.out (by decide))) | (dsimp only; exact Kd.own_blk (Kd.Q_ne HO_9.out BK147.out (by decide)))) _).trans (((cell_far (p := ⟨gb147, _, none⟩) (by first | exact Kd.own_blk (Kd.Q_ne HO_9.out BK147.out (by decide)) | (rw [add_block]; exact Kd.own_blk (Kd.Q_ne HO_9.out BK147.out (by decide))) | (show (Addr.add _ _).block ≠ _; rw [add_block]; exact Kd.own_blk (Kd.Q_ne HO_9.out BK147.out (by decide))) | (dsimp only; exact Kd.own_blk (Kd.Q_ne HO_9.out BK147.out (by decide)))) _).trans (((cell_far (p := ⟨gb147, _, none⟩) (by first | exact Kd.own_blk (Kd.Q_ne HO_9.out BK147.out (by decide)) | (rw [add_block]; exact Kd.own_blk (Kd.Q_ne HO_9.out BK147.out (by decide))) | (show (Addr.add _ _).block ≠ _; rw [add_block]; exact Kd.own_blk (Kd.Q_ne HO_9.out BK147.out (by decide))) | (dsimp only; exact Kd.own_blk (Kd.Q_ne HO_9.out BK147.out (by decide)))) _).trans (((cell_far (p := ⟨gb147, _, none⟩) (by first | exact Kd.own_blk (Kd.Q_ne HO_9.out BK147.out (by decide)) | (rw [add_block]; exact Kd.own_blk (Kd.Q_ne HO_9.out BK147.out (by decide))) | (show (Addr.add _ _).block ≠ _; rw [add_block]; exact Kd.own_blk (Kd.Q_ne HO_9.out BK147.out (by decide))) | (dsimp only; exact Kd.own_blk (Kd.Q_ne HO_9.out BK147.out (by decide)))) _).trans (hHeld.2.2.2.2.2))))))))))⟩ (fun hHeld => ?_)
                                  clear hK K
                                  refine pure_ (i := 10) (N := some 13) (v := ?_) (a' := ?_) #[true, true, true, true, true, true, true, true, true, true, true] rfl rfl (any_of HT_.out (by kernel_rfl)) (fun _ _ _ h => h) (Or.inl ⟨by rfl, ?_⟩) ?_ ?_
                                  rotate_left
                                  · intro w'
                                    go_simp
                                    with_reducible rfl
                                  rotate_left
                                  · simp only [Act.put, List.setIfInBounds_toArray, List.set_cons_zero, List.set_cons_succ, i64_w, i32_w]
                                    rfl
                                  refine done_ (done_of HT_.out (by kernel_rfl)) ?_
                                  have n0_ : Aside0 (Kd.Q (Kd.int .i64) 3 (((((w31.setCell ⟨gb147, 0, none⟩ (.int .i64 t141)).setCell ⟨gb147, 1, none⟩ (.int .i64 t142)).setCell ⟨gb147, 2, none⟩ (.int .i64 t143)).setCell ⟨gb147, 3, none⟩ (.int .i64 t144)).setCell ⟨gb147, 4, none⟩ (.int .i64 t145)) w.heap.size (fun _ => True) (.slice (some ad140) x9_2.length co27) x9_2) := ⟨by (with_reducible repeat (first | apply Kd.Q_alloc | apply Kd.Q_drewN | apply Kd.Q_drew)); exact Kd.Q_mono (Kd.Q_far (p := ⟨gb147, 4, none⟩) (Kd.Q_far (p := ⟨gb147, 3, none⟩) (Kd.Q_far (p := ⟨gb147, 2, none⟩) (Kd.Q_far (p := ⟨gb147, 1, none⟩) (Kd.Q_far (p := ⟨gb147, 0, none⟩) (Kd.Q_types HO_9.out BK147.out (by decide)) (fun _ hk => hk.2) (.int .i64 t141)) (fun _ hk => hk.2) (.int .i64 t142)) (fun _ hk => hk.2) (.int .i64 t143)) (fun _ hk => hk.2) (.int .i64 t144)) (fun _ hk => hk.2) (.int .i64 t145)) (fun _ hk => trivial)⟩
                                  have n1_ : Aside0 ((((((w31.setCell ⟨gb147, 0, none⟩ (.int .i64 t141)).setCell ⟨gb147, 1, none⟩ (.int .i64 t142)).setCell ⟨gb147, 2, none⟩ (.int .i64 t143)).setCell ⟨gb147, 3, none⟩ (.int .i64 t144)).setCell ⟨gb147, 4, none⟩ (.int .i64 t145)).heap[gb136]? = some (.cells #[.int .i64 x137000_2, .int .i64 x137001_2, .int .i64 x137002_2, .int .i64 x137003_2, .int .i64 x137004_2] 23 (0, 0))) := ⟨by (with_reducible repeat (first | refine blk_drewN ?_ _ | refine blk_drew ?_ | refine blk_alloc ?_ _)); refine blk_far ?_ NB136_147.out _; (with_reducible repeat (first | refine blk_drewN ?_ _ | refine blk_drew ?_ | refine blk_alloc ?_ _)); refine blk_far ?_ NB136_147.out _; (with_reducible repeat (first | refine blk_drewN ?_ _ | refine blk_drew ?_ | refine blk_alloc ?_ _)); refine blk_far ?_ NB136_147.out _; (with_reducible repeat (first | refine blk_drewN ?_ _ | refine blk_drew ?_ | refine blk_alloc ?_ _)); refine blk_far ?_ NB136_147.out _; (with_reducible repeat (first | refine blk_drewN ?_ _ | refine blk_drew ?_ | refine blk_alloc ?_ _)); refine blk_far ?_ NB136_147.out _; (with_reducible repeat (first | refine blk_drewN ?_ _ | refine blk_drew ?_ | refine blk_alloc ?_ _)); exact BK136.out⟩
                                  have n2_ : Aside0 ((((((w31.setCell ⟨gb147, 0, none⟩ (.int .i64 t141)).setCell ⟨gb147, 1, none⟩ (.int .i64 t142)).setCell ⟨gb147, 2, none⟩ (.int .i64 t143)).setCell ⟨gb147, 3, none⟩ (.int .i64 t144)).setCell ⟨gb147, 4, none⟩ (.int .i64 t145)).heap[gb147]? = some (.cells #[.int .i64 t141, .int .i64 t142, .int .i64 t143, .int .i64 t144, .int .i64 t145] 23 (0, 0))) := ⟨by (with_reducible repeat (first | refine blk_drewN ?_ _ | refine blk_drew ?_ | refine blk_alloc ?_ _)); refine blk_put (cs := #[.int .i64 t141, .int .i64 t142, .int .i64 t143, .int .i64 t144, .int .i64 0]) ?_ 4 _ rfl; (with_reducible repeat (first | refine blk_drewN ?_ _ | refine blk_drew ?_ | refine blk_alloc ?_ _)); refine blk_put (cs := #[.int .i64 t141, .int .i64 t142, .int .i64 t143, .int .i64 0, .int .i64 0]) ?_ 3 _ rfl; (with_reducible repeat (first | refine blk_drewN ?_ _ | refine blk_drew ?_ | refine blk_alloc ?_ _)); refine blk_put (cs := #[.int .i64 t141, .int .i64 t142, .int .i64 0, .int .i64 0, .int .i64 0]) ?_ 2 _ rfl; (with_reducible repeat (first | refine blk_drewN ?_ _ | refine blk_drew ?_ | refine blk_alloc ?_ _)); refine blk_put (cs := #[.int .i64 t141, .int .i64 0, .int .i64 0, .int .i64 0, .int .i64 0]) ?_ 1 _ rfl; (with_reducible repeat (first | refine blk_drewN ?_ _ | refine blk_drew ?_ | refine blk_alloc ?_ _)); refine blk_put (cs := #[.int .i64 0, .int .i64 0, .int .i64 0, .int .i64 0, .int .i64 0]) ?_ 0 _ rfl; (with_reducible repeat (first | refine blk_drewN ?_ _ | refine blk_drew ?_ | refine blk_alloc ?_ _)); exact BK147.out⟩
                                  have n3_ : Aside0 (Below w.heap.size w (((((w31.setCell ⟨gb147, 0, none⟩ (.int .i64 t141)).setCell ⟨gb147, 1, none⟩ (.int .i64 t142)).setCell ⟨gb147, 2, none⟩ (.int .i64 t143)).setCell ⟨gb147, 3, none⟩ (.int .i64 t144)).setCell ⟨gb147, 4, none⟩ (.int .i64 t145))) := ⟨by repeat (first | (with_reducible first | exact HB.out | apply below_alloc | apply pw_below_drewN | apply below_drew1 | refine below_set ?_ GE136.out | refine below_set ?_ GE147.out) | exact HB.out)⟩
                                  (try clear HO_9)
                                  (try clear BK136)
                                  (try clear BK147)
                                  (try clear HB)
                                  generalize (((((w31.setCell ⟨gb147, 0, none⟩ (.int .i64 t141)).setCell ⟨gb147, 1, none⟩ (.int .i64 t142)).setCell ⟨gb147, 2, none⟩ (.int .i64 t143)).setCell ⟨gb147, 3, none⟩ (.int .i64 t144)).setCell ⟨gb147, 4, none⟩ (.int .i64 t145)) = w37 at n0_ n1_ n2_ n3_ ⊢
                                  have HO_9 := n0_
                                  have BK136 := n1_
                                  have BK147 := n2_
                                  have HB := n3_
                                  clear n0_ n1_ n2_ n3_
                                  have p148 : 0 ≤ (0 : Int) := (by omega)
                                  have q148 : 0 < (x9_2.length : Int) := of_decide_eq_true (by first | (with_reducible assumption) | assumption)
                                  obtain ⟨ad148, e148, hx148_0⟩ := Kd.at_int (Kd.Q_reads' HO_9.out).2.2 0 p148 q148
                                  obtain rfl : ad140 = ad148 := (by injection e148)
                                  have qi148 : (0 < x9_2.length) = True := eq_true (by omega)
                                  (try rw [show ((0 : Int)).toNat = 0 from rfl] at hx148_0)
                                  (try rw [Addr.add_zero'] at hx148_0)
                                  replace p148 := eq_true p148
                                  replace q148 := eq_true q148
                                  have q38 : (1 : Int) ≤ ((x9_2.length : Int) : Int) := of_decide_eq_true (by first | (with_reducible assumption) | assumption)
                                  obtain ⟨i038, hi038, _, hsz38, _⟩ := info_parts info3
                                  have hcut38 := cut_from (P := Try.prog) 37 3 .i64 Try.underlying37 hi038 1 hsz38 (some ad140) x9_2.length co27 1 (by omega) q38
                                  have hr38 := Kd.Q_drop (k := (1 : Int).toNat) HO_9.out (by omega)
                                  obtain ⟨A38, hA38⟩ : ∃ A1, A1 = (if co27 = (1 : Int).toNat then (some ad140) else ((some ad140) : Option Addr).map (·.add ((1 : Int).toNat * 1))) := ⟨_, rfl⟩
                                  obtain ⟨c38, hc38⟩ : ∃ c1, c1 = co27 - (1 : Int).toNat := ⟨_, rfl⟩
                                  have hy38 : y149.length = x9_2.length - (1 : Int).toNat := (by rw [Ny149.out, List.length_drop])
                                  rw [← Ny149.out] at hr38
                                  rw [← hy38, ← hA38, ← hc38] at hcut38
                                  replace hr38 : Kd.Q (Kd.int .i64) 3 w37 w.heap.size (fun _ => True) (.slice A38 y149.length c38) y149 := (by rw [hA38, hc38, hy38]; exact hr38)
                                  have HE38 : Aside0 ((Value.slice A38 y149.length c38).ownBlock = (.slice (some ad140) x9_2.length co27 : Value).ownBlock) := ⟨by rw [hA38]; split <;> (cases ((some ad140) : Option Addr) <;> rfl)⟩
                                  clear hy38 hi038 hsz38 HO_9 hA38 hc38
                                  have HO151 := Aside0.mk hr38
                                  clear hr38
                                  replace q38 := eq_true q38
                                  have hnb39 := NB147_136.out
                                  have hnc39 := NB136_147.out
                                  have hcz40_0 : w37.cell? ⟨gb147, 0, none⟩ = some (.int .i64 t141) := (blk_cell BK147.out 0).trans rfl
                                  have hcz40_1 : w37.cell? ⟨gb147, 1, none⟩ = some (.int .i64 t142) := (blk_cell BK147.out 1).trans rfl
                                  have hcz40_2 : w37.cell? ⟨gb147, 2, none⟩ = some (.int .i64 t143) := (blk_cell BK147.out 2).trans rfl
                                  have hcz40_3 : w37.cell? ⟨gb147, 3, none⟩ = some (.int .i64 t144) := (blk_cell BK147.out 3).trans rfl
                                  have hcz40_4 : w37.cell? ⟨gb147, 4, none⟩ = some (.int .i64 t145) := (blk_cell BK147.out 4).trans rfl
                                  have hfz40_0 := blk_frozen BK147.out 0
                                  have hfz40_1 := blk_frozen BK147.out 1
                                  have hfz40_2 := blk_frozen BK147.out 2
                                  have hfz40_3 := blk_frozen BK147.out 3
                                  have hfz40_4 := blk_frozen BK147.out 4
                                  have hcz41_0 : w37.cell? ⟨gb136, 0, none⟩ = some (.int .i64 x137000_2) := (blk_cell BK136.out 0).trans rfl
                                  have hcz41_1 : w37.cell? ⟨gb136, 1, none⟩ = some (.int .i64 x137001_2) := (blk_cell BK136.out 1).trans rfl
                                  have hcz41_2 : w37.cell? ⟨gb136, 2, none⟩ = some (.int .i64 x137002_2) := (blk_cell BK136.out 2).trans rfl
                                  have hcz41_3 : w37.cell? ⟨gb136, 3, none⟩ = some (.int .i64 x137003_2) := (blk_cell BK136.out 3).trans rfl
                                  have hcz41_4 : w37.cell? ⟨gb136, 4, none⟩ = some (.int .i64 x137004_2) := (blk_cell BK136.out 4).trans rfl
                                  have hfz41_0 := blk_frozen BK136.out 0
                                  have hfz41_1 := blk_frozen BK136.out 1
                                  have hfz41_2 := blk_frozen BK136.out 2
                                  have hfz41_3 := blk_frozen BK136.out 3
                                  have hfz41_4 := blk_frozen BK136.out 4
                                  try go_wp2
                                  go_roundg k2
                                  case measure => have := HJ4.out; have := HK2.out; omega
                                  case rel => exact ⟨(y149), (wrap64 (x10_2 - (rd x9_2 0))), (wrap64 (x11_2 + 1)), (t141), (t142), (t143), (t144), (t145), (by first | rfl | (simp; done) | (simp [*]; done)), (by first | rfl | (simp; done) | (simp [*]; done)), H', ⟨by have := HJ4.out; have := HK2.out; omega⟩, ⟨by (with_reducible repeat (first | apply Kd.Q_alloc | apply Kd.Q_drewN | apply Kd.Q_drew)); exact Kd.Q_mono (Kd.Q_far (p := ⟨gb136, 4, none⟩) (Kd.Q_far (p := ⟨gb136, 3, none⟩) (Kd.Q_far (p := ⟨gb136, 2, none⟩) (Kd.Q_far (p := ⟨gb136, 1, none⟩) (Kd.Q_far (p := ⟨gb136, 0, none⟩) (Kd.Q_types HO151.out BK136.out (by decide)) (fun _ hk => hk.2) (.int .i64 t141)) (fun _ hk => hk.2) (.int .i64 t142)) (fun _ hk => hk.2) (.int .i64 t143)) (fun _ hk => hk.2) (.int .i64 t144)) (fun _ hk => hk.2) (.int .i64 t145)) (fun _ hk => trivial)⟩, ⟨by (with_reducible repeat (first | refine blk_drewN ?_ _ | refine blk_drew ?_ | refine blk_alloc ?_ _)); refine blk_put (cs := #[.int .i64 t141, .int .i64 t142, .int .i64 t143, .int .i64 t144, .int .i64 x137004_2]) ?_ 4 _ rfl; (with_reducible repeat (first | refine blk_drewN ?_ _ | refine blk_drew ?_ | refine blk_alloc ?_ _)); refine blk_put (cs := #[.int .i64 t141, .int .i64 t142, .int .i64 t143, .int .i64 x137003_2, .int .i64 x137004_2]) ?_ 3 _ rfl; (with_reducible repeat (first | refine blk_drewN ?_ _ | refine blk_drew ?_ | refine blk_alloc ?_ _)); refine blk_put (cs := #[.int .i64 t141, .int .i64 t142, .int .i64 x137002_2, .int .i64 x137003_2, .int .i64 x137004_2]) ?_ 2 _ rfl; (with_reducible repeat (first | refine blk_drewN ?_ _ | refine blk_drew ?_ | refine blk_alloc ?_ _)); refine blk_put (cs := #[.int .i64 t141, .int .i64 x137001_2, .int .i64 x137002_2, .int .i64 x137003_2, .int .i64 x137004_2]) ?_ 1 _ rfl; (with_reducible repeat (first | refine blk_drewN ?_ _ | refine blk_drew ?_ | refine blk_alloc ?_ _)); refine blk_put (cs := #[.int .i64 x137000_2, .int .i64 x137001_2, .int .i64 x137002_2, .int .i64 x137003_2, .int .i64 x137004_2]) ?_ 0 _ rfl; (with_reducible repeat (first | refine blk_drewN ?_ _ | refine blk_drew ?_ | refine blk_alloc ?_ _)); exact BK136.out⟩, ⟨by repeat (first | (with_reducible first | exact HB.out | apply below_alloc | apply pw_below_drewN | apply below_drew1 | refine below_set ?_ GE136.out | refine below_set ?_ GE147.out) | exact HB.out)⟩⟩
                            · rw [if_neg c24] at H
                              have c24b0 : (t144 == (y149.length : Int)) = false := beq_eq_false_iff_ne.mpr c24
                              have c24b1 : (t144 != (y149.length : Int)) = true := bne_iff_ne.mpr c24
                              obtain rfl := Option.some.inj H
                              exact absurd hr_.out (by decide)
                          · rw [if_neg c23] at H
                            have c23b0 : (t143 == (wrap64 (x10_2 - (rd x9_2 0)))) = false := beq_eq_false_iff_ne.mpr c23
                            have c23b1 : (t143 != (wrap64 (x10_2 - (rd x9_2 0)))) = true := bne_iff_ne.mpr c23
                            obtain rfl := Option.some.inj H
                            exact absurd hr_.out (by decide)
                        · rw [if_neg c22] at H
                          exact absurd H (by simp)
                      · rw [if_neg c21] at H
                        have c21b0 : (t146 == 0) = false := beq_eq_false_iff_ne.mpr c21
                        have c21b1 : (t146 != 0) = true := bne_iff_ne.mpr c21
                        obtain rfl := Option.some.inj H
                        exact absurd hr_.out (by decide)
                    · rw [if_neg c19] at H
                      exact absurd H (by simp)
                · rw [if_neg c16] at H
                  have c16b0 : decide ((rd l2 x11_2) < 0) = false := decide_eq_false c16
                  clear c16
                  replace H := Option.bind_eq_some_iff.mp H
                  obtain ⟨⟨t153, t154, t155, t156, t157, t158⟩, A420, H⟩ := H
                  replace H : (if (wrap64 (x10_2 + (Go.bits .and .i64 (rd l2 x11_2) 1023))) ≤ a0 then (fairleadlaw16_QuotaKeeps.j2 k2 a0 a1 l2 x9_2 x10_2 x11_2 (Go.bits .and .i64 (rd l2 x11_2) 1023) t158 (decide ((x9_2.length : Int) < a1)) t153 t154 t155 t156 t157) else (fairleadlaw16_QuotaKeeps.j2 k2 a0 a1 l2 x9_2 x10_2 x11_2 (Go.bits .and .i64 (rd l2 x11_2) 1023) t158 false t153 t154 t155 t156 t157)) = some r := H
                  have A42 := Aside0.mk A420
                  clear A420
                  have HC43 := Aside0.mk H
                  clear H
                  have p139 : 0 ≤ (x11_2 : Int) := of_decide_eq_true (by first | (with_reducible assumption) | assumption)
                  have q139 : x11_2 < (l2.length : Int) := of_decide_eq_true (by first | (with_reducible assumption) | assumption)
                  obtain ⟨ad139, e139, hx139_0⟩ := Kd.at_int HR2.out x11_2 p139 q139
                  cases e139
                  replace hx139_0 := (HB.out.cell (World.block_lt_of_cell? w _ hx139_0)).trans hx139_0
                  replace p139 := eq_true p139
                  replace q139 := eq_true q139
                  have p152 : 0 ≤ (x11_2 : Int) := of_decide_eq_true (by first | (with_reducible assumption) | assumption)
                  have q152 : x11_2 < (l2.length : Int) := of_decide_eq_true (by first | (with_reducible assumption) | assumption)
                  obtain ⟨ad152, e152, hx152_0⟩ := Kd.at_int HR2.out x11_2 p152 q152
                  obtain rfl : ad139 = ad152 := (by injection e152)
                  replace hx152_0 := (HB.out.cell (World.block_lt_of_cell? w _ hx152_0)).trans hx152_0
                  replace p152 := eq_true p152
                  replace q152 := eq_true q152
                  have hcz44_0 : wr.cell? ⟨gb136, 0, none⟩ = some (.int .i64 x137000_2) := (blk_cell BK136.out 0).trans rfl
                  have hcz44_1 : wr.cell? ⟨gb136, 1, none⟩ = some (.int .i64 x137001_2) := (blk_cell BK136.out 1).trans rfl
                  have hcz44_2 : wr.cell? ⟨gb136, 2, none⟩ = some (.int .i64 x137002_2) := (blk_cell BK136.out 2).trans rfl
                  have hcz44_3 : wr.cell? ⟨gb136, 3, none⟩ = some (.int .i64 x137003_2) := (blk_cell BK136.out 3).trans rfl
                  have hcz44_4 : wr.cell? ⟨gb136, 4, none⟩ = some (.int .i64 x137004_2) := (blk_cell BK136.out 4).trans rfl
                  have hfz44_0 := blk_frozen BK136.out 0
                  have hfz44_1 := blk_frozen BK136.out 1
                  have hfz44_2 := blk_frozen BK136.out 2
                  have hfz44_3 := blk_frozen BK136.out 3
                  have hfz44_4 := blk_frozen BK136.out 4
                  go_upto_region 19 with (first | ((with_reducible refine gate_callee (f := 7) rfl ?_); refine goesL_ (some 77) rfl rfl Try.func7 (by kernel_rfl) rfl #[.agg #[.int .i64 x137000_2, .int .i64 x137001_2, .int .i64 x137002_2, .int .i64 x137003_2, .int .i64 x137004_2], .int .i64 (Go.bits .and .i64 (rd l2 x11_2) 1023)] rfl (by (try simp only [List.map_toArray, List.map_cons, List.map_nil]); first | done | rfl | (simp only [List.length_drop, List.length_take]; rfl)) ?_; (with_reducible refine (quota_Charge.calls k2 x137000_2 x137001_2 x137002_2 x137003_2 x137004_2 (Go.bits .and .i64 (rd l2 x11_2) 1023) t153 t154 t155 t156 t157 t158 _ A42.out).mono ?_); rintro e w45 ⟨rfl, hb⟩; refine ⟨_, rfl, ?_⟩; have n0_ := Aside0.mk (Kd.Q_below (by (with_reducible repeat (first | apply Kd.Q_alloc | apply Kd.Q_drewN | apply Kd.Q_drew)); exact HO_9.out) hb); have n1_ := Aside0.mk (blk_below (g := gb136) (o := .cells #[.int .i64 x137000_2, .int .i64 x137001_2, .int .i64 x137002_2, .int .i64 x137003_2, .int .i64 x137004_2] 23 (0, 0)) (by (with_reducible repeat (first | refine blk_drewN ?_ _ | refine blk_drew ?_ | refine blk_alloc ?_ _)); exact BK136.out) hb); have n2_ := Aside0.mk (below_step (by repeat (first | (with_reducible first | exact HB.out | apply below_alloc | apply pw_below_drewN | apply below_drew1 | refine below_set ?_ GE136.out) | exact HB.out)) hb); clear HO_9; clear BK136; clear HB; have HO_9 := n0_; have BK136 := n1_; have HB := n2_; clear n0_ n1_ n2_; (try clear hb); (try clear hb2); (try clear hk); (try clear hi)) | ((with_reducible refine gate_dst (N := 15) rfl ?_); (try (refine gate_guard (by rfl) ?_; dsimp only)); refine box_event ?hg (N := 15) ?hd (cs := #[.int .i64 0, .int .i64 0, .int .i64 0, .int .i64 0, .int .i64 0]) (t := 23) ?hr ?_; (case hd => rfl); (case hg => rfl); (case hr => first | (go_simp; done) | (go_simp; rfl)); intro gb159 hg w46 hbox hb; have n0_ := Aside0.mk (Kd.Q_below (by (with_reducible repeat (first | apply Kd.Q_alloc | apply Kd.Q_drewN | apply Kd.Q_drew)); exact HO_9.out) hb); have n1_ := Aside0.mk (blk_below (g := gb136) (o := .cells #[.int .i64 x137000_2, .int .i64 x137001_2, .int .i64 x137002_2, .int .i64 x137003_2, .int .i64 x137004_2] 23 (0, 0)) (by (with_reducible repeat (first | refine blk_drewN ?_ _ | refine blk_drew ?_ | refine blk_alloc ?_ _)); exact BK136.out) hb); have n2_ := Aside0.mk (below_step (by repeat (first | (with_reducible first | exact HB.out | apply below_alloc | apply pw_below_drewN | apply below_drew1 | refine below_set ?_ GE136.out) | exact HB.out)) hb); have n3_ := Aside0.mk (hbox); have n4_ := Aside0.mk ((by rw [hg]; exact (below_size (by repeat (first | (with_reducible first | exact HB.out | apply below_alloc | apply pw_below_drewN | apply below_drew1 | refine below_set ?_ GE136.out) | exact HB.out))) : w.heap.size ≤ gb159)); have n5_ := Aside0.mk ((by rw [hg]; exact (below_size (by repeat (first | (with_reducible first | exact HB.out | apply below_alloc | apply pw_below_drewN | apply below_drew1 | refine below_set ?_ GE136.out) | exact HB.out))) : w.heap.size ≤ gb159)); have n6_ := Aside0.mk ((by rw [hg]; exact Nat.ne_of_lt (blk_lt (g := gb136) (o := .cells #[.int .i64 x137000_2, .int .i64 x137001_2, .int .i64 x137002_2, .int .i64 x137003_2, .int .i64 x137004_2] 23 (0, 0)) (by (with_reducible repeat (first | refine blk_drewN ?_ _ | refine blk_drew ?_ | refine blk_alloc ?_ _)); exact BK136.out)) : gb136 ≠ gb159)); have n7_ := Aside0.mk ((by rw [hg]; exact Nat.ne_of_gt (blk_lt (g := gb136) (o := .cells #[.int .i64 x137000_2, .int .i64 x137001_2, .int .i64 x137002_2, .int .i64 x137003_2, .int .i64 x137004_2] 23 (0, 0)) (by (with_reducible repeat (first | refine blk_drewN ?_ _ | refine blk_drew ?_ | refine blk_alloc ?_ _)); exact BK136.out)) : gb159 ≠ gb136)); clear HO_9; clear BK136; clear HB; have HO_9 := n0_; have BK136 := n1_; have HB := n2_; have BK159 := n3_; have GW159 := n4_; have GE159 := n5_; have NB136_159 := n6_; have NB159_136 := n7_; clear n0_ n1_ n2_ n3_ n4_ n5_ n6_ n7_; clear hb hbox hg; have hnb47 := NB159_136.out; have hnc47 := NB136_159.out; have hcz48_0 : w46.cell? ⟨gb159, 0, none⟩ = some (.int .i64 0) := (blk_cell BK159.out 0).trans rfl; have hcz48_1 : w46.cell? ⟨gb159, 1, none⟩ = some (.int .i64 0) := (blk_cell BK159.out 1).trans rfl; have hcz48_2 : w46.cell? ⟨gb159, 2, none⟩ = some (.int .i64 0) := (blk_cell BK159.out 2).trans rfl; have hcz48_3 : w46.cell? ⟨gb159, 3, none⟩ = some (.int .i64 0) := (blk_cell BK159.out 3).trans rfl; have hcz48_4 : w46.cell? ⟨gb159, 4, none⟩ = some (.int .i64 0) := (blk_cell BK159.out 4).trans rfl; have hfz48_0 := blk_frozen BK159.out 0; have hfz48_1 := blk_frozen BK159.out 1; have hfz48_2 := blk_frozen BK159.out 2; have hfz48_3 := blk_frozen BK159.out 3; have hfz48_4 := blk_frozen BK159.out 4))
                  (try simp only [Act.put, List.setIfInBounds_toArray, List.set_cons_zero, List.set_cons_succ])
                  go_cut [17] (fun v17 wc => ∃ (kq : Nat) (x17_42 : Bool), v17 = .bool x17_42 ∧ Aside0 (fairleadlaw16_QuotaKeeps.j2 kq a0 a1 l2 x9_2 x10_2 x11_2 (Go.bits .and .i64 (rd l2 x11_2) 1023) t158 x17_42 t153 t154 t155 t156 t157 = some r) ∧ Aside0 (kq ≤ k2) ∧ Aside0 (Kd.Q (Kd.int .i64) 3 wc w.heap.size (fun _ => True) u9 x9_2) ∧ Aside0 (wc.heap[gb136]? = some (.cells #[.int .i64 x137000_2, .int .i64 x137001_2, .int .i64 x137002_2, .int .i64 x137003_2, .int .i64 x137004_2] 23 (0, 0))) ∧ Aside0 (wc.heap[gb159]? = some (.cells #[.int .i64 t153, .int .i64 t154, .int .i64 t155, .int .i64 t156, .int .i64 t157] 23 (0, 0))) ∧ Aside0 (Below w.heap.size w wc))
                  case first =>
                    have H := HC43.out
                    clear HC43
                    by_cases c49 : (wrap64 (x10_2 + (Go.bits .and .i64 (rd l2 x11_2) 1023))) ≤ a0
                    · rw [if_pos c49] at H
                      have c49b0 : decide ((wrap64 (x10_2 + (Go.bits .and .i64 (rd l2 x11_2) 1023))) ≤ a0) = true := decide_eq_true c49
                      clear c49
                      (first | rw [c49b0] | (simp only [i64_w, i32_w]; rw [c49b0]) | skip)
                      have H' := Aside0.mk H
                      clear H
                      obtain ⟨Ao50, co50, eo50, _⟩ := Kd.Q_slice HO_9.out
                      subst eo50
                      go_wp2
                      go_meet
                      case rel => exact ⟨_, (decide ((x9_2.length : Int) < a1)), (by first | rfl | (simp; done) | (simp [*]; done)), H', ⟨by have := HJ4.out; have := HK2.out; first | omega | exact Nat.le_refl _⟩, ⟨by (with_reducible repeat (first | apply Kd.Q_alloc | apply Kd.Q_drewN | apply Kd.Q_drew)); exact Kd.Q_mono (Kd.Q_far (p := ⟨gb159, 4, none⟩) (Kd.Q_far (p := ⟨gb159, 3, none⟩) (Kd.Q_far (p := ⟨gb159, 2, none⟩) (Kd.Q_far (p := ⟨gb159, 1, none⟩) (Kd.Q_far (p := ⟨gb159, 0, none⟩) (Kd.Q_types HO_9.out BK159.out (by decide)) (fun _ hk => hk.2) (.int .i64 t153)) (fun _ hk => hk.2) (.int .i64 t154)) (fun _ hk => hk.2) (.int .i64 t155)) (fun _ hk => hk.2) (.int .i64 t156)) (fun _ hk => hk.2) (.int .i64 t157)) (fun _ hk => trivial)⟩, ⟨by (with_reducible repeat (first | refine blk_drewN ?_ _ | refine blk_drew ?_ | refine blk_alloc ?_ _)); refine blk_far ?_ NB136_159.out _; (with_reducible repeat (first | refine blk_drewN ?_ _ | refine blk_drew ?_ | refine blk_alloc ?_ _)); refine blk_far ?_ NB136_159.out _; (with_reducible repeat (first | refine blk_drewN ?_ _ | refine blk_drew ?_ | refine blk_alloc ?_ _)); refine blk_far ?_ NB136_159.out _; (with_reducible repeat (first | refine blk_drewN ?_ _ | refine blk_drew ?_ | refine blk_alloc ?_ _)); refine blk_far ?_ NB136_159.out _; (with_reducible repeat (first | refine blk_drewN ?_ _ | refine blk_drew ?_ | refine blk_alloc ?_ _)); refine blk_far ?_ NB136_159.out _; (with_reducible repeat (first | refine blk_drewN ?_ _ | refine blk_drew ?_ | refine blk_alloc ?_ _)); exact BK136.out⟩, ⟨by (with_reducible repeat (first | refine blk_drewN ?_ _ | refine blk_drew ?_ | refine blk_alloc ?_ _)); refine blk_put (cs := #[.int .i64 t153, .int .i64 t154, .int .i64 t155, .int .i64 t156, .int .i64 0]) ?_ 4 _ rfl; (with_reducible repeat (first | refine blk_drewN ?_ _ | refine blk_drew ?_ | refine blk_alloc ?_ _)); refine blk_put (cs := #[.int .i64 t153, .int .i64 t154, .int .i64 t155, .int .i64 0, .int .i64 0]) ?_ 3 _ rfl; (with_reducible repeat (first | refine blk_drewN ?_ _ | refine blk_drew ?_ | refine blk_alloc ?_ _)); refine blk_put (cs := #[.int .i64 t153, .int .i64 t154, .int .i64 0, .int .i64 0, .int .i64 0]) ?_ 2 _ rfl; (with_reducible repeat (first | refine blk_drewN ?_ _ | refine blk_drew ?_ | refine blk_alloc ?_ _)); refine blk_put (cs := #[.int .i64 t153, .int .i64 0, .int .i64 0, .int .i64 0, .int .i64 0]) ?_ 1 _ rfl; (with_reducible repeat (first | refine blk_drewN ?_ _ | refine blk_drew ?_ | refine blk_alloc ?_ _)); refine blk_put (cs := #[.int .i64 0, .int .i64 0, .int .i64 0, .int .i64 0, .int .i64 0]) ?_ 0 _ rfl; (with_reducible repeat (first | refine blk_drewN ?_ _ | refine blk_drew ?_ | refine blk_alloc ?_ _)); exact BK159.out⟩, ⟨by repeat (first | (with_reducible first | exact HB.out | apply below_alloc | apply pw_below_drewN | apply below_drew1 | refine below_set ?_ GE136.out | refine below_set ?_ GE159.out) | exact HB.out)⟩⟩
                    · rw [if_neg c49] at H
                      have c49b0 : decide ((wrap64 (x10_2 + (Go.bits .and .i64 (rd l2 x11_2) 1023))) ≤ a0) = false := decide_eq_false c49
                      clear c49
                      (first | rw [c49b0] | (simp only [i64_w, i32_w]; rw [c49b0]) | skip)
                      have H' := Aside0.mk H
                      clear H
                      go_wp2
                      go_meet
                      case rel => exact ⟨_, (false), (by first | rfl | (simp; done) | (simp [*]; done)), H', ⟨by have := HJ4.out; have := HK2.out; first | omega | exact Nat.le_refl _⟩, ⟨by (with_reducible repeat (first | apply Kd.Q_alloc | apply Kd.Q_drewN | apply Kd.Q_drew)); exact Kd.Q_mono (Kd.Q_far (p := ⟨gb159, 4, none⟩) (Kd.Q_far (p := ⟨gb159, 3, none⟩) (Kd.Q_far (p := ⟨gb159, 2, none⟩) (Kd.Q_far (p := ⟨gb159, 1, none⟩) (Kd.Q_far (p := ⟨gb159, 0, none⟩) (Kd.Q_types HO_9.out BK159.out (by decide)) (fun _ hk => hk.2) (.int .i64 t153)) (fun _ hk => hk.2) (.int .i64 t154)) (fun _ hk => hk.2) (.int .i64 t155)) (fun _ hk => hk.2) (.int .i64 t156)) (fun _ hk => hk.2) (.int .i64 t157)) (fun _ hk => trivial)⟩, ⟨by (with_reducible repeat (first | refine blk_drewN ?_ _ | refine blk_drew ?_ | refine blk_alloc ?_ _)); refine blk_far ?_ NB136_159.out _; (with_reducible repeat (first | refine blk_drewN ?_ _ | refine blk_drew ?_ | refine blk_alloc ?_ _)); refine blk_far ?_ NB136_159.out _; (with_reducible repeat (first | refine blk_drewN ?_ _ | refine blk_drew ?_ | refine blk_alloc ?_ _)); refine blk_far ?_ NB136_159.out _; (with_reducible repeat (first | refine blk_drewN ?_ _ | refine blk_drew ?_ | refine blk_alloc ?_ _)); refine blk_far ?_ NB136_159.out _; (with_reducible repeat (first | refine blk_drewN ?_ _ | refine blk_drew ?_ | refine blk_alloc ?_ _)); refine blk_far ?_ NB136_159.out _; (with_reducible repeat (first | refine blk_drewN ?_ _ | refine blk_drew ?_ | refine blk_alloc ?_ _)); exact BK136.out⟩, ⟨by (with_reducible repeat (first | refine blk_drewN ?_ _ | refine blk_drew ?_ | refine blk_alloc ?_ _)); refine blk_put (cs := #[.int .i64 t153, .int .i64 t154, .int .i64 t155, .int .i64 t156, .int .i64 0]) ?_ 4 _ rfl; (with_reducible repeat (first | refine blk_drewN ?_ _ | refine blk_drew ?_ | refine blk_alloc ?_ _)); refine blk_put (cs := #[.int .i64 t153, .int .i64 t154, .int .i64 t155, .int .i64 0, .int .i64 0]) ?_ 3 _ rfl; (with_reducible repeat (first | refine blk_drewN ?_ _ | refine blk_drew ?_ | refine blk_alloc ?_ _)); refine blk_put (cs := #[.int .i64 t153, .int .i64 t154, .int .i64 0, .int .i64 0, .int .i64 0]) ?_ 2 _ rfl; (with_reducible repeat (first | refine blk_drewN ?_ _ | refine blk_drew ?_ | refine blk_alloc ?_ _)); refine blk_put (cs := #[.int .i64 t153, .int .i64 0, .int .i64 0, .int .i64 0, .int .i64 0]) ?_ 1 _ rfl; (with_reducible repeat (first | refine blk_drewN ?_ _ | refine blk_drew ?_ | refine blk_alloc ?_ _)); refine blk_put (cs := #[.int .i64 0, .int .i64 0, .int .i64 0, .int .i64 0, .int .i64 0]) ?_ 0 _ rfl; (with_reducible repeat (first | refine blk_drewN ?_ _ | refine blk_drew ?_ | refine blk_alloc ?_ _)); exact BK159.out⟩, ⟨by repeat (first | (with_reducible first | exact HB.out | apply below_alloc | apply pw_below_drewN | apply below_drew1 | refine below_set ?_ GE136.out | refine below_set ?_ GE159.out) | exact HB.out)⟩⟩
                  case rest =>
                    clear HC43
                    try clear c1
                    try clear p1
                    try clear q1
                    try clear hx1
                    try clear qi1
                    try clear c2
                    try clear p2
                    try clear c3
                    try clear q3
                    try clear c4
                    try clear c5
                    try clear p6
                    try clear c7
                    try clear c9
                    try clear c9b0
                    try clear c9b1
                    try clear c10
                    try clear c10b0
                    try clear c10b1
                    try clear c11
                    try clear p13
                    try clear q13
                    try clear hx13
                    try clear c14
                    try clear c14b0
                    try clear p14
                    try clear q14
                    try clear hx14
                    try clear qi14
                    try clear c15
                    try clear c15b0
                    try clear p15
                    try clear q15
                    try clear hx15
                    try clear c16
                    try clear c16b0
                    try clear c17
                    try clear c17b0
                    try clear c17b1
                    try clear c17b2
                    try clear c19
                    try clear c19b0
                    try clear c19b1
                    try clear c21
                    try clear c21b0
                    try clear c21b1
                    try clear c22
                    try clear c22b0
                    try clear c22b1
                    try clear c23
                    try clear c23b0
                    try clear c23b1
                    try clear c24
                    try clear c24b0
                    try clear c24b1
                    try clear c25
                    try clear c25b0
                    try clear c26
                    try clear c26b0
                    try clear c38
                    try clear q38
                    try clear c39
                    try clear c47
                    try clear c49
                    try clear c49b0
                    try clear hcz40_0
                    try clear hcz40_1
                    try clear hcz40_2
                    try clear hcz40_3
                    try clear hcz40_4
                    try clear hcz41_0
                    try clear hcz41_1
                    try clear hcz41_2
                    try clear hcz41_3
                    try clear hcz41_4
                    try clear hcz44_0
                    try clear hcz44_1
                    try clear hcz44_2
                    try clear hcz44_3
                    try clear hcz44_4
                    try clear hcz48_0
                    try clear hcz48_1
                    try clear hcz48_2
                    try clear hcz48_3
                    try clear hcz48_4
                    try clear hcz8_0
                    try clear hcz8_1
                    try clear hcz8_2
                    try clear hcz8_3
                    try clear hcz8_4
                    try clear hfz40_0
                    try clear hfz40_1
                    try clear hfz40_2
                    try clear hfz40_3
                    try clear hfz40_4
                    try clear hfz41_0
                    try clear hfz41_1
                    try clear hfz41_2
                    try clear hfz41_3
                    try clear hfz41_4
                    try clear hfz44_0
                    try clear hfz44_1
                    try clear hfz44_2
                    try clear hfz44_3
                    try clear hfz44_4
                    try clear hfz48_0
                    try clear hfz48_1
                    try clear hfz48_2
                    try clear hfz48_3
                    try clear hfz48_4
                    try clear hfz8_0
                    try clear hfz8_1
                    try clear hfz8_2
                    try clear hfz8_3
                    try clear hfz8_4
                    try clear hx139_0
                    try clear hx140_0
                    try clear hx148_0
                    try clear hx152_0
                    try clear p139
                    try clear p140
                    try clear p148
                    try clear p152
                    try clear p2
                    try clear q139
                    try clear q140
                    try clear q148
                    try clear q152
                    try clear q38
                    obtain ⟨kq, x17_42, rfl, HA, HJ42, HO_9, BK136, BK159, HB⟩ := hcut
                    cases kq with
                    | zero => exact absurd HA.out (by simp [fairleadlaw16_QuotaKeeps.j2])
                    | succ kj42 =>
                      have H := HA.out
                      clear HA
                      simp only [fairleadlaw16_QuotaKeeps.j2] at H
                      by_cases c51 : ((t158 == 0) != x17_42) = true
                      · rw [if_pos c51] at H
                        have c51b0 : ((t158 == 0) != x17_42) = true := c51
                        (try (have c51b1 : decide ((t158 == 0) = x17_42) = false := by simpa using c51))
                        (try (have c51b2 : ((t158 == 0) == x17_42) = false := by simpa using c51))
                        (try (have c51b3 : ¬ ((t158 == 0) = x17_42) := by simpa using c51))
                        clear c51
                        obtain rfl := Option.some.inj H
                        exact absurd hr_.out (by decide)
                      · rw [if_neg c51] at H
                        have c51b0 : ((t158 == 0) != x17_42) = false := by simpa using c51
                        (try (have c51b1 : decide ((t158 == 0) = x17_42) = true := by simpa using c51))
                        (try (have c51b2 : ((t158 == 0) == x17_42) = true := by simpa using c51))
                        clear c51
                        by_cases c52 : x17_42 = true
                        · subst c52
                          have H1 : (if x9_2.length < 17592186044416 then ((some (x9_2 ++ [(Go.bits .and .i64 (rd l2 x11_2) 1023)] : List Int)).bind fun y160 => (if t155 = (wrap64 (x10_2 + (Go.bits .and .i64 (rd l2 x11_2) 1023))) then (if t156 = (y160.length : Int) then (if (wrap64 (x10_2 + (Go.bits .and .i64 (rd l2 x11_2) 1023))) > a0 then (some false) else (if (y160.length : Int) > a1 then (some false) else (fairleadlaw16_QuotaKeeps.l0 kj42 a0 a1 l2 y160 (wrap64 (x10_2 + (Go.bits .and .i64 (rd l2 x11_2) 1023))) (wrap64 (x11_2 + 1)) t153 t154 t155 t156 t157))) else (some false)) else (some false))) else (none)) = some r := by rw [if_pos rfl] at H; exact H
                          clear H
                          have H := H1
                          clear H1
                          by_cases c53 : x9_2.length < 17592186044416
                          · rw [if_pos c53] at H
                            have LMc53 := Aside0.mk c53
                            clear c53
                            obtain ⟨y160, hy160⟩ : ∃ y_ : List Int, y_ = (x9_2 ++ [(Go.bits .and .i64 (rd l2 x11_2) 1023)]) := ⟨_, rfl⟩
                            replace H : (if t155 = (wrap64 (x10_2 + (Go.bits .and .i64 (rd l2 x11_2) 1023))) then (if t156 = (y160.length : Int) then (if (wrap64 (x10_2 + (Go.bits .and .i64 (rd l2 x11_2) 1023))) > a0 then (some false) else (if (y160.length : Int) > a1 then (some false) else (fairleadlaw16_QuotaKeeps.l0 kj42 a0 a1 l2 y160 (wrap64 (x10_2 + (Go.bits .and .i64 (rd l2 x11_2) 1023))) (wrap64 (x11_2 + 1)) t153 t154 t155 t156 t157))) else (some false)) else (some false)) = some r := by first | (rw [hy160]; with_reducible exact H) | (have H2_ := (Option.bind_some _ _).symm.trans H; rw [hy160]; with_reducible exact H2_) | (have H2_ := (Option.bind_some _ _).symm.trans H; with_reducible exact H2_) | with_reducible exact H | (rw [hy160]; exact H) | exact H
                            have Ny160 := Aside0.mk hy160
                            clear hy160
                            by_cases c54 : t155 = (wrap64 (x10_2 + (Go.bits .and .i64 (rd l2 x11_2) 1023)))
                            · rw [if_pos c54] at H
                              have c54b0 : (t155 == (wrap64 (x10_2 + (Go.bits .and .i64 (rd l2 x11_2) 1023)))) = true := beq_iff_eq.mpr c54
                              have c54b1 : (t155 != (wrap64 (x10_2 + (Go.bits .and .i64 (rd l2 x11_2) 1023)))) = false := bne_eq_false_iff_eq.mpr c54
                              clear c54
                              by_cases c55 : t156 = (y160.length : Int)
                              · rw [if_pos c55] at H
                                have c55b0 : (t156 == (y160.length : Int)) = true := beq_iff_eq.mpr c55
                                have c55b1 : (t156 != (y160.length : Int)) = false := bne_eq_false_iff_eq.mpr c55
                                clear c55
                                by_cases c56 : (wrap64 (x10_2 + (Go.bits .and .i64 (rd l2 x11_2) 1023))) > a0
                                · rw [if_pos c56] at H
                                  have c56b0 : decide (a0 < (wrap64 (x10_2 + (Go.bits .and .i64 (rd l2 x11_2) 1023)))) = true := decide_eq_true c56
                                  clear c56
                                  obtain rfl := Option.some.inj H
                                  exact absurd hr_.out (by decide)
                                · rw [if_neg c56] at H
                                  have c56b0 : decide (a0 < (wrap64 (x10_2 + (Go.bits .and .i64 (rd l2 x11_2) 1023)))) = false := decide_eq_false c56
                                  clear c56
                                  by_cases c57 : (y160.length : Int) > a1
                                  · rw [if_pos c57] at H
                                    have c57b0 : decide (a1 < (y160.length : Int)) = true := decide_eq_true c57
                                    clear c57
                                    obtain rfl := Option.some.inj H
                                    exact absurd hr_.out (by decide)
                                  · rw [if_neg c57] at H
                                    have c57b0 : decide (a1 < (y160.length : Int)) = false := decide_eq_false c57
                                    clear c57
                                    have H' := Aside0.mk H
                                    clear H
                                    go_wp2_with (first | ((with_reducible refine gate_builtin (b := .append) (xs := #[.tmp 96, .tmp 98]) rfl ?_); (try (refine gate_guard (by rfl) ?_; dsimp only)); at_builtin; refine Kd.Q_append (Kd.int .i64) (w0 := w) w.heap.size rfl (.tmp 96) (.tmp 98) 37 3 (.int .i64 0) 8 rfl Try.underlying37 info3 rfl (by decide) (by omega) u9 x9_2 (Go.bits .and .i64 (rd l2 x11_2) 1023) [.int .i64 (Go.bits .and .i64 (rd l2 x11_2) 1023)] (fun _ => True) (fun _ => False) rfl rfl ?aP (fun _ hk => hk.elim) ?aF ?aO ?aB ?aS ?aL ?_; (case aP => exact rfl); (case aB => exact (by repeat (first | (with_reducible first | exact HB.out | apply below_alloc | apply pw_below_drewN | apply below_drew1 | refine below_set ?_ GE136.out | refine below_set ?_ GE159.out) | exact HB.out))); (case aF => exact (fun _ _ => trivial)); (case aO => exact (by (with_reducible repeat (first | apply Kd.Q_alloc | apply Kd.Q_drewN | apply Kd.Q_drew)); exact HO_9.out)); (case aS => exact (below_size (by repeat (first | (with_reducible first | exact HB.out | apply below_alloc | apply pw_below_drewN | apply below_drew1 | refine below_set ?_ GE136.out | refine below_set ?_ GE159.out) | exact HB.out)))); (case aL => have := LMc53.out; omega); intro v161 w58 ho hb hg hat; rw [← Ny160.out] at ho; have n0_ := Aside0.mk (blk_grown (g := gb136) (o := .cells #[.int .i64 x137000_2, .int .i64 x137001_2, .int .i64 x137002_2, .int .i64 x137003_2, .int .i64 x137004_2] 23 (0, 0)) (by (with_reducible repeat (first | refine blk_drewN ?_ _ | refine blk_drew ?_ | refine blk_alloc ?_ _)); exact BK136.out) hg (Kd.Q_ne HO_9.out BK136.out (by decide))); have n1_ := Aside0.mk (blk_grown (g := gb159) (o := .cells #[.int .i64 t153, .int .i64 t154, .int .i64 t155, .int .i64 t156, .int .i64 t157] 23 (0, 0)) (by (with_reducible repeat (first | refine blk_drewN ?_ _ | refine blk_drew ?_ | refine blk_alloc ?_ _)); exact BK159.out) hg (Kd.Q_ne HO_9.out BK159.out (by decide))); have n2_ := Aside0.mk (hb); have n3_ := Aside0.mk (ho); clear BK136; clear BK159; clear HB; clear HO_9; have BK136 := n0_; have BK159 := n1_; have HB := n2_; have HO162 := n3_; clear n0_ n1_ n2_ n3_; clear ho hb hg hat; have hnb59 := NB159_136.out; have hnc59 := NB136_159.out; have hcz60_0 : w58.cell? ⟨gb159, 0, none⟩ = some (.int .i64 t153) := (blk_cell BK159.out 0).trans rfl; have hcz60_1 : w58.cell? ⟨gb159, 1, none⟩ = some (.int .i64 t154) := (blk_cell BK159.out 1).trans rfl; have hcz60_2 : w58.cell? ⟨gb159, 2, none⟩ = some (.int .i64 t155) := (blk_cell BK159.out 2).trans rfl; have hcz60_3 : w58.cell? ⟨gb159, 3, none⟩ = some (.int .i64 t156) := (blk_cell BK159.out 3).trans rfl; have hcz60_4 : w58.cell? ⟨gb159, 4, none⟩ = some (.int .i64 t157) := (blk_cell BK159.out 4).trans rfl; have hfz60_0 := blk_frozen BK159.out 0; have hfz60_1 := blk_frozen BK159.out 1; have hfz60_2 := blk_frozen BK159.out 2; have hfz60_3 := blk_frozen BK159.out 3; have hfz60_4 := blk_frozen BK159.out 4; have hcz61_0 : w58.cell? ⟨gb136, 0, none⟩ = some (.int .i64 x137000_2) := (blk_cell BK136.out 0).trans rfl; have hcz61_1 : w58.cell? ⟨gb136, 1, none⟩ = some (.int .i64 x137001_2) := (blk_cell BK136.out 1).trans rfl; have hcz61_2 : w58.cell? ⟨gb136, 2, none⟩ = some (.int .i64 x137002_2) := (blk_cell BK136.out 2).trans rfl; have hcz61_3 : w58.cell? ⟨gb136, 3, none⟩ = some (.int .i64 x137003_2) := (blk_cell BK136.out 3).trans rfl; have hcz61_4 : w58.cell? ⟨gb136, 4, none⟩ = some (.int .i64 x137004_2) := (blk_cell BK136.out 4).trans rfl; have hfz61_0 := blk_frozen BK136.out 0; have hfz61_1 := blk_frozen BK136.out 1; have hfz61_2 := blk_frozen BK136.out 2; have hfz61_3 := blk_frozen BK136.out 3; have hfz61_4 := blk_frozen BK136.out 4; obtain ⟨Ao62, co62, eo62, _⟩ := Kd.Q_slice HO162.out; subst eo62))
                                    go_roundg kj42
                                    case measure => have := HJ4.out; have := HK2.out; have := HJ42.out; omega
                                    case rel => exact ⟨(y160), (wrap64 (x10_2 + (Go.bits .and .i64 (rd l2 x11_2) 1023))), (wrap64 (x11_2 + 1)), (t153), (t154), (t155), (t156), (t157), (by first | rfl | (simp; done) | (simp [*]; done)), (by first | rfl | (simp; done) | (simp [*]; done)), H', ⟨by have := HJ4.out; have := HK2.out; have := HJ42.out; omega⟩, ⟨by (with_reducible repeat (first | apply Kd.Q_alloc | apply Kd.Q_drewN | apply Kd.Q_drew)); exact Kd.Q_mono (Kd.Q_far (p := ⟨gb136, 4, none⟩) (Kd.Q_far (p := ⟨gb136, 3, none⟩) (Kd.Q_far (p := ⟨gb136, 2, none⟩) (Kd.Q_far (p := ⟨gb136, 1, none⟩) (Kd.Q_far (p := ⟨gb136, 0, none⟩) (Kd.Q_types HO162.out BK136.out (by decide)) (fun _ hk => hk.2) (.int .i64 t153)) (fun _ hk => hk.2) (.int .i64 t154)) (fun _ hk => hk.2) (.int .i64 t155)) (fun _ hk => hk.2) (.int .i64 t156)) (fun _ hk => hk.2) (.int .i64 t157)) (fun _ hk => trivial)⟩, ⟨by (with_reducible repeat (first | refine blk_drewN ?_ _ | refine blk_drew ?_ | refine blk_alloc ?_ _)); refine blk_put (cs := #[.int .i64 t153, .int .i64 t154, .int .i64 t155, .int .i64 t156, .int .i64 x137004_2]) ?_ 4 _ rfl; (with_reducible repeat (first | refine blk_drewN ?_ _ | refine blk_drew ?_ | refine blk_alloc ?_ _)); refine blk_put (cs := #[.int .i64 t153, .int .i64 t154, .int .i64 t155, .int .i64 x137003_2, .int .i64 x137004_2]) ?_ 3 _ rfl; (with_reducible repeat (first | refine blk_drewN ?_ _ | refine blk_drew ?_ | refine blk_alloc ?_ _)); refine blk_put (cs := #[.int .i64 t153, .int .i64 t154, .int .i64 x137002_2, .int .i64 x137003_2, .int .i64 x137004_2]) ?_ 2 _ rfl; (with_reducible repeat (first | refine blk_drewN ?_ _ | refine blk_drew ?_ | refine blk_alloc ?_ _)); refine blk_put (cs := #[.int .i64 t153, .int .i64 x137001_2, .int .i64 x137002_2, .int .i64 x137003_2, .int .i64 x137004_2]) ?_ 1 _ rfl; (with_reducible repeat (first | refine blk_drewN ?_ _ | refine blk_drew ?_ | refine blk_alloc ?_ _)); refine blk_put (cs := #[.int .i64 x137000_2, .int .i64 x137001_2, .int .i64 x137002_2, .int .i64 x137003_2, .int .i64 x137004_2]) ?_ 0 _ rfl; (with_reducible repeat (first | refine blk_drewN ?_ _ | refine blk_drew ?_ | refine blk_alloc ?_ _)); exact BK136.out⟩, ⟨by repeat (first | (with_reducible first | exact HB.out | apply below_alloc | apply pw_below_drewN | apply below_drew1 | refine below_set ?_ GE136.out | refine below_set ?_ GE159.out) | exact HB.out)⟩⟩
                              · rw [if_neg c55] at H
                                have c55b0 : (t156 == (y160.length : Int)) = false := beq_eq_false_iff_ne.mpr c55
                                have c55b1 : (t156 != (y160.length : Int)) = true := bne_iff_ne.mpr c55
                                obtain rfl := Option.some.inj H
                                exact absurd hr_.out (by decide)
                            · rw [if_neg c54] at H
                              have c54b0 : (t155 == (wrap64 (x10_2 + (Go.bits .and .i64 (rd l2 x11_2) 1023)))) = false := beq_eq_false_iff_ne.mpr c54
                              have c54b1 : (t155 != (wrap64 (x10_2 + (Go.bits .and .i64 (rd l2 x11_2) 1023)))) = true := bne_iff_ne.mpr c54
                              obtain rfl := Option.some.inj H
                              exact absurd hr_.out (by decide)
                          · rw [if_neg c53] at H
                            exact absurd H (by simp)
                        · replace c52 := Bool.eq_false_iff.mpr c52
                          subst c52
                          have H1 : (if t155 = x10_2 then (if t156 = (x9_2.length : Int) then (if x10_2 > a0 then (some false) else (if (x9_2.length : Int) > a1 then (some false) else (fairleadlaw16_QuotaKeeps.l0 kj42 a0 a1 l2 x9_2 x10_2 (wrap64 (x11_2 + 1)) t153 t154 t155 t156 t157))) else (some false)) else (some false)) = some r := by rw [if_neg (show ¬ (false = true) by decide)] at H; exact H
                          clear H
                          have H := H1
                          clear H1
                          by_cases c63 : t155 = x10_2
                          · rw [if_pos c63] at H
                            have c63b0 : (t155 == x10_2) = true := beq_iff_eq.mpr c63
                            have c63b1 : (t155 != x10_2) = false := bne_eq_false_iff_eq.mpr c63
                            clear c63
                            by_cases c64 : t156 = (x9_2.length : Int)
                            · rw [if_pos c64] at H
                              have c64b0 : (t156 == (x9_2.length : Int)) = true := beq_iff_eq.mpr c64
                              have c64b1 : (t156 != (x9_2.length : Int)) = false := bne_eq_false_iff_eq.mpr c64
                              clear c64
                              by_cases c65 : x10_2 > a0
                              · rw [if_pos c65] at H
                                have c65b0 : decide (a0 < x10_2) = true := decide_eq_true c65
                                clear c65
                                obtain rfl := Option.some.inj H
                                exact absurd hr_.out (by decide)
                              · rw [if_neg c65] at H
                                have c65b0 : decide (a0 < x10_2) = false := decide_eq_false c65
                                clear c65
                                by_cases c66 : (x9_2.length : Int) > a1
                                · rw [if_pos c66] at H
                                  have c66b0 : decide (a1 < (x9_2.length : Int)) = true := decide_eq_true c66
                                  clear c66
                                  obtain rfl := Option.some.inj H
                                  exact absurd hr_.out (by decide)
                                · rw [if_neg c66] at H
                                  have c66b0 : decide (a1 < (x9_2.length : Int)) = false := decide_eq_false c66
                                  clear c66
                                  have H' := Aside0.mk H
                                  clear H
                                  have hnb67 := NB159_136.out
                                  have hnc67 := NB136_159.out
                                  have hcz68_0 : wc.cell? ⟨gb159, 0, none⟩ = some (.int .i64 t153) := (blk_cell BK159.out 0).trans rfl
                                  have hcz68_1 : wc.cell? ⟨gb159, 1, none⟩ = some (.int .i64 t154) := (blk_cell BK159.out 1).trans rfl
                                  have hcz68_2 : wc.cell? ⟨gb159, 2, none⟩ = some (.int .i64 t155) := (blk_cell BK159.out 2).trans rfl
                                  have hcz68_3 : wc.cell? ⟨gb159, 3, none⟩ = some (.int .i64 t156) := (blk_cell BK159.out 3).trans rfl
                                  have hcz68_4 : wc.cell? ⟨gb159, 4, none⟩ = some (.int .i64 t157) := (blk_cell BK159.out 4).trans rfl
                                  have hfz68_0 := blk_frozen BK159.out 0
                                  have hfz68_1 := blk_frozen BK159.out 1
                                  have hfz68_2 := blk_frozen BK159.out 2
                                  have hfz68_3 := blk_frozen BK159.out 3
                                  have hfz68_4 := blk_frozen BK159.out 4
                                  have hcz69_0 : wc.cell? ⟨gb136, 0, none⟩ = some (.int .i64 x137000_2) := (blk_cell BK136.out 0).trans rfl
                                  have hcz69_1 : wc.cell? ⟨gb136, 1, none⟩ = some (.int .i64 x137001_2) := (blk_cell BK136.out 1).trans rfl
                                  have hcz69_2 : wc.cell? ⟨gb136, 2, none⟩ = some (.int .i64 x137002_2) := (blk_cell BK136.out 2).trans rfl
                                  have hcz69_3 : wc.cell? ⟨gb136, 3, none⟩ = some (.int .i64 x137003_2) := (blk_cell BK136.out 3).trans rfl
                                  have hcz69_4 : wc.cell? ⟨gb136, 4, none⟩ = some (.int .i64 x137004_2) := (blk_cell BK136.out 4).trans rfl
                                  have hfz69_0 := blk_frozen BK136.out 0
                                  have hfz69_1 := blk_frozen BK136.out 1
                                  have hfz69_2 := blk_frozen BK136.out 2
                                  have hfz69_3 := blk_frozen BK136.out 3
                                  have hfz69_4 := blk_frozen BK136.out 4
                                  obtain ⟨Ao70, co70, eo70, _⟩ := Kd.Q_slice HO_9.out
                                  subst eo70
                                  go_wp2
                                  go_roundg kj42
                                  case measure => have := HJ4.out; have := HK2.out; have := HJ42.out; omega
                                  case rel => exact ⟨(x9_2), (x10_2), (wrap64 (x11_2 + 1)), (t153), (t154), (t155), (t156), (t157), (by first | rfl | (simp; done) | (simp [*]; done)), (by first | rfl | (simp; done) | (simp [*]; done)), H', ⟨by have := HJ4.out; have := HK2.out; have := HJ42.out; omega⟩, ⟨by (with_reducible repeat (first | apply Kd.Q_alloc | apply Kd.Q_drewN | apply Kd.Q_drew)); exact Kd.Q_mono (Kd.Q_far (p := ⟨gb136, 4, none⟩) (Kd.Q_far (p := ⟨gb136, 3, none⟩) (Kd.Q_far (p := ⟨gb136, 2, none⟩) (Kd.Q_far (p := ⟨gb136, 1, none⟩) (Kd.Q_far (p := ⟨gb136, 0, none⟩) (Kd.Q_types HO_9.out BK136.out (by decide)) (fun _ hk => hk.2) (.int .i64 t153)) (fun _ hk => hk.2) (.int .i64 t154)) (fun _ hk => hk.2) (.int .i64 t155)) (fun _ hk => hk.2) (.int .i64 t156)) (fun _ hk => hk.2) (.int .i64 t157)) (fun _ hk => trivial)⟩, ⟨by (with_reducible repeat (first | refine blk_drewN ?_ _ | refine blk_drew ?_ | refine blk_alloc ?_ _)); refine blk_put (cs := #[.int .i64 t153, .int .i64 t154, .int .i64 t155, .int .i64 t156, .int .i64 x137004_2]) ?_ 4 _ rfl; (with_reducible repeat (first | refine blk_drewN ?_ _ | refine blk_drew ?_ | refine blk_alloc ?_ _)); refine blk_put (cs := #[.int .i64 t153, .int .i64 t154, .int .i64 t155, .int .i64 x137003_2, .int .i64 x137004_2]) ?_ 3 _ rfl; (with_reducible repeat (first | refine blk_drewN ?_ _ | refine blk_drew ?_ | refine blk_alloc ?_ _)); refine blk_put (cs := #[.int .i64 t153, .int .i64 t154, .int .i64 x137002_2, .int .i64 x137003_2, .int .i64 x137004_2]) ?_ 2 _ rfl; (with_reducible repeat (first | refine blk_drewN ?_ _ | refine blk_drew ?_ | refine blk_alloc ?_ _)); refine blk_put (cs := #[.int .i64 t153, .int .i64 x137001_2, .int .i64 x137002_2, .int .i64 x137003_2, .int .i64 x137004_2]) ?_ 1 _ rfl; (with_reducible repeat (first | refine blk_drewN ?_ _ | refine blk_drew ?_ | refine blk_alloc ?_ _)); refine blk_put (cs := #[.int .i64 x137000_2, .int .i64 x137001_2, .int .i64 x137002_2, .int .i64 x137003_2, .int .i64 x137004_2]) ?_ 0 _ rfl; (with_reducible repeat (first | refine blk_drewN ?_ _ | refine blk_drew ?_ | refine blk_alloc ?_ _)); exact BK136.out⟩, ⟨by repeat (first | (with_reducible first | exact HB.out | apply below_alloc | apply pw_below_drewN | apply below_drew1 | refine below_set ?_ GE136.out | refine below_set ?_ GE159.out) | exact HB.out)⟩⟩
                            · rw [if_neg c64] at H
                              have c64b0 : (t156 == (x9_2.length : Int)) = false := beq_eq_false_iff_ne.mpr c64
                              have c64b1 : (t156 != (x9_2.length : Int)) = true := bne_iff_ne.mpr c64
                              obtain rfl := Option.some.inj H
                              exact absurd hr_.out (by decide)
                          · rw [if_neg c63] at H
                            have c63b0 : (t155 == x10_2) = false := beq_eq_false_iff_ne.mpr c63
                            have c63b1 : (t155 != x10_2) = true := bne_iff_ne.mpr c63
                            obtain rfl := Option.some.inj H
                            exact absurd hr_.out (by decide)
              · rw [if_neg c15] at H
                exact absurd H (by simp)
            · rw [if_neg c14] at H
              have c14b0 : decide (x11_2 < (l2.length : Int)) = false := decide_eq_false c14
              clear c14
              replace H := Option.bind_eq_some_iff.mp H
              obtain ⟨t138, A710, H⟩ := H
              replace H : (some t138) = some r := H
              have A71 := Aside0.mk A710
              clear A710
              obtain rfl := Option.some.inj H
              go_wp2_with (first | ((with_reducible refine gate_callee (f := 17) rfl ?_); refine goesL_ (some 126) rfl rfl Try.func17 (by kernel_rfl) rfl #[] rfl (by (try simp only [List.map_toArray, List.map_cons, List.map_nil]); first | done | rfl | (simp only [List.length_drop, List.length_take]; rfl)) ?_; (with_reducible refine (fairleadlaw16_heads.calls  t138 _ A71.out).mono ?_); rintro e w72 ⟨rfl, hb⟩; refine ⟨_, rfl, ?_⟩; have n0_ := Aside0.mk (Kd.Q_below (by (with_reducible repeat (first | apply Kd.Q_alloc | apply Kd.Q_drewN | apply Kd.Q_drew)); exact HO_9.out) hb); have n1_ := Aside0.mk (blk_below (g := gb136) (o := .cells #[.int .i64 x137000_2, .int .i64 x137001_2, .int .i64 x137002_2, .int .i64 x137003_2, .int .i64 x137004_2] 23 (0, 0)) (by (with_reducible repeat (first | refine blk_drewN ?_ _ | refine blk_drew ?_ | refine blk_alloc ?_ _)); exact BK136.out) hb); have n2_ := Aside0.mk (below_step (by repeat (first | (with_reducible first | exact HB.out | apply below_alloc | apply pw_below_drewN | apply below_drew1 | refine below_set ?_ GE136.out) | exact HB.out)) hb); clear HO_9; clear BK136; clear HB; have HO_9 := n0_; have BK136 := n1_; have HB := n2_; clear n0_ n1_ n2_; (try clear hb); (try clear hb2); (try clear hk); (try clear hi)))
              go_ret
              exact ⟨by first | rfl | (simp [errW_none, errW_some] <;> rfl) | (simp [*, errW_none, errW_some] <;> rfl), by repeat (first | (with_reducible first | exact HB.out | apply below_alloc | apply pw_below_drewN | apply below_drew1 | refine below_set ?_ GE136.out) | exact HB.out)⟩

/-- THE ONE PURE STATEMENT of fairleadlaw16_QuotaKeeps: yours. -/
def fairleadlaw16_QuotaKeeps.Pure : Prop := ∀ (a0 : Int) (a1 : Int) (l2 : List Int), (Lit.int .i64 a0).wf = true → (Lit.int .i64 a1).wf = true → l2.length ≤ maxLen → l2.length * 8 ≤ 140737488351232 → (∀ x ∈ l2, (Lit.int .i64 x).wf = true) → ∃ k, fairleadlaw16_QuotaKeeps.f k a0 a1 l2 = some true
theorem fairleadlaw16_QuotaKeeps.walk (P : fairleadlaw16_QuotaKeeps.Pure) (a0 : Int) (a1 : Int) (a2 : Option Addr) (len2 cap2 : Nat) (z2 : List Int) (w : World) (w0 : (Lit.int .i64 a0).wf = true) (w1 : (Lit.int .i64 a1).wf = true) (w2 : (a2 = none ∧ len2 = 0 ∧ cap2 = 0 ∧ z2 = []) ∨ ∃ x, a2 = some x ∧ len2 ≤ cap2 ∧ cap2 ≤ maxLen ∧ z2.length = cap2 ∧ (∀ i, i < z2.length → w.cell? (x.add i) = some (.int .i64 (z2.getD i 0))) ∧ ∀ n ∈ z2, (Lit.int .i64 n).wf = true) (y2 : len2 * 8 ≤ 140737488351232) :
    Calls Try.prog 5 #[.int .i64 a0, .int .i64 a1, .slice a2 len2 cap2] w fun e w' => e = .returned (.bool true) ∧ Below w.heap.size w w' := by
  obtain ⟨l2, rfl, hr2, hm2, hw2, hc2⟩ := ReadsInt.ofRowC w2
  obtain ⟨k, h⟩ := P a0 a1 l2 w0 w1 hm2 y2 hw2
  refine (fairleadlaw16_QuotaKeeps.calls k a0 a1 _ _ l2 true w (Kd.C_of_reads (d := (0 : Int)) (h1 := fun _ => rfl) hr2) hc2 ⟨rfl⟩ h).mono ?_
  rintro e w' ⟨rfl, hd⟩
  exact ⟨rfl, hd⟩

end Go.Proofs.Ythielbjklkhenaa.PQuotaKeeps
