/- Proves that the Go functions that NumBack reaches (this part of them) come to what the Lean functions of their names answer, where these answer something. By a program of this session (the kit's print, with turns of its own: wip/print in the repo); Lean checks it. -/
import Derived.Test.YtkicclfokhfeiaaPNumBackx0
import Derived.Test.YtkicclfokhfeiaaPNumBackx1
import Derived.Test.YtkicclfokhfeiaaPNumBackx2
namespace Go.Proofs.Ytkicclfokhfeiaa.PNumBack
open Go.RowKit Go.Proofs.YtkicclfokhfeiaaW.PrintWords Go.Proofs.YtkicclfokhfeiaaW.PrintLast Go.Proofs.YtkicclfokhfeiaaW.PrintMore
attribute [local go_sem] max2_int min2_int max_two min_two max_three min_three max_four min_four   -- for this text's walks alone
set_option linter.unusedVariables false
set_option linter.unusedSimpArgs false

/-! ### fairleadlaw01_NumBack: function 5 -/
mutual
def fairleadlaw01_NumBack.j0 : Nat → Int → Int → List Int → List Int → Bool → List Int → Int → Bool → Option (Bool)
  | 0, _, _, _, _, _, _, _, _ => none
  | k + 1, x0, x1, x2, x7, x8, x9, x10, x26 => if x26 = true then (if 0 ≤ (IntKind.u64.wrap (wrap64 (8 * x1))) then (if (shl .u64 1 (IntKind.u64.wrap (wrap64 (8 * x1)))) = 0 then (none) else (fairleadlaw01_NumBack.j1 k x1 x2 x7 x8 x9 (Int.tmod x0 (shl .u64 1 (IntKind.u64.wrap (wrap64 (8 * x1))))))) else (none)) else (fairleadlaw01_NumBack.j1 k x1 x2 x7 x8 x9 x10)
def fairleadlaw01_NumBack.j1 : Nat → Int → List Int → List Int → Bool → List Int → Int → Option (Bool)
  | 0, _, _, _, _, _, _ => none
  | k + 1, x1, x2, x7, x8, x9, x10 => if x1 < 1 then (if x8 = true then ((fairleadref01_Same.f x7 x2).bind fun t152 => (if t152 = true then ((num_Get.f k x9).bind fun t153 => (if t153 = 0 then (if (x9.length : Int) = (mx 0 (mn x1 8)) then ((fairleadlaw01_heads.f k).bind fun t154 => (some t154)) else (some false)) else (some false))) else (some false))) else (some false)) else (if x8 = true then ((fairleadref01_Same.f x7 x2).bind fun t155 => (if t155 = true then ((num_Get.f k x9).bind fun t156 => (if t156 = x10 then (if (x9.length : Int) = (mx 0 (mn x1 8)) then ((fairleadlaw01_heads.f k).bind fun t157 => (some t157)) else (some false)) else (some false))) else (some false))) else (some false))
end
def fairleadlaw01_NumBack.f (k : Nat) (a0 : Int) (a1 : Int) (l2 : List Int) : Option (Bool) := (num_Hex.f k l2).bind fun t144 => ((num_Unhex.f k t144).bind fun bt145 => ((num_Put.f k a0 a1).bind fun t149 => (if a1 < 8 then (fairleadlaw01_NumBack.j0 k a0 a1 l2 bt145.1 bt145.2 t149 a0 (decide (a1 > 0))) else (fairleadlaw01_NumBack.j0 k a0 a1 l2 bt145.1 bt145.2 t149 a0 false))))
theorem fairleadlaw01_NumBack.mono_l : ∀ k, (∀ y0 y1 y2 y3 y4 y5 y6 y7, LeO (fairleadlaw01_NumBack.j0 k y0 y1 y2 y3 y4 y5 y6 y7) (fairleadlaw01_NumBack.j0 (k + 1) y0 y1 y2 y3 y4 y5 y6 y7)) ∧ (∀ y0 y1 y2 y3 y4 y5, LeO (fairleadlaw01_NumBack.j1 k y0 y1 y2 y3 y4 y5) (fairleadlaw01_NumBack.j1 (k + 1) y0 y1 y2 y3 y4 y5))
  | 0 => ⟨fun _ _ _ _ _ _ _ _ r h => by simp [fairleadlaw01_NumBack.j0] at h, fun _ _ _ _ _ _ r h => by simp [fairleadlaw01_NumBack.j1] at h⟩
  | k + 1 => by
    obtain ⟨ih0, ih1⟩ := fairleadlaw01_NumBack.mono_l k
    refine ⟨?_, ?_⟩
    · intro y0 y1 y2 y3 y4 y5 y6 y7
      unfold fairleadlaw01_NumBack.j0
      repeat' first
      | (with_reducible exact ih0 _ _ _ _ _ _ _ _)
      | (with_reducible exact ih1 _ _ _ _ _ _)
      | (with_reducible exact fairleadlaw01_heads.mono _)
      | (with_reducible exact num_Get.mono _ _)
      | (with_reducible exact num_Hex.mono _ _)
      | (with_reducible exact num_Put.mono _ _ _)
      | (with_reducible exact num_Unhex.mono _ _)
      | (with_reducible exact LeO.refl _)
      | (with_reducible exact LeO.none _)
      | (with_reducible refine LeO.ite ?_ ?_)
      | (with_reducible refine LeO.bind ?_ (fun _ => ?_))
      | exact ih0 _ _ _ _ _ _ _ _
      | exact ih1 _ _ _ _ _ _
      | exact fairleadlaw01_heads.mono _
      | exact num_Get.mono _ _
      | exact num_Hex.mono _ _
      | exact num_Put.mono _ _ _
      | exact num_Unhex.mono _ _
      | exact LeO.none _
      | refine LeO.ite ?_ ?_
      | refine LeO.bind ?_ (fun _ => ?_)
    · intro y0 y1 y2 y3 y4 y5
      unfold fairleadlaw01_NumBack.j1
      repeat' first
      | (with_reducible exact ih0 _ _ _ _ _ _ _ _)
      | (with_reducible exact ih1 _ _ _ _ _ _)
      | (with_reducible exact fairleadlaw01_heads.mono _)
      | (with_reducible exact num_Get.mono _ _)
      | (with_reducible exact num_Hex.mono _ _)
      | (with_reducible exact num_Put.mono _ _ _)
      | (with_reducible exact num_Unhex.mono _ _)
      | (with_reducible exact LeO.refl _)
      | (with_reducible exact LeO.none _)
      | (with_reducible refine LeO.ite ?_ ?_)
      | (with_reducible refine LeO.bind ?_ (fun _ => ?_))
      | exact ih0 _ _ _ _ _ _ _ _
      | exact ih1 _ _ _ _ _ _
      | exact fairleadlaw01_heads.mono _
      | exact num_Get.mono _ _
      | exact num_Hex.mono _ _
      | exact num_Put.mono _ _ _
      | exact num_Unhex.mono _ _
      | exact LeO.none _
      | refine LeO.ite ?_ ?_
      | refine LeO.bind ?_ (fun _ => ?_)
theorem fairleadlaw01_NumBack.mono : ∀ a0 a1 a2 k, LeO (fairleadlaw01_NumBack.f k a0 a1 a2) (fairleadlaw01_NumBack.f (k + 1) a0 a1 a2) := by
  intro a0 a1 a2 k
  obtain ⟨ih0, ih1⟩ := fairleadlaw01_NumBack.mono_l k
  unfold fairleadlaw01_NumBack.f
  repeat' first
      | (with_reducible exact ih0 _ _ _ _ _ _ _ _)
      | (with_reducible exact ih1 _ _ _ _ _ _)
      | (with_reducible exact fairleadlaw01_heads.mono _)
      | (with_reducible exact num_Get.mono _ _)
      | (with_reducible exact num_Hex.mono _ _)
      | (with_reducible exact num_Put.mono _ _ _)
      | (with_reducible exact num_Unhex.mono _ _)
      | (with_reducible exact LeO.refl _)
      | (with_reducible exact LeO.none _)
      | (with_reducible refine LeO.ite ?_ ?_)
      | (with_reducible refine LeO.bind ?_ (fun _ => ?_))
      | exact ih0 _ _ _ _ _ _ _ _
      | exact ih1 _ _ _ _ _ _
      | exact fairleadlaw01_heads.mono _
      | exact num_Get.mono _ _
      | exact num_Hex.mono _ _
      | exact num_Put.mono _ _ _
      | exact num_Unhex.mono _ _
      | exact LeO.none _
      | refine LeO.ite ?_ ?_
      | refine LeO.bind ?_ (fun _ => ?_)
set_option maxHeartbeats 8000000 in
set_option maxRecDepth 100000 in
theorem fairleadlaw01_NumBack.calls (k : Nat) (a0 : Int) (a1 : Int) (A2 : Option Addr) (c2 : Nat) (l2 : List Int) (r : Bool) (w : World) (hr2 : Kd.C (Kd.int .u8) w A2 l2.length l2) (hc2 : l2.length ≤ c2) (hr_ : Aside0 (r = true)) (h : fairleadlaw01_NumBack.f k a0 a1 l2 = some r) :
    Calls Try.prog 5 #[.int .u64 a0, .int .i64 a1, .slice A2 l2.length c2] w fun e w' => e = .returned (.bool r) ∧ Below w.heap.size w w' := by
  have HR2 := Aside0.mk hr2
  have HC2 := Aside0.mk hc2
  clear hr2 hc2
  have HB := Aside0.mk (Below.refl w.heap.size w)
  have H : ((num_Hex.f k l2).bind fun t144 => ((num_Unhex.f k t144).bind fun bt145 => ((num_Put.f k a0 a1).bind fun t149 => (if a1 < 8 then (fairleadlaw01_NumBack.j0 k a0 a1 l2 bt145.1 bt145.2 t149 a0 (decide (a1 > 0))) else (fairleadlaw01_NumBack.j0 k a0 a1 l2 bt145.1 bt145.2 t149 a0 false))))) = some r := h
  clear h
  replace H := Option.bind_eq_some_iff.mp H
  obtain ⟨t144, A40, H⟩ := H
  replace H : ((num_Unhex.f k t144).bind fun bt145 => ((num_Put.f k a0 a1).bind fun t149 => (if a1 < 8 then (fairleadlaw01_NumBack.j0 k a0 a1 l2 bt145.1 bt145.2 t149 a0 (decide (a1 > 0))) else (fairleadlaw01_NumBack.j0 k a0 a1 l2 bt145.1 bt145.2 t149 a0 false)))) = some r := H
  have A4 := Aside0.mk A40
  clear A40
  replace H := Option.bind_eq_some_iff.mp H
  obtain ⟨⟨t145, t146⟩, A50, H⟩ := H
  replace H : ((num_Put.f k a0 a1).bind fun t149 => (if a1 < 8 then (fairleadlaw01_NumBack.j0 k a0 a1 l2 t145 t146 t149 a0 (decide (a1 > 0))) else (fairleadlaw01_NumBack.j0 k a0 a1 l2 t145 t146 t149 a0 false))) = some r := H
  have A5 := Aside0.mk A50
  clear A50
  replace H := Option.bind_eq_some_iff.mp H
  obtain ⟨t149, A60, H⟩ := H
  replace H : (if a1 < 8 then (fairleadlaw01_NumBack.j0 k a0 a1 l2 t145 t146 t149 a0 (decide (a1 > 0))) else (fairleadlaw01_NumBack.j0 k a0 a1 l2 t145 t146 t149 a0 false)) = some r := H
  have A6 := Aside0.mk A60
  clear A60
  have HC7 := Aside0.mk H
  clear H
  go_enter Try.func5, Try.ntmps5
  go_upto_region 4 with (first | ((with_reducible refine gate_callee (f := 9) rfl ?_); refine goesL_ (some 13) rfl rfl Try.func9 (by kernel_rfl) rfl #[.slice A2 l2.length c2] rfl (by (try simp only [List.map_toArray, List.map_cons, List.map_nil]); first | done | rfl | (simp only [List.length_drop, List.length_take]; rfl)) ?_; (with_reducible refine (num_Hex.calls k _ _ l2 t144 _ ?side1 ?side2 A4.out).mono ?_); (case side1 => repeat (first | exact HR2.out | (with_reducible refine Kd.C_alloc ?_ _) | (with_reducible refine Kd.C_drewN ?_ _) | (with_reducible refine Kd.C_drew ?_))); (case side2 => exact HC2.out); rintro e w8 ⟨rfl, hb⟩; refine ⟨_, rfl, ?_⟩; have n0_ := Aside0.mk (below_step (by repeat (first | (with_reducible first | exact HB.out | apply below_alloc | apply pw_below_drewN | apply below_drew1) | exact HB.out)) hb); clear HB; have HB := n0_; clear n0_; (try clear hb); (try clear hb2); (try clear hk); (try clear hi)) | ((with_reducible refine gate_callee (f := 8) rfl ?_); refine goesL_ (some 14) rfl rfl Try.func8 (by kernel_rfl) rfl #[.string t144] rfl (by (try simp only [List.map_toArray, List.map_cons, List.map_nil]); first | done | rfl | (simp only [List.length_drop, List.length_take]; rfl)) ?_; (with_reducible refine (num_Unhex.calls k t144 t145 t146 _ A5.out).mono ?_); rintro e w9 ⟨v147, rfl, ho0, hb⟩; refine ⟨_, rfl, ?_⟩; have n0_ := Aside0.mk (Kd.R_lower ho0 (below_size (by repeat (first | (with_reducible first | exact HB.out | apply below_alloc | apply pw_below_drewN | apply below_drew1) | exact HB.out)))); have n1_ := Aside0.mk (below_step (by repeat (first | (with_reducible first | exact HB.out | apply below_alloc | apply pw_below_drewN | apply below_drew1) | exact HB.out)) hb); clear HB; have HO148 := n0_; have HB := n1_; clear n0_ n1_; (try clear hb); (try clear hb2); (try clear hk); (try clear hi); (try clear ho0)) | ((with_reducible refine gate_callee (f := 15) rfl ?_); refine goesL_ (some 19) rfl rfl Try.func15 (by kernel_rfl) rfl #[.int .u64 a0, .int .i64 a1] rfl (by (try simp only [List.map_toArray, List.map_cons, List.map_nil]); first | done | rfl | (simp only [List.length_drop, List.length_take]; rfl)) ?_; (with_reducible refine (num_Put.calls k a0 a1 t149 _ A6.out).mono ?_); rintro e w10 ⟨v150, rfl, ho0, hb⟩; refine ⟨_, rfl, ?_⟩; have n0_ := Aside0.mk (Kd.R_elder' (by (with_reducible repeat (first | apply Kd.R_alloc | apply Kd.R_drewN | apply Kd.R_drew)); exact HO148.out) (Kd.R_base ho0) hb); have n1_ := Aside0.mk (Kd.R_lower (Kd.R_new' ho0 (Kd.R_lt (by (with_reducible repeat (first | apply Kd.R_alloc | apply Kd.R_drewN | apply Kd.R_drew)); exact HO148.out))) (below_size (by repeat (first | (with_reducible first | exact HB.out | apply below_alloc | apply pw_below_drewN | apply below_drew1) | exact HB.out)))); have n2_ := Aside0.mk (below_step (by repeat (first | (with_reducible first | exact HB.out | apply below_alloc | apply pw_below_drewN | apply below_drew1) | exact HB.out)) hb); clear HO148; clear HB; have HO148 := n0_; have HO151 := n1_; have HB := n2_; clear n0_ n1_ n2_; (try clear hb); (try clear hb2); (try clear hk); (try clear hi); (try clear ho0)))
  (try simp only [Act.put, List.setIfInBounds_toArray, List.set_cons_zero, List.set_cons_succ])
  go_cut [26] (fun v26 wc => ∃ (kq : Nat) (x26_6 : Bool), v26 = .bool x26_6 ∧ Aside0 (fairleadlaw01_NumBack.j0 kq a0 a1 l2 t145 t146 t149 a0 x26_6 = some r) ∧ Aside0 (kq ≤ k) ∧ Aside0 (Kd.R (Kd.int .u8) 5 wc w.heap.size (fun k_ => some k_ ≠ (v150 : Value).ownBlock) v147 t145) ∧ Aside0 (Kd.R (Kd.int .u8) 5 wc w.heap.size (fun k_ => some k_ ≠ (v147 : Value).ownBlock) v150 t149) ∧ Aside0 (Below w.heap.size w wc))
  case first =>
    have H := HC7.out
    clear HC7
    by_cases c11 : a1 < 8
    · rw [if_pos c11] at H
      have c11b0 : decide (a1 < 8) = true := decide_eq_true c11
      clear c11
      (first | rw [c11b0] | (simp only [i64_w, i32_w]; rw [c11b0]) | skip)
      have H' := Aside0.mk H
      clear H
      go_wp2
      go_meet
      case rel => exact ⟨_, (decide (a1 > 0)), (by first | rfl | (simp; done) | (simp [*]; done)), H', ⟨by first | omega | exact Nat.le_refl _⟩, ⟨by (with_reducible repeat (first | apply Kd.R_alloc | apply Kd.R_drewN | apply Kd.R_drew)); exact Kd.R_mono HO148.out (fun _ hk => hk.2)⟩, ⟨by (with_reducible repeat (first | apply Kd.R_alloc | apply Kd.R_drewN | apply Kd.R_drew)); exact Kd.R_mono HO151.out (fun _ hk => hk.2)⟩, ⟨by repeat (first | (with_reducible first | exact HB.out | apply below_alloc | apply pw_below_drewN | apply below_drew1) | exact HB.out)⟩⟩
    · rw [if_neg c11] at H
      have c11b0 : decide (a1 < 8) = false := decide_eq_false c11
      clear c11
      (first | rw [c11b0] | (simp only [i64_w, i32_w]; rw [c11b0]) | skip)
      have H' := Aside0.mk H
      clear H
      go_wp2
      go_meet
      case rel => exact ⟨_, (false), (by first | rfl | (simp; done) | (simp [*]; done)), H', ⟨by first | omega | exact Nat.le_refl _⟩, ⟨by (with_reducible repeat (first | apply Kd.R_alloc | apply Kd.R_drewN | apply Kd.R_drew)); exact Kd.R_mono HO148.out (fun _ hk => hk.2)⟩, ⟨by (with_reducible repeat (first | apply Kd.R_alloc | apply Kd.R_drewN | apply Kd.R_drew)); exact Kd.R_mono HO151.out (fun _ hk => hk.2)⟩, ⟨by repeat (first | (with_reducible first | exact HB.out | apply below_alloc | apply pw_below_drewN | apply below_drew1) | exact HB.out)⟩⟩
  case rest =>
    clear HC7
    try clear c1
    try clear c2
    try clear p2
    try clear c5
    try clear c8
    try clear c9
    try clear c11
    try clear c11b0
    obtain ⟨kq, x26_6, rfl, HA, HJ6, HO_7, HO_9, HB⟩ := hcut
    cases kq with
    | zero => exact absurd HA.out (by simp [fairleadlaw01_NumBack.j0])
    | succ kj6 =>
      have H := HA.out
      clear HA
      simp only [fairleadlaw01_NumBack.j0] at H
      have HC12 := Aside0.mk H
      clear H
      go_upto_if 26 with (fail)
      go_cut [10] (fun v10 wc => ∃ (kq : Nat) (x10_11 : Int), v10 = .int .u64 x10_11 ∧ Aside0 (fairleadlaw01_NumBack.j1 kq a1 l2 t145 t146 t149 x10_11 = some r) ∧ Aside0 (kq ≤ kj6) ∧ Aside0 (Kd.R (Kd.int .u8) 5 wc w.heap.size (fun k_ => some k_ ≠ (v150 : Value).ownBlock) v147 t145) ∧ Aside0 (Kd.R (Kd.int .u8) 5 wc w.heap.size (fun k_ => some k_ ≠ (v147 : Value).ownBlock) v150 t149) ∧ Aside0 (Below w.heap.size w wc))
      case first =>
        have H := HC12.out
        clear HC12
        by_cases c13 : x26_6 = true
        · subst c13
          have H1 : (if 0 ≤ (IntKind.u64.wrap (wrap64 (8 * a1))) then (if (shl .u64 1 (IntKind.u64.wrap (wrap64 (8 * a1)))) = 0 then (none) else (fairleadlaw01_NumBack.j1 kj6 a1 l2 t145 t146 t149 (Int.tmod a0 (shl .u64 1 (IntKind.u64.wrap (wrap64 (8 * a1))))))) else (none)) = some r := by rw [if_pos rfl] at H; exact H
          clear H
          have H := H1
          clear H1
          obtain ⟨ji14, hji14⟩ : ∃ j_ : Int, (IntKind.u64.wrap (wrap64 (8 * a1))) = j_ := ⟨_, rfl⟩
          replace H : (if 0 ≤ (ji14) then (if (shl .u64 1 (ji14)) = 0 then (none) else (fairleadlaw01_NumBack.j1 kj6 a1 l2 t145 t146 t149 (Int.tmod a0 (shl .u64 1 (ji14))))) else (none)) = some r := by first | (rw [hji14] at H; exact H) | (simp only [hji14] at H ⊢; exact H)
          by_cases c15 : 0 ≤ (ji14)
          · rw [if_pos c15] at H
            have c15b0 := eq_true c15
            have c15b1 : decide (0 ≤ (ji14)) = true := decide_eq_true c15
            clear c15
            obtain ⟨ji16, hji16⟩ : ∃ j_ : Int, (shl .u64 1 (ji14)) = j_ := ⟨_, rfl⟩
            replace H : (if (ji16) = 0 then (none) else (fairleadlaw01_NumBack.j1 kj6 a1 l2 t145 t146 t149 (Int.tmod a0 (ji16)))) = some r := by first | (rw [hji16] at H; exact H) | (simp only [hji16] at H ⊢; exact H)
            have hji16_ : (IntKind.u64.wrap (1 * 2 ^ min (ji14).toNat 64)) = ji16 := hji16
            have hji16z : (ji14) ≤ 64 → (IntKind.u64.wrap (1 * 2 ^ (ji14).toNat)) = ji16 := shl_small hji16
            have hji16u : (IntKind.u64.wrap (2 ^ min (ji14).toNat 64)) = ji16 := by have h_ := hji16_; rw [Int.one_mul] at h_; exact h_
            have hji16v : (ji14) ≤ 64 → (IntKind.u64.wrap (2 ^ (ji14).toNat)) = ji16 := fun hle_ => by have h_ := hji16z hle_; rw [Int.one_mul] at h_; exact h_
            by_cases c17 : (ji16) = 0
            · rw [if_pos c17] at H
              exact absurd H (by simp)
            · rw [if_neg c17] at H
              have c17b0 : ((ji16) == 0) = false := beq_eq_false_iff_ne.mpr c17
              have c17b1 : ((ji16) != 0) = true := bne_iff_ne.mpr c17
              (first | rw [c17b0] | (simp only [i64_w, i32_w]; rw [c17b0]) | skip)
              have H' := Aside0.mk H
              clear H
              go_wp2
              go_meet
              case rel => exact ⟨_, (Int.tmod a0 (ji16)), (by first | rfl | (simp; done) | (simp only [← hji16] <;> (first | rfl | simp)) | (simp [*]; done)), H', ⟨by have := HJ6.out; first | omega | exact Nat.le_refl _⟩, ⟨by (with_reducible repeat (first | apply Kd.R_alloc | apply Kd.R_drewN | apply Kd.R_drew)); exact HO_7.out⟩, ⟨by (with_reducible repeat (first | apply Kd.R_alloc | apply Kd.R_drewN | apply Kd.R_drew)); exact HO_9.out⟩, ⟨by repeat (first | (with_reducible first | exact HB.out | apply below_alloc | apply pw_below_drewN | apply below_drew1) | exact HB.out)⟩⟩
          · rw [if_neg c15] at H
            exact absurd H (by simp)
        · replace c13 := Bool.eq_false_iff.mpr c13
          subst c13
          have H1 : (fairleadlaw01_NumBack.j1 kj6 a1 l2 t145 t146 t149 a0) = some r := by rw [if_neg (show ¬ (false = true) by decide)] at H; exact H
          clear H
          have H := H1
          clear H1
          have H' := Aside0.mk H
          clear H
          go_wp2
          go_meet
          case rel => exact ⟨_, (a0), (by first | rfl | (simp; done) | (simp [*]; done)), H', ⟨by have := HJ6.out; first | omega | exact Nat.le_refl _⟩, ⟨by (with_reducible repeat (first | apply Kd.R_alloc | apply Kd.R_drewN | apply Kd.R_drew)); exact HO_7.out⟩, ⟨by (with_reducible repeat (first | apply Kd.R_alloc | apply Kd.R_drewN | apply Kd.R_drew)); exact HO_9.out⟩, ⟨by repeat (first | (with_reducible first | exact HB.out | apply below_alloc | apply pw_below_drewN | apply below_drew1) | exact HB.out)⟩⟩
      case rest =>
        clear HC12
        try clear c1
        try clear c2
        try clear p2
        try clear c5
        try clear p6
        try clear c8
        try clear c9
        try clear c11
        try clear c11b0
        try clear c13
        try clear c15
        try clear c15b0
        try clear c15b1
        try clear c17
        try clear c17b0
        try clear c17b1
        try clear p2
        obtain ⟨kq, x10_11, rfl, HA, HJ11, HO_7, HO_9, HB⟩ := hcut
        cases kq with
        | zero => exact absurd HA.out (by simp [fairleadlaw01_NumBack.j1])
        | succ kj11 =>
          have H := HA.out
          clear HA
          simp only [fairleadlaw01_NumBack.j1] at H
          by_cases c18 : a1 < 1
          · rw [if_pos c18] at H
            have c18b0 : decide (a1 < 1) = true := decide_eq_true c18
            clear c18
            by_cases c19 : t146 = true
            · subst c19
              have H1 : ((fairleadref01_Same.f t145 l2).bind fun t152 => (if t152 = true then ((num_Get.f kj11 t149).bind fun t153 => (if t153 = 0 then (if (t149.length : Int) = (mx 0 (mn a1 8)) then ((fairleadlaw01_heads.f kj11).bind fun t154 => (some t154)) else (some false)) else (some false))) else (some false))) = some r := by rw [if_pos rfl] at H; exact H
              clear H
              have H := H1
              clear H1
              replace H := Option.bind_eq_some_iff.mp H
              obtain ⟨t152, A200, H⟩ := H
              replace H : (if t152 = true then ((num_Get.f kj11 t149).bind fun t153 => (if t153 = 0 then (if (t149.length : Int) = (mx 0 (mn a1 8)) then ((fairleadlaw01_heads.f kj11).bind fun t154 => (some t154)) else (some false)) else (some false))) else (some false)) = some r := H
              have A20 := Aside0.mk A200
              clear A200
              by_cases c21 : t152 = true
              · subst c21
                have H1 : ((num_Get.f kj11 t149).bind fun t153 => (if t153 = 0 then (if (t149.length : Int) = (mx 0 (mn a1 8)) then ((fairleadlaw01_heads.f kj11).bind fun t154 => (some t154)) else (some false)) else (some false))) = some r := by rw [if_pos rfl] at H; exact H
                clear H
                have H := H1
                clear H1
                replace H := Option.bind_eq_some_iff.mp H
                obtain ⟨t153, A220, H⟩ := H
                replace H : (if t153 = 0 then (if (t149.length : Int) = (mx 0 (mn a1 8)) then ((fairleadlaw01_heads.f kj11).bind fun t154 => (some t154)) else (some false)) else (some false)) = some r := H
                have A22 := Aside0.mk A220
                clear A220
                by_cases c23 : t153 = 0
                · rw [if_pos c23] at H
                  have c23b0 : (t153 == 0) = true := beq_iff_eq.mpr c23
                  have c23b1 : (t153 != 0) = false := bne_eq_false_iff_eq.mpr c23
                  clear c23
                  obtain ⟨ji24, hji24⟩ : ∃ j_ : Int, (mn a1 8) = j_ := ⟨_, rfl⟩
                  replace H : (if (t149.length : Int) = (mx 0 (ji24)) then ((fairleadlaw01_heads.f kj11).bind fun t154 => (some t154)) else (some false)) = some r := by first | (rw [hji24] at H; exact H) | (simp only [hji24] at H ⊢; exact H)
                  (try rw [hji24] at A20)
                  (try rw [hji24] at A22)
                  (try (have hji24h : ji24 ≤ 8 := by (rw [← hji24]; unfold mn; (repeat' split) <;> omega)))
                  (try (have hji24g : ji24 ≤ 64 := by omega))
                  have hji24_ : (if 8 < a1 then 8 else a1) = ji24 := hji24
                  obtain ⟨ji25, hji25⟩ : ∃ j_ : Int, (mx 0 (ji24)) = j_ := ⟨_, rfl⟩
                  replace H : (if (t149.length : Int) = (ji25) then ((fairleadlaw01_heads.f kj11).bind fun t154 => (some t154)) else (some false)) = some r := by first | (rw [hji25] at H; exact H) | (simp only [hji25] at H ⊢; exact H)
                  (try rw [hji25] at A20)
                  (try rw [hji25] at A22)
                  have hji25_ : (if 0 < (ji24) then (ji24) else 0) = ji25 := hji25
                  by_cases c26 : (t149.length : Int) = (ji25)
                  · rw [if_pos c26] at H
                    have c26b0 : ((t149.length : Int) == (ji25)) = true := beq_iff_eq.mpr c26
                    have c26b1 : ((t149.length : Int) != (ji25)) = false := bne_eq_false_iff_eq.mpr c26
                    clear c26
                    replace H := Option.bind_eq_some_iff.mp H
                    obtain ⟨t154, A270, H⟩ := H
                    replace H : (some t154) = some r := H
                    have A27 := Aside0.mk A270
                    clear A270
                    obtain rfl := Option.some.inj H
                    obtain ⟨Ao28, co28, eo28⟩ := Kd.R_slice HO_7.out
                    subst eo28
                    go_wp2_with (first | (go_at_call 16; (with_reducible refine (fairleadref01_Same.calls _ _ t145 _ _ l2 true _ ?side1 ?side2 ?side3 ?side4 A20.out).mono ?_); (case side1 => repeat (first | exact (Kd.R_reads' HO_7.out).2.2 | (with_reducible refine Kd.C_alloc ?_ _) | (with_reducible refine Kd.C_drewN ?_ _) | (with_reducible refine Kd.C_drew ?_))); (case side2 => exact (Kd.R_reads' HO_7.out).2.1); (case side3 => repeat (first | exact (Kd.C_below HR2.out HB.out) | (with_reducible refine Kd.C_alloc ?_ _) | (with_reducible refine Kd.C_drewN ?_ _) | (with_reducible refine Kd.C_drew ?_))); (case side4 => exact HC2.out); rintro e w' ⟨rfl, ⟨nd, rfl⟩⟩; obtain ⟨Ao29, co29, eo29⟩ := Kd.R_slice HO_9.out; subst eo29) | (go_at_call 17; (with_reducible refine (num_Get.calls kj11 _ _ t149 t153 _ ?side1 ?side2 A22.out).mono ?_); (case side1 => repeat (first | exact (Kd.R_reads' HO_9.out).2.2 | (with_reducible refine Kd.C_alloc ?_ _) | (with_reducible refine Kd.C_drewN ?_ _) | (with_reducible refine Kd.C_drew ?_))); (case side2 => exact (Kd.R_reads' HO_9.out).2.1); rintro e w' ⟨rfl, ⟨nd, rfl⟩⟩) | (go_at_call 10; (with_reducible refine (fairleadlaw01_heads.calls kj11  t154 _ A27.out).mono ?_); rintro e w30 ⟨rfl, hb⟩; have n0_ := Aside0.mk (Kd.R_below (by (with_reducible repeat (first | apply Kd.R_alloc | apply Kd.R_drewN | apply Kd.R_drew)); exact HO_7.out) hb); have n1_ := Aside0.mk (Kd.R_below (by (with_reducible repeat (first | apply Kd.R_alloc | apply Kd.R_drewN | apply Kd.R_drew)); exact HO_9.out) hb); have n2_ := Aside0.mk (below_step (by repeat (first | (with_reducible first | exact HB.out | apply below_alloc | apply pw_below_drewN | apply below_drew1) | exact HB.out)) hb); clear HO_7; clear HO_9; clear HB; have HO_7 := n0_; have HO_9 := n1_; have HB := n2_; clear n0_ n1_ n2_; (try clear hb); (try clear hb2); (try clear hk); (try clear hi)))
                    go_ret
                    exact ⟨by first | rfl | (simp [errW_none, errW_some] <;> rfl) | (simp only [← hji24, ← hji25]; first | rfl | (simp [errW_none, errW_some] <;> rfl)) | (simp [*, errW_none, errW_some] <;> rfl), by repeat (first | (with_reducible first | exact HB.out | apply below_alloc | apply pw_below_drewN | apply below_drew1) | exact HB.out)⟩
                  · rw [if_neg c26] at H
                    have c26b0 : ((t149.length : Int) == (ji25)) = false := beq_eq_false_iff_ne.mpr c26
                    have c26b1 : ((t149.length : Int) != (ji25)) = true := bne_iff_ne.mpr c26
                    obtain rfl := Option.some.inj H
                    exact absurd hr_.out (by decide)
                · rw [if_neg c23] at H
                  have c23b0 : (t153 == 0) = false := beq_eq_false_iff_ne.mpr c23
                  have c23b1 : (t153 != 0) = true := bne_iff_ne.mpr c23
                  obtain rfl := Option.some.inj H
                  exact absurd hr_.out (by decide)
              · replace c21 := Bool.eq_false_iff.mpr c21
                subst c21
                have H1 : (some false) = some r := by rw [if_neg (show ¬ (false = true) by decide)] at H; exact H
                clear H
                have H := H1
                clear H1
                obtain rfl := Option.some.inj H
                exact absurd hr_.out (by decide)
            · replace c19 := Bool.eq_false_iff.mpr c19
              subst c19
              have H1 : (some false) = some r := by rw [if_neg (show ¬ (false = true) by decide)] at H; exact H
              clear H
              have H := H1
              clear H1
              obtain rfl := Option.some.inj H
              exact absurd hr_.out (by decide)
          · rw [if_neg c18] at H
            have c18b0 : decide (a1 < 1) = false := decide_eq_false c18
            clear c18
            by_cases c31 : t146 = true
            · subst c31
              have H1 : ((fairleadref01_Same.f t145 l2).bind fun t155 => (if t155 = true then ((num_Get.f kj11 t149).bind fun t156 => (if t156 = x10_11 then (if (t149.length : Int) = (mx 0 (mn a1 8)) then ((fairleadlaw01_heads.f kj11).bind fun t157 => (some t157)) else (some false)) else (some false))) else (some false))) = some r := by rw [if_pos rfl] at H; exact H
              clear H
              have H := H1
              clear H1
              replace H := Option.bind_eq_some_iff.mp H
              obtain ⟨t155, A320, H⟩ := H
              replace H : (if t155 = true then ((num_Get.f kj11 t149).bind fun t156 => (if t156 = x10_11 then (if (t149.length : Int) = (mx 0 (mn a1 8)) then ((fairleadlaw01_heads.f kj11).bind fun t157 => (some t157)) else (some false)) else (some false))) else (some false)) = some r := H
              have A32 := Aside0.mk A320
              clear A320
              by_cases c33 : t155 = true
              · subst c33
                have H1 : ((num_Get.f kj11 t149).bind fun t156 => (if t156 = x10_11 then (if (t149.length : Int) = (mx 0 (mn a1 8)) then ((fairleadlaw01_heads.f kj11).bind fun t157 => (some t157)) else (some false)) else (some false))) = some r := by rw [if_pos rfl] at H; exact H
                clear H
                have H := H1
                clear H1
                replace H := Option.bind_eq_some_iff.mp H
                obtain ⟨t156, A340, H⟩ := H
                replace H : (if t156 = x10_11 then (if (t149.length : Int) = (mx 0 (mn a1 8)) then ((fairleadlaw01_heads.f kj11).bind fun t157 => (some t157)) else (some false)) else (some false)) = some r := H
                have A34 := Aside0.mk A340
                clear A340
                by_cases c35 : t156 = x10_11
                · rw [if_pos c35] at H
                  have c35b0 : (t156 == x10_11) = true := beq_iff_eq.mpr c35
                  have c35b1 : (t156 != x10_11) = false := bne_eq_false_iff_eq.mpr c35
                  clear c35
                  obtain ⟨ji36, hji36⟩ : ∃ j_ : Int, (mn a1 8) = j_ := ⟨_, rfl⟩
                  replace H : (if (t149.length : Int) = (mx 0 (ji36)) then ((fairleadlaw01_heads.f kj11).bind fun t157 => (some t157)) else (some false)) = some r := by first | (rw [hji36] at H; exact H) | (simp only [hji36] at H ⊢; exact H)
                  (try rw [hji36] at A32)
                  (try rw [hji36] at A34)
                  (try (have hji36h : ji36 ≤ 8 := by (rw [← hji36]; unfold mn; (repeat' split) <;> omega)))
                  (try (have hji36g : ji36 ≤ 64 := by omega))
                  have hji36_ : (if 8 < a1 then 8 else a1) = ji36 := hji36
                  obtain ⟨ji37, hji37⟩ : ∃ j_ : Int, (mx 0 (ji36)) = j_ := ⟨_, rfl⟩
                  replace H : (if (t149.length : Int) = (ji37) then ((fairleadlaw01_heads.f kj11).bind fun t157 => (some t157)) else (some false)) = some r := by first | (rw [hji37] at H; exact H) | (simp only [hji37] at H ⊢; exact H)
                  (try rw [hji37] at A32)
                  (try rw [hji37] at A34)
                  have hji37_ : (if 0 < (ji36) then (ji36) else 0) = ji37 := hji37
                  by_cases c38 : (t149.length : Int) = (ji37)
                  · rw [if_pos c38] at H
                    have c38b0 : ((t149.length : Int) == (ji37)) = true := beq_iff_eq.mpr c38
                    have c38b1 : ((t149.length : Int) != (ji37)) = false := bne_eq_false_iff_eq.mpr c38
                    clear c38
                    replace H := Option.bind_eq_some_iff.mp H
                    obtain ⟨t157, A390, H⟩ := H
                    replace H : (some t157) = some r := H
                    have A39 := Aside0.mk A390
                    clear A390
                    obtain rfl := Option.some.inj H
                    obtain ⟨Ao40, co40, eo40⟩ := Kd.R_slice HO_7.out
                    subst eo40
                    go_wp2_with (first | (go_at_call 16; (with_reducible refine (fairleadref01_Same.calls _ _ t145 _ _ l2 true _ ?side1 ?side2 ?side3 ?side4 A32.out).mono ?_); (case side1 => repeat (first | exact (Kd.R_reads' HO_7.out).2.2 | (with_reducible refine Kd.C_alloc ?_ _) | (with_reducible refine Kd.C_drewN ?_ _) | (with_reducible refine Kd.C_drew ?_))); (case side2 => exact (Kd.R_reads' HO_7.out).2.1); (case side3 => repeat (first | exact (Kd.C_below HR2.out HB.out) | (with_reducible refine Kd.C_alloc ?_ _) | (with_reducible refine Kd.C_drewN ?_ _) | (with_reducible refine Kd.C_drew ?_))); (case side4 => exact HC2.out); rintro e w' ⟨rfl, ⟨nd, rfl⟩⟩; obtain ⟨Ao41, co41, eo41⟩ := Kd.R_slice HO_9.out; subst eo41) | (go_at_call 17; (with_reducible refine (num_Get.calls kj11 _ _ t149 t156 _ ?side1 ?side2 A34.out).mono ?_); (case side1 => repeat (first | exact (Kd.R_reads' HO_9.out).2.2 | (with_reducible refine Kd.C_alloc ?_ _) | (with_reducible refine Kd.C_drewN ?_ _) | (with_reducible refine Kd.C_drew ?_))); (case side2 => exact (Kd.R_reads' HO_9.out).2.1); rintro e w' ⟨rfl, ⟨nd, rfl⟩⟩) | (go_at_call 10; (with_reducible refine (fairleadlaw01_heads.calls kj11  t157 _ A39.out).mono ?_); rintro e w42 ⟨rfl, hb⟩; have n0_ := Aside0.mk (Kd.R_below (by (with_reducible repeat (first | apply Kd.R_alloc | apply Kd.R_drewN | apply Kd.R_drew)); exact HO_7.out) hb); have n1_ := Aside0.mk (Kd.R_below (by (with_reducible repeat (first | apply Kd.R_alloc | apply Kd.R_drewN | apply Kd.R_drew)); exact HO_9.out) hb); have n2_ := Aside0.mk (below_step (by repeat (first | (with_reducible first | exact HB.out | apply below_alloc | apply pw_below_drewN | apply below_drew1) | exact HB.out)) hb); clear HO_7; clear HO_9; clear HB; have HO_7 := n0_; have HO_9 := n1_; have HB := n2_; clear n0_ n1_ n2_; (try clear hb); (try clear hb2); (try clear hk); (try clear hi)))
                    go_ret
                    exact ⟨by first | rfl | (simp [errW_none, errW_some] <;> rfl) | (simp only [← hji36, ← hji37]; first | rfl | (simp [errW_none, errW_some] <;> rfl)) | (simp [*, errW_none, errW_some] <;> rfl), by repeat (first | (with_reducible first | exact HB.out | apply below_alloc | apply pw_below_drewN | apply below_drew1) | exact HB.out)⟩
                  · rw [if_neg c38] at H
                    have c38b0 : ((t149.length : Int) == (ji37)) = false := beq_eq_false_iff_ne.mpr c38
                    have c38b1 : ((t149.length : Int) != (ji37)) = true := bne_iff_ne.mpr c38
                    obtain rfl := Option.some.inj H
                    exact absurd hr_.out (by decide)
                · rw [if_neg c35] at H
                  have c35b0 : (t156 == x10_11) = false := beq_eq_false_iff_ne.mpr c35
                  have c35b1 : (t156 != x10_11) = true := bne_iff_ne.mpr c35
                  obtain rfl := Option.some.inj H
                  exact absurd hr_.out (by decide)
              · replace c33 := Bool.eq_false_iff.mpr c33
                subst c33
                have H1 : (some false) = some r := by rw [if_neg (show ¬ (false = true) by decide)] at H; exact H
                clear H
                have H := H1
                clear H1
                obtain rfl := Option.some.inj H
                exact absurd hr_.out (by decide)
            · replace c31 := Bool.eq_false_iff.mpr c31
              subst c31
              have H1 : (some false) = some r := by rw [if_neg (show ¬ (false = true) by decide)] at H; exact H
              clear H
              have H := H1
              clear H1
              obtain rfl := Option.some.inj H
              exact absurd hr_.out (by decide)

/-- THE ONE PURE STATEMENT of fairleadlaw01_NumBack: yours. -/
def fairleadlaw01_NumBack.Pure : Prop := ∀ (a0 : Int) (a1 : Int) (l2 : List Int), (Lit.int .u64 a0).wf = true → (Lit.int .i64 a1).wf = true → l2.length ≤ maxLen → l2.length * 1 ≤ 140737488351232 → (∀ x ∈ l2, (Lit.int .u8 x).wf = true) → ∃ k, fairleadlaw01_NumBack.f k a0 a1 l2 = some true
theorem fairleadlaw01_NumBack.walk (P : fairleadlaw01_NumBack.Pure) (a0 : Int) (a1 : Int) (a2 : Option Addr) (len2 cap2 : Nat) (z2 : List Int) (w : World) (w0 : (Lit.int .u64 a0).wf = true) (w1 : (Lit.int .i64 a1).wf = true) (w2 : (a2 = none ∧ len2 = 0 ∧ cap2 = 0 ∧ z2 = []) ∨ ∃ x, a2 = some x ∧ len2 ≤ cap2 ∧ cap2 ≤ maxLen ∧ z2.length = cap2 ∧ (∀ i, i < z2.length → w.cell? (x.add i) = some (.int .u8 (z2.getD i 0))) ∧ ∀ n ∈ z2, (Lit.int .u8 n).wf = true) (y2 : len2 * 1 ≤ 140737488351232) :
    Calls Try.prog 5 #[.int .u64 a0, .int .i64 a1, .slice a2 len2 cap2] w fun e w' => e = .returned (.bool true) ∧ Below w.heap.size w w' := by
  obtain ⟨l2, rfl, hr2, hm2, hw2, hc2⟩ := ReadsInt.ofRowC w2
  obtain ⟨k, h⟩ := P a0 a1 l2 w0 w1 hm2 y2 hw2
  refine (fairleadlaw01_NumBack.calls k a0 a1 _ _ l2 true w (Kd.C_of_reads (d := (0 : Int)) (h1 := fun _ => rfl) hr2) hc2 ⟨rfl⟩ h).mono ?_
  rintro e w' ⟨rfl, hd⟩
  exact ⟨rfl, hd⟩

end Go.Proofs.Ytkicclfokhfeiaa.PNumBack
