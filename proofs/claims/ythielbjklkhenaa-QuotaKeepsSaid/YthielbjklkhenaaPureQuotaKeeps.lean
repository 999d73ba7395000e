/- Proves that from a fresh one on nothing is charged beyond what is granted, and what is held is what was charged less what was released: for all sizes and every list of numbers, no condition but the row's own bounds. -/
import Derived.Test.YthielbjklkhenaaEvalQuotaKeeps
import Derived.Laws.BitsAllLaws
namespace Go.Proofs.Ythielbjklkhenaa.Pure
open Go.RowKit Go.Proofs.Ythielbjklkhenaa.PQuotaKeeps Go.Proofs.YthielbjklkhenaaW.PrintWords Go.Proofs.YthielbjklkhenaaW.PrintLast

def keeps_sum : List Int → Int
  | [] => 0
  | x :: l => x + keeps_sum l
theorem keeps_sum_append (l : List Int) (x : Int) : keeps_sum (l ++ [x]) = keeps_sum l + x := by
  induction l with
  | nil => simp [keeps_sum]
  | cons y l ih => simp only [List.cons_append, keeps_sum, ih]; omega
theorem keeps_sum_nonneg (l : List Int) (h : ∀ x ∈ l, 0 ≤ x ∧ x ≤ 1023) : 0 ≤ keeps_sum l := by
  induction l with
  | nil => simp [keeps_sum]
  | cons y l ih =>
    have h1 := h y (by simp)
    have h2 := ih (fun x hx => h x (by simp [hx]))
    simp only [keeps_sum]; omega

/-- What holds at each round's head: held: the row of what is held; the quota's numbers. -/
structure Keeps (B C : Int) (held : List Int) (q4 : Int) : Prop where
  each : ∀ x ∈ held, 0 ≤ x ∧ x ≤ 1023
  sum : keeps_sum held ≤ B
  count : (held.length : Int) ≤ C
  few : 0 ≤ q4 ∧ q4 ≤ 4611686018427387904

theorem keeps_and1023 (n : Int) : Go.bits .and .i64 n 1023 = n % 1024 := by
  have h127 : (BitVec.ofInt 64 1023).toNat = 2 ^ 10 - 1 := by decide
  have key : (BitVec.ofInt 64 n &&& BitVec.ofInt 64 1023).toNat = (n % ((2 ^ 64 : Nat) : Int)).toNat % 2 ^ 10 := by
    rw [BitVec.toNat_and, BitVec.toNat_ofInt, h127, Nat.and_two_pow_sub_one_eq_mod]
  show IntKind.i64.wrap ((BitVec.ofInt 64 n &&& BitVec.ofInt 64 1023).toNat : Nat) = n % 1024
  rw [key, IntKind.wrap_i64]
  omega
theorem keeps_and (x : Int) : 0 ≤ Go.bits .and .i64 x 1023 ∧ Go.bits .and .i64 x 1023 ≤ 1023 := by
  rw [keeps_and1023]; omega

theorem keeps_ok {B C : Int} {held : List Int} {q4 : Int} (hB : 0 ≤ B ∧ B ≤ 1099511627776) (hC : 0 ≤ C ∧ C ≤ 4611686018427387904) (h : Keeps B C held q4) :
    ev_ok B C (keeps_sum held) (held.length : Int) q4 := by
  have := keeps_sum_nonneg held h.each
  have h1 := h.sum
  have h2 := h.count
  exact ⟨⟨hB.1, by omega⟩, hC, ⟨this, by omega⟩, ⟨by omega, by omega⟩, h.few⟩

theorem keeps_loop (B C : Int) (l : List Int) (hB : 0 ≤ B ∧ B ≤ 1099511627776) (hC : 0 ≤ C ∧ C ≤ 4611686018427387904) (hl : l.length ≤ 300) (hw : ∀ x ∈ l, -9223372036854775808 ≤ x ∧ x ≤ 9223372036854775807) (d : Nat) :
    ∀ (k i : Nat) (held : List Int) (q4 : Int), i + d = l.length → held.length ≤ i → Keeps B C held q4 →
      fairleadlaw16_QuotaKeeps.l0 (k + 2 * d + 1) B C l held (keeps_sum held) (i : Int) B C (keeps_sum held) (held.length : Int) q4 = some true := by
  induction d with
  | zero =>
    intro k i held q4 hi hlen hk
    simp only [fairleadlaw16_QuotaKeeps.l0]
    rw [if_neg (by omega)]
    rfl
  | succ d ih =>
    intro k i held q4 hi hlen hk
    have hin : i < l.length := by omega
    have hsum0 := keeps_sum_nonneg held hk.each
    have hsumB := hk.sum
    have hcC := hk.count
    have hok := keeps_ok hB hC hk
    have hi1 : wrap64 ((i : Int) + 1) = ((i + 1 : Nat) : Int) := by unfold wrap64; omega
    have hrd : rd l (i : Int) = l[i] := by
      unfold rd; rw [Int.toNat_natCast, List.getD_eq_getElem?_getD, List.getElem?_eq_getElem hin]; rfl
    have hx := hw l[i] (List.getElem_mem hin)
    have ih1 := ih (k + 1)
    have ih0 := ih k
    rw [show k + 2 * (d + 1) + 1 = (k + 2 * d + 1 + 1) + 1 from by omega]
    rw [show k + 1 + 2 * d + 1 = k + 2 * d + 1 + 1 from by omega] at ih1
    have hcharge_full := ev_Charge_full (k + 2 * d + 1) B C (keeps_sum held) (held.length : Int) q4
    have hcharge_good := ev_Charge_good (k + 2 * d + 1) B C (keeps_sum held) (held.length : Int) q4
    generalize hK : k + 2 * d + 1 + 1 = K at *
    simp only [fairleadlaw16_QuotaKeeps.l0]
    rw [if_pos (Int.ofNat_lt.2 hin), if_pos (Int.natCast_nonneg _), hrd, hi1]
    by_cases hneg : l[i] < 0
    · rw [if_pos hneg]
      cases held with
      | nil =>
        rw [if_pos (by simp)]
        exact ih1 (i + 1) [] q4 (by omega) (by simp) hk
      | cons y held =>
        have hy := hk.each y (by simp)
        have hrest : ∀ z ∈ held, 0 ≤ z ∧ z ≤ 1023 := fun z hz => hk.each z (by simp [hz])
        have hrest0 := keeps_sum_nonneg held hrest
        have hrd0 : rd (y :: held) 0 = y := rfl
        have hs : keeps_sum (y :: held) = y + keeps_sum held := rfl
        have hrel := ev_Release_good B C (keeps_sum (y :: held)) ((y :: held).length : Int) q4 y hok ⟨hy.1, by omega⟩ (by rw [hs]; omega) (by simp; omega)
        rw [if_neg (by simp; omega), if_pos (by simp), hrd0, hrel]
        simp only [Option.bind_some]
        have hwr : wrap64 (keeps_sum (y :: held) - y) = keeps_sum held := by rw [hs] at hsumB ⊢; unfold wrap64; omega
        have e1 : keeps_sum (y :: held) - y = keeps_sum held := by rw [hs]; omega
        have e2 : ((y :: held).length : Int) - 1 = (held.length : Int) := by simp
        have e3 : (y :: held).drop (1 : Int).toNat = held := rfl
        rw [e3, e1, e2]
        have hwr2 : wrap64 (keeps_sum held) = keeps_sum held := by rw [hs] at hsumB; unfold wrap64; omega
        rw [hwr2]
        simp only [if_true]
        rw [if_pos (show (1 : Int) ≤ ((y :: held).length : Int) by simp; omega), if_neg (by rw [hs] at hsumB; omega), if_neg (by simp at hcC; omega)]
        refine ih1 (i + 1) held q4 (by omega) (by simp at hlen; omega) ⟨hrest, by rw [hs] at hsumB; omega, by simp at hcC; omega, hk.few⟩
    · rw [if_neg hneg]
      obtain ⟨hn0, hn1⟩ := keeps_and l[i]
      generalize Go.bits .and .i64 l[i] 1023 = n at *
      have hwn : wrap64 (keeps_sum held + n) = keeps_sum held + n := by unfold wrap64; omega
      have hmore : 0 ≤ ev_more q4 ∧ ev_more q4 ≤ 4611686018427387904 := by have := hk.few; unfold ev_more; split <;> omega
      by_cases hfits : keeps_sum held + n ≤ B ∧ (held.length : Int) < C
      · rw [hcharge_good n hok ⟨hn0, by omega⟩ (by omega) hfits.2]
        simp only [Option.bind_some]
        rw [hwn, if_pos hfits.1, decide_eq_true hfits.2]
        subst hK
        simp only [fairleadlaw16_QuotaKeeps.j2]
        rw [if_neg (show ¬ ((((0 : Int) == 0) != true) = true) by decide)]
        simp only [if_true]
        rw [if_pos (show held.length < 17592186044416 by omega)]
        simp only [Option.bind_some]
        rw [hwn]
        simp only [if_true]
        rw [if_pos (show (held.length : Int) + 1 = ((held ++ [n]).length : Int) by simp), if_neg (show ¬ (keeps_sum held + n > B) by omega), if_neg (show ¬ (((held ++ [n]).length : Int) > C) by simp; omega), hi1]
        have hs : keeps_sum (held ++ [n]) = keeps_sum held + n := keeps_sum_append held n
        have := ih0 (i + 1) (held ++ [n]) q4 (by omega) (by simp; omega) ⟨?_, by rw [hs]; exact hfits.1, by simp; omega, hk.few⟩
        · rw [hs, show ((held ++ [n]).length : Int) = (held.length : Int) + 1 from by simp] at this
          exact this
        · intro z hz
          rcases List.mem_append.1 hz with h | h
          · exact hk.each z h
          · simp at h; omega
      · rw [hcharge_full n hok ⟨hn0, by omega⟩ (by omega)]
        simp only [Option.bind_some]
        subst hK
        have hrest : fairleadlaw16_QuotaKeeps.j2 (k + 2 * d + 1 + 1) B C l held (keeps_sum held) (i : Int) n 160 false B C (keeps_sum held) (held.length : Int) (ev_more q4) = some true := by
          simp only [fairleadlaw16_QuotaKeeps.j2]
          rw [if_neg (show ¬ ((((160 : Int) == 0) != false) = true) by decide), if_neg (show ¬ (false = true) by decide)]
          simp only [if_true]
          rw [if_neg (show ¬ (keeps_sum held > B) by omega), if_neg (show ¬ ((held.length : Int) > C) by omega), hi1]
          exact ih0 (i + 1) held (ev_more q4) (by omega) (by omega) ⟨hk.each, hk.sum, hk.count, hmore⟩
        rw [hwn]
        by_cases h1 : keeps_sum held + n ≤ B
        · rw [if_pos h1, decide_eq_false (fun h => hfits ⟨h1, h⟩)]
          exact hrest
        · rw [if_neg h1]
          exact hrest

theorem QuotaKeeps : fairleadlaw16_QuotaKeeps.Pure := by
  intro B C l hwB hwC hm hsz hwl
  have hw : ∀ x ∈ l, -9223372036854775808 ≤ x ∧ x ≤ 9223372036854775807 := by
    intro x hx
    have := hwl x hx
    simp [Lit.wf, IntKind.min, IntKind.max, IntKind.signed, IntKind.bits] at this
    exact this
  refine ⟨2 * l.length + 3, ?_⟩
  have hT : ∀ q0 q1 q2 q3 q4, fairleadlaw16_QuotaKeeps.j0 (2 * l.length + 3) B C l true q0 q1 q2 q3 q4 = some true := by
    intro q0 q1 q2 q3 q4
    simp only [fairleadlaw16_QuotaKeeps.j0]
    rw [if_pos trivial]
    rfl
  have z : ev_ok 0 0 0 0 0 := by unfold ev_ok; decide
  unfold fairleadlaw16_QuotaKeeps.f
  by_cases hg : (0 ≤ B ∧ B ≤ 4611686018427387904) ∧ (0 ≤ C ∧ C ≤ 4611686018427387904)
  · rw [ev_Grant_good 0 0 0 0 0 B C z hg.1 hg.2]
    simp only [Option.bind_some]
    rw [if_pos trivial]
    by_cases h1 : (l.length : Int) > 300
    · rw [if_pos h1]; exact hT _ _ _ _ _
    · rw [if_neg h1]
      by_cases h2 : B > 1099511627776
      · rw [decide_eq_true h2]; exact hT _ _ _ _ _
      · rw [decide_eq_false h2]
        show fairleadlaw16_QuotaKeeps.j0 ((2 * l.length + 2) + 1) B C l false B C 0 0 0 = some true
        have := keeps_loop B C l ⟨hg.1.1, by omega⟩ hg.2 (by omega) hw l.length 1 0 [] 0 (by omega) (by simp) ⟨by simp, by simp [keeps_sum]; exact hg.1.1, by simp; exact hg.2.1, by omega⟩
        simp only [fairleadlaw16_QuotaKeeps.j0]
        rw [if_neg (by decide)]
        rw [show 1 + 2 * l.length + 1 = 2 * l.length + 2 from by omega] at this
        exact this
  · rw [ev_Grant_bad 0 0 0 0 0 B C (fun h => hg h.2)]
    simp only [Option.bind_some]
    rw [if_neg (by decide)]
    exact hT _ _ _ _ _

end Go.Proofs.Ythielbjklkhenaa.Pure
