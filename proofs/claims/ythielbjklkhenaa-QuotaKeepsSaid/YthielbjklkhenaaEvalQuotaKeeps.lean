/- What the calls of a quota come to, on every quota and number, right or not. -/
import Derived.Test.YthielbjklkhenaaPQuotaKeepsx4
namespace Go.Proofs.Ythielbjklkhenaa.PQuotaKeeps
open Go.RowKit Go.Proofs.YthielbjklkhenaaW.PrintWords Go.Proofs.YthielbjklkhenaaW.PrintLast

def ev_ok (a0 a1 a2 a3 a4 : Int) : Prop := (0 ≤ a0 ∧ a0 ≤ 4611686018427387904) ∧ (0 ≤ a1 ∧ a1 ≤ 4611686018427387904) ∧ (0 ≤ a2 ∧ a2 ≤ 4611686018427387904) ∧ (0 ≤ a3 ∧ a3 ≤ 4611686018427387904) ∧ (0 ≤ a4 ∧ a4 ≤ 4611686018427387904)
instance ev_ok_dec (a0 a1 a2 a3 a4 : Int) : Decidable (ev_ok a0 a1 a2 a3 a4) := by unfold ev_ok; infer_instance

theorem ev_fixb (a : Int) : quota_fixb a = decide (0 ≤ a ∧ a ≤ 4611686018427387904) := by
  unfold quota_fixb
  rw [Bool.decide_and]

theorem ev_fix (a : Int) : (quota_fix a == a) = decide (0 ≤ a ∧ a ≤ 4611686018427387904) := by
  unfold quota_fix
  rw [ev_fixb]
  by_cases h : 0 ≤ a ∧ a ≤ 4611686018427387904
  · simp [h]
  · rw [if_neg (by simpa using h), decide_eq_false h]
    simp
    omega

theorem ev_Check (a0 a1 a2 a3 a4 : Int) : quota_Check.f a0 a1 a2 a3 a4 = some (decide (ev_ok a0 a1 a2 a3 a4)) := by
  unfold quota_Check.f quota_kept.f ev_ok
  simp only [Option.bind_some, ev_fix]
  congr 1
  rw [Bool.eq_iff_iff]
  simp only [Bool.and_eq_true, decide_eq_true_eq]
  exact decide_eq_true_iff.symm

theorem ev_right (a : Int) : quota_right.f a = some (decide (0 ≤ a ∧ a ≤ 4611686018427387904)) := by
  rw [quota_right_fixb, ev_fixb]

def ev_more (a : Int) : Int := if a < 4611686018427387904 then a + 1 else a
theorem ev_Sum1 (a : Int) (h0 : 0 ≤ a) (h1 : a ≤ 4611686018427387904) : num_Sum.f a 1 = some (ev_more a) := by
  have w1 : mx 0 (mn a 4611686018427387904) = a := by unfold mx mn; repeat' split <;> try omega
  have w2 : mx 0 (mn 1 4611686018427387904) = 1 := by decide
  have w3 : wrap64 (4611686018427387904 - a) = 4611686018427387904 - a := by unfold wrap64; omega
  unfold num_Sum.f num_within.f ev_more
  simp only [Option.bind_some, w1, w2, w3]
  congr 1
  unfold mn
  split <;> split <;> unfold wrap64 <;> omega

theorem ev_Charge_bad (k : Nat) (a0 a1 a2 a3 a4 n : Int) (h : ¬ (ev_ok a0 a1 a2 a3 a4 ∧ 0 ≤ n ∧ n ≤ 4611686018427387904)) :
    quota_Charge.f (k + 1) a0 a1 a2 a3 a4 n = some (a0, a1, a2, a3, a4, 2) := by
  unfold quota_Charge.f
  rw [ev_Check]
  simp only [Option.bind_some]
  by_cases hk : ev_ok a0 a1 a2 a3 a4
  · have hn : ¬ (0 ≤ n ∧ n ≤ 4611686018427387904) := fun e => h ⟨hk, e⟩
    rw [if_pos (by simpa using hk), ev_right, decide_eq_false hn]
    simp only [Option.bind_some, quota_Charge.j0]
    rfl
  · rw [if_neg (by simpa using hk)]
    simp only [quota_Charge.j0]
    rfl

theorem ev_wrap_sub (a b : Int) (ha : 0 ≤ a ∧ a ≤ 4611686018427387904) (hb : 0 ≤ b ∧ b ≤ 4611686018427387904) : wrap64 (a - b) = a - b := by unfold wrap64; omega

theorem ev_Charge_full (k : Nat) (a0 a1 a2 a3 a4 n : Int) (hk : ev_ok a0 a1 a2 a3 a4) (hn : 0 ≤ n ∧ n ≤ 4611686018427387904) (h : a0 - a2 < n ∨ a3 ≥ a1) :
    quota_Charge.f (k + 1) a0 a1 a2 a3 a4 n = some (a0, a1, a2, a3, ev_more a4, 160) := by
  unfold quota_Charge.f
  rw [ev_Check]
  simp only [Option.bind_some]
  rw [if_pos (by simpa using hk), ev_right, decide_eq_true hn]
  obtain ⟨k0, k1, k2, k3, k4⟩ := hk
  simp only [Option.bind_some, quota_Charge.j0, ev_wrap_sub a0 a2 k0 k2, ev_Sum1 a4 k4.1 k4.2]
  rw [if_neg (by decide)]
  by_cases h1 : a0 - a2 < n
  · rw [if_pos h1]
  · rw [if_neg h1, if_pos (by omega)]

theorem ev_Charge_good (k : Nat) (a0 a1 a2 a3 a4 n : Int) (hk : ev_ok a0 a1 a2 a3 a4) (hn : 0 ≤ n ∧ n ≤ 4611686018427387904) (h1 : n ≤ a0 - a2) (h2 : a3 < a1) :
    quota_Charge.f (k + 1) a0 a1 a2 a3 a4 n = some (a0, a1, a2 + n, a3 + 1, a4, 0) := by
  unfold quota_Charge.f
  rw [ev_Check]
  simp only [Option.bind_some]
  rw [if_pos (by simpa using hk), ev_right, decide_eq_true hn]
  obtain ⟨k0, k1, k2, k3, k4⟩ := hk
  simp only [Option.bind_some, quota_Charge.j0, ev_wrap_sub a0 a2 k0 k2]
  rw [if_neg (by decide), if_neg (by omega), if_neg (by omega), show wrap64 (a2 + n) = a2 + n from by unfold wrap64; omega, show wrap64 (a3 + 1) = a3 + 1 from by unfold wrap64; omega]

theorem ev_Release_good (a0 a1 a2 a3 a4 n : Int) (hk : ev_ok a0 a1 a2 a3 a4) (hn : 0 ≤ n ∧ n ≤ 4611686018427387904) (h1 : n ≤ a2) (h2 : a3 ≠ 0) :
    quota_Release.f a0 a1 a2 a3 a4 n = some (a0, a1, a2 - n, a3 - 1, a4, 0) := by
  unfold quota_Release.f
  rw [ev_Check]
  simp only [Option.bind_some]
  rw [if_pos (by simpa using hk), ev_right, decide_eq_true hn]
  obtain ⟨k0, k1, k2, k3, k4⟩ := hk
  simp only [Option.bind_some]
  rw [if_pos trivial, if_neg (by omega), if_neg (by omega), show wrap64 (a2 - n) = a2 - n from by unfold wrap64; omega, show wrap64 (a3 - 1) = a3 - 1 from by unfold wrap64; omega]

theorem ev_Release_bad (a0 a1 a2 a3 a4 n : Int) (h : ¬ (ev_ok a0 a1 a2 a3 a4 ∧ (0 ≤ n ∧ n ≤ 4611686018427387904) ∧ n ≤ a2 ∧ a3 ≠ 0)) :
    quota_Release.f a0 a1 a2 a3 a4 n = some (a0, a1, a2, a3, a4, 2) := by
  unfold quota_Release.f
  rw [ev_Check]
  simp only [Option.bind_some]
  by_cases hk : ev_ok a0 a1 a2 a3 a4
  · rw [if_pos (by simpa using hk), ev_right]
    simp only [Option.bind_some]
    by_cases hn : 0 ≤ n ∧ n ≤ 4611686018427387904
    · rw [if_pos (by simpa using hn)]
      by_cases h1 : a2 < n
      · rw [if_pos h1]
      · rw [if_neg h1]
        by_cases h2 : a3 = 0
        · rw [if_pos h2]
        · exact absurd ⟨hk, hn, by omega, h2⟩ h
    · rw [if_neg (by simpa using hn)]
  · rw [if_neg (by simpa using hk)]

theorem ev_Grant_good (a0 a1 a2 a3 a4 b n : Int) (hk : ev_ok a0 a1 a2 a3 a4) (hb : 0 ≤ b ∧ b ≤ 4611686018427387904) (hn : 0 ≤ n ∧ n ≤ 4611686018427387904) :
    quota_Grant.f a0 a1 a2 a3 a4 b n = some (b, n, a2, a3, a4, 0) := by
  unfold quota_Grant.f
  rw [ev_Check]
  simp only [Option.bind_some]
  rw [if_pos (by simpa using hk), ev_right, ev_right, decide_eq_true hn, decide_eq_true hb]
  simp only [Option.bind_some]
  rw [if_pos trivial, if_pos trivial]

theorem ev_Grant_bad (a0 a1 a2 a3 a4 b n : Int) (h : ¬ (ev_ok a0 a1 a2 a3 a4 ∧ (0 ≤ b ∧ b ≤ 4611686018427387904) ∧ (0 ≤ n ∧ n ≤ 4611686018427387904))) :
    quota_Grant.f a0 a1 a2 a3 a4 b n = some (a0, a1, a2, a3, a4, 2) := by
  unfold quota_Grant.f
  rw [ev_Check]
  simp only [Option.bind_some]
  by_cases hk : ev_ok a0 a1 a2 a3 a4
  · rw [if_pos (by simpa using hk), ev_right]
    simp only [Option.bind_some]
    by_cases hb : 0 ≤ b ∧ b ≤ 4611686018427387904
    · rw [if_pos (by simpa using hb), ev_right]
      simp only [Option.bind_some]
      by_cases hn : 0 ≤ n ∧ n ≤ 4611686018427387904
      · exact absurd ⟨hk, hb, hn⟩ h
      · rw [if_neg (by simpa using hn)]
    · rw [if_neg (by simpa using hb)]
  · rw [if_neg (by simpa using hk)]

def ev_less (a b : Int) : Int := if a ≤ b then 0 else a - b
theorem ev_Less (a b : Int) (ha : 0 ≤ a ∧ a ≤ 4611686018427387904) (hb : 0 ≤ b ∧ b ≤ 4611686018427387904) : num_Less.f a b = some (ev_less a b) := by
  have w1 : mx 0 (mn a 4611686018427387904) = a := by unfold mx mn; repeat' split <;> try omega
  have w2 : mx 0 (mn b 4611686018427387904) = b := by unfold mx mn; repeat' split <;> try omega
  unfold num_Less.f num_within.f ev_less
  simp only [Option.bind_some, w1, w2, ev_wrap_sub a b ha hb]
  congr 1
  unfold mx
  split <;> split <;> omega

theorem ev_Left_good (a0 a1 a2 a3 a4 : Int) (hk : ev_ok a0 a1 a2 a3 a4) : quota_Left.f a0 a1 a2 a3 a4 = some (ev_less a0 a2, ev_less a1 a3) := by
  unfold quota_Left.f
  rw [ev_Check]
  simp only [Option.bind_some]
  rw [if_pos (by simpa using hk)]
  obtain ⟨k0, k1, k2, k3, k4⟩ := hk
  rw [ev_Less a0 a2 k0 k2, ev_Less a1 a3 k1 k3]
  simp only [Option.bind_some]

theorem ev_Left_bad (a0 a1 a2 a3 a4 : Int) (hk : ¬ ev_ok a0 a1 a2 a3 a4) : quota_Left.f a0 a1 a2 a3 a4 = some (0, 0) := by
  unfold quota_Left.f
  rw [ev_Check]
  simp only [Option.bind_some]
  rw [if_neg (by simpa using hk)]

end Go.Proofs.Ythielbjklkhenaa.PQuotaKeeps
