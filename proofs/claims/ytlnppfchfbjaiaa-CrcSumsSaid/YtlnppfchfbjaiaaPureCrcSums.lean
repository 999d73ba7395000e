/- Proves that the sums of bytes are the document's: for every text of bytes and every kind, no condition but the row's own bounds. -/
import Derived.Test.YtlnppfchfbjaiaaEvalCrcSums
namespace Go.Proofs.Ytlnppfchfbjaiaa.Pure
open Go.RowKit Go.Proofs.Ytlnppfchfbjaiaa.PCrcSums Go.Proofs.YtlnppfchfbjaiaaW.PrintWords Go.Proofs.YtlnppfchfbjaiaaW.PrintLast

/-- All ones less a number of that many bits: its bits turned. -/
theorem sums_not (n c : Nat) (h : c < 2 ^ n) : c ^^^ (2 ^ n - 1) = 2 ^ n - 1 - c := by
  apply Nat.eq_of_testBit_eq; intro i
  rw [show 2 ^ n - 1 - c = 2 ^ n - (c + 1) from by omega, Nat.testBit_two_pow_sub_succ h, Nat.testBit_xor, Nat.testBit_two_pow_sub_one]
  by_cases hi : i < n
  · simp [hi]
  · have : c.testBit i = false := Nat.testBit_lt_two_pow (Nat.lt_of_lt_of_le h (Nat.pow_le_pow_right (by decide) (by omega)))
    simp [hi, this]

theorem sums_l1_long (l : List Int) (i : Int) (d : Nat) : ∀ (k c j : Nat), j + d = 8 → c < 4294967296 →
    fairleadref02_Long.l1 (k + d + 1) l (c : Int) i (j : Int) = fairleadref02_Long.l0 k l ((Crc.steps 2197175160 d c : Nat) : Int) (wrap64 (i + 1)) := by
  induction d with
  | zero =>
    intro k c j hj hc
    simp only [fairleadref02_Long.l1, Crc.steps]
    rw [if_neg (by omega)]
  | succ d ih =>
    intro k c j hj hc
    have hlt : Crc.step 2197175160 c < 4294967296 := Crc.step_lt (w := 31) (by decide) hc
    have hdiv : Int.tdiv (c : Int) 2 % 4294967296 = ((c / 2 : Nat) : Int) := by
      rw [show (2 : Int) = ((2 : Nat) : Int) from rfl, ← Int.ofNat_tdiv]; omega
    have hmod : Int.tmod (c : Int) 2 = ((c % 2 : Nat) : Int) := by
      rw [show (2 : Int) = ((2 : Nat) : Int) from rfl, ← Int.ofNat_tmod]
    have hj' : wrap64 ((j : Int) + 1) = ((j + 1 : Nat) : Int) := ev_wrap (by omega)
    rw [show k + (d + 1) + 1 = (k + d + 1) + 1 from by omega]
    simp only [fairleadref02_Long.l1, Crc.steps]
    rw [if_pos (by omega), hj', hdiv, hmod]
    have hx : Go.bits .xor .u32 ((c / 2 : Nat) : Int) 2197175160 = ((c / 2 ^^^ 2197175160 : Nat) : Int) := by
      rw [show (2197175160 : Int) = ((2197175160 : Nat) : Int) from rfl, u32_xor_nat _ _ (by omega) (by decide)]
    rw [hx]
    have he := ev_step_nat 2197175160 c
    by_cases ho : c % 2 = 1
    · rw [if_pos ho] at he
      rw [if_pos (by omega), ← he]
      exact ih k _ _ (by omega) hlt
    · rw [if_neg ho] at he
      rw [if_neg (by omega), ← he]
      exact ih k _ _ (by omega) hlt

theorem sums_l0_long (l : List Int) (hl : ev_bytes l) (hn : l.length < 9223372036854775807) (d : Nat) : ∀ (k i c : Nat), i + d = l.length → c < 4294967296 →
    fairleadref02_Long.l0 (k + 10 * d + 1) l (c : Int) (i : Int) = some ((Crc.sum 2197175160 c ((ev_nums l).drop i) ^^^ 4294967295 : Nat) : Int) := by
  induction d with
  | zero =>
    intro k i c hi hc
    simp only [fairleadref02_Long.l0]
    rw [if_neg (by omega), List.drop_of_length_le (by rw [ev_nums_length]; omega)]
    have := sums_not 32 c hc
    simp only [Crc.sum, List.foldl_nil]
    rw [show (4294967295 : Nat) = 2 ^ 32 - 1 from rfl, this]
    congr 1
    omega
  | succ d ih =>
    intro k i c hi hc
    have hlt : i < l.length := by omega
    have hb := hl l[i] (List.getElem_mem hlt)
    obtain ⟨b, hbe⟩ := Int.eq_ofNat_of_zero_le hb.1
    have hb2 : b < 256 := by omega
    have hx : Go.bits .xor .u32 (c : Int) ((rd l (i : Int)) % 4294967296) = ((c ^^^ b : Nat) : Int) := by
      rw [ev_rd l i hlt, hbe, Int.emod_eq_of_lt (by omega) (by omega), u32_xor_nat _ _ hc (by omega)]
    have hc2 : c ^^^ b < 4294967296 := Nat.xor_lt_two_pow (n := 32) hc (by omega)
    have hdrop : (ev_nums l).drop i = b :: (ev_nums l).drop (i + 1) := by
      rw [List.drop_eq_getElem_cons (by rw [ev_nums_length]; exact hlt)]
      congr 1
      simp [ev_nums, hbe]
    rw [show k + 10 * (d + 1) + 1 = ((k + 10 * d + 1) + 8 + 1) + 1 from by omega]
    simp only [fairleadref02_Long.l0]
    rw [if_pos (by omega), if_pos (by omega), hx]
    have h1 := sums_l1_long l (i : Int) 8 (k + 10 * d + 1) (c ^^^ b) 0 (by omega) hc2
    rw [show ((0 : Nat) : Int) = 0 from rfl] at h1
    rw [h1, ev_wrap (by omega), ih k (i + 1) _ (by omega) (Crc.steps_lt (w := 31) (by decide) hc2), hdrop]
    rfl

theorem sums_Long (l : List Int) (hl : ev_bytes l) (hn : l.length < 9223372036854775807) (k : Nat) (hk : 10 * l.length + 1 ≤ k) :
    fairleadref02_Long.f k l = some ((ev_long (ev_nums l) : Nat) : Int) := by
  obtain ⟨j, rfl⟩ : ∃ j, k = j + 10 * l.length + 1 := ⟨k - (10 * l.length + 1), by omega⟩
  have := sums_l0_long l hl hn l.length j 0 4294967295 (by omega) (by decide)
  unfold fairleadref02_Long.f
  rw [show ((4294967295 : Nat) : Int) = 4294967295 from rfl, show ((0 : Nat) : Int) = 0 from rfl] at this
  rw [this]
  rfl

theorem sums_l1_short (l : List Int) (i : Int) (d : Nat) : ∀ (k c j : Nat), j + d = 8 → c < 65536 →
    fairleadref02_Short.l1 (k + d + 1) l (c : Int) i (j : Int) = fairleadref02_Short.l0 k l ((Crc.steps 33800 d c : Nat) : Int) (wrap64 (i + 1)) := by
  induction d with
  | zero =>
    intro k c j hj hc
    simp only [fairleadref02_Short.l1, Crc.steps]
    rw [if_neg (by omega)]
  | succ d ih =>
    intro k c j hj hc
    have hlt : Crc.step 33800 c < 65536 := Crc.step_lt (w := 15) (by decide) hc
    have hdiv : IntKind.u16.wrap (Int.tdiv (c : Int) 2) = ((c / 2 : Nat) : Int) := by
      rw [show (2 : Int) = ((2 : Nat) : Int) from rfl, ← Int.ofNat_tdiv, ev_wrap16 _ (by omega)]
    have hmod : Int.tmod (c : Int) 2 = ((c % 2 : Nat) : Int) := by
      rw [show (2 : Int) = ((2 : Nat) : Int) from rfl, ← Int.ofNat_tmod]
    have hj' : wrap64 ((j : Int) + 1) = ((j + 1 : Nat) : Int) := ev_wrap (by omega)
    rw [show k + (d + 1) + 1 = (k + d + 1) + 1 from by omega]
    simp only [fairleadref02_Short.l1, Crc.steps]
    rw [if_pos (by omega), hj', hdiv, hmod]
    have hx : Go.bits .xor .u16 ((c / 2 : Nat) : Int) 33800 = ((c / 2 ^^^ 33800 : Nat) : Int) := by
      rw [show (33800 : Int) = ((33800 : Nat) : Int) from rfl, u16_xor_nat _ _ (by omega) (by decide)]
    rw [hx]
    have he := ev_step_nat 33800 c
    by_cases ho : c % 2 = 1
    · rw [if_pos ho] at he
      rw [if_pos (by omega), ← he]
      exact ih k _ _ (by omega) hlt
    · rw [if_neg ho] at he
      rw [if_neg (by omega), ← he]
      exact ih k _ _ (by omega) hlt

theorem sums_l0_short (l : List Int) (hl : ev_bytes l) (hn : l.length < 9223372036854775807) (d : Nat) : ∀ (k i c : Nat), i + d = l.length → c < 65536 →
    fairleadref02_Short.l0 (k + 10 * d + 1) l (c : Int) (i : Int) = some ((Crc.sum 33800 c ((ev_nums l).drop i) ^^^ 65535 : Nat) : Int) := by
  induction d with
  | zero =>
    intro k i c hi hc
    simp only [fairleadref02_Short.l0]
    rw [if_neg (by omega), List.drop_of_length_le (by rw [ev_nums_length]; omega)]
    have := sums_not 16 c hc
    simp only [Crc.sum, List.foldl_nil]
    rw [show (65535 : Nat) = 2 ^ 16 - 1 from rfl, this]
    rw [show (65535 : Int) - (c : Int) = ((2 ^ 16 - 1 - c : Nat) : Int) from by omega, ev_wrap16 _ (by omega)]
  | succ d ih =>
    intro k i c hi hc
    have hlt : i < l.length := by omega
    have hb := hl l[i] (List.getElem_mem hlt)
    obtain ⟨b, hbe⟩ := Int.eq_ofNat_of_zero_le hb.1
    have hb2 : b < 256 := by omega
    have hx : Go.bits .xor .u16 (c : Int) (IntKind.u16.wrap (rd l (i : Int))) = ((c ^^^ b : Nat) : Int) := by
      rw [ev_rd l i hlt, hbe, ev_wrap16 b (by omega), u16_xor_nat _ _ hc (by omega)]
    have hc2 : c ^^^ b < 65536 := Nat.xor_lt_two_pow (n := 16) hc (by omega)
    have hdrop : (ev_nums l).drop i = b :: (ev_nums l).drop (i + 1) := by
      rw [List.drop_eq_getElem_cons (by rw [ev_nums_length]; exact hlt)]
      congr 1
      simp [ev_nums, hbe]
    rw [show k + 10 * (d + 1) + 1 = ((k + 10 * d + 1) + 8 + 1) + 1 from by omega]
    simp only [fairleadref02_Short.l0]
    rw [if_pos (by omega), if_pos (by omega), hx]
    have h1 := sums_l1_short l (i : Int) 8 (k + 10 * d + 1) (c ^^^ b) 0 (by omega) hc2
    rw [show ((0 : Nat) : Int) = 0 from rfl] at h1
    rw [h1, ev_wrap (by omega), ih k (i + 1) _ (by omega) (Crc.steps_lt (w := 15) (by decide) hc2), hdrop]
    rfl

theorem sums_Short (l : List Int) (hl : ev_bytes l) (hn : l.length < 9223372036854775807) (k : Nat) (hk : 10 * l.length + 1 ≤ k) :
    fairleadref02_Short.f k l = some ((ev_short (ev_nums l) : Nat) : Int) := by
  obtain ⟨j, rfl⟩ : ∃ j, k = j + 10 * l.length + 1 := ⟨k - (10 * l.length + 1), by omega⟩
  have := sums_l0_short l hl hn l.length j 0 65535 (by omega) (by decide)
  unfold fairleadref02_Short.f
  rw [show ((65535 : Nat) : Int) = 65535 from rfl, show ((0 : Nat) : Int) = 0 from rfl] at this
  rw [this]
  rfl

theorem CrcSums : fairleadlaw02_CrcSums.Pure := by
  intro l a hm hsz hw ha
  have hb := ev_bytes_of hw
  refine ⟨10 * l.length + 200, ?_⟩
  have hS := ev_Short l hb (by omega) (10 * l.length + 200) (by omega)
  have hL := ev_Long l hb (by omega) (10 * l.length + 200) (by omega)
  have rS := sums_Short l hb (by omega) (10 * l.length + 200) (by omega)
  have rL := sums_Long l hb (by omega) (10 * l.length + 200) (by omega)
  have hB : ∃ r, crc_Bytes.f (10 * l.length + 200) a l = some r ∧ fairleadref02_Bytes.f (10 * l.length + 200) a l = some r := by
    unfold crc_Bytes.f fairleadref02_Bytes.f
    rw [hS, hL, rS, rL]
    simp only [Option.bind_some]
    by_cases h1 : a = 1
    · rw [if_pos h1]; exact ⟨_, rfl, rfl⟩
    · rw [if_neg h1]
      by_cases h2 : a = 2
      · rw [if_pos h2]; exact ⟨_, rfl, rfl⟩
      · rw [if_neg h2]; exact ⟨_, rfl, rfl⟩
  obtain ⟨r, h1, h2⟩ := hB
  unfold fairleadlaw02_CrcSums.f
  rw [hS, hL, rS, rL, h1, h2]
  simp only [Option.bind_some]
  rw [if_pos trivial, if_pos trivial]
  unfold fairleadref01_Same.f
  simp only [Option.bind_some]
  rw [if_pos (by simp), ev_heads _ (by omega)]
  rfl

end Go.Proofs.Ytlnppfchfbjaiaa.Pure
