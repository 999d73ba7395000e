/- What the two sums come to, on every text of bytes: the plain register's, turned; what comes at any rate is so. -/
import Derived.Test.YtlnppfchfbjaiaaPCrcAddsx2
import Derived.Test.YtlnppfchfbjaiaaPlain
import Derived.Laws.BitsAllLaws
namespace Go.Proofs.Ytlnppfchfbjaiaa.PCrcAdds
open Go.RowKit Go.Proofs.YtlnppfchfbjaiaaW.PrintWords Go.Proofs.YtlnppfchfbjaiaaW.PrintLast

theorem ev_step_nat (p c : Nat) : Crc.step p c = (if c % 2 = 1 then c / 2 ^^^ p else c / 2) := by
  unfold Crc.step; split <;> simp

theorem ev_rd (l : List Int) (i : Nat) (hi : i < l.length) : rd l (i : Int) = l[i] := by
  unfold rd; rw [Int.toNat_natCast, List.getD_eq_getElem?_getD, List.getElem?_eq_getElem hi]; rfl

/-- The numbers of a text of bytes. -/
def ev_nums (l : List Int) : List Nat := l.map Int.toNat
theorem ev_nums_length (l : List Int) : (ev_nums l).length = l.length := by simp [ev_nums]
def ev_bytes (l : List Int) : Prop := ∀ x ∈ l, 0 ≤ x ∧ x < 256
theorem ev_bytes_of {l : List Int} (h : ∀ x ∈ l, (Lit.int .u8 x).wf = true) : ev_bytes l := by
  intro x hx
  have := h x hx
  simp [Lit.wf, IntKind.min, IntKind.max, IntKind.signed, IntKind.bits] at this
  omega

theorem ev_nums_lt {l : List Int} (h : ev_bytes l) : ∀ b ∈ ev_nums l, b < 256 := by
  intro b hb
  simp only [ev_nums, List.mem_map] at hb
  obtain ⟨x, hx, rfl⟩ := hb
  have := h x hx
  omega

theorem ev_wrap {i : Nat} (h : i < 9223372036854775807) : wrap64 ((i : Int) + 1) = ((i + 1 : Nat) : Int) := by
  unfold wrap64; omega

/-! the sum of 32 bits -/
theorem ev_l1_long (l : List Int) (i : Int) (n A : Int) (d : Nat) : ∀ (k c j : Nat), j + d = 8 → c < 4294967296 →
    crc_sum_uint32.l1 (k + d + 1) 2197175160 A (c : Int) l n i (j : Int) = crc_sum_uint32.l0 k 2197175160 A ((Crc.steps 2197175160 d c : Nat) : Int) l n (wrap64 (i + 1)) := by
  induction d with
  | zero =>
    intro k c j hj hc
    simp only [crc_sum_uint32.l1, Crc.steps]
    rw [if_neg (by omega)]
  | succ d ih =>
    intro k c j hj hc
    have hlt : Crc.step 2197175160 c < 4294967296 := Crc.step_lt (w := 31) (by decide) hc
    have hdiv : ((c : Int) / 2) = ((c / 2 : Nat) : Int) := by omega
    have hj' : wrap64 ((j : Int) + 1) = ((j + 1 : Nat) : Int) := ev_wrap (by omega)
    rw [show k + (d + 1) + 1 = (k + d + 1) + 1 from by omega]
    simp only [crc_sum_uint32.l1, Crc.steps]
    rw [if_pos (by omega), hj', hdiv]
    have ha : Go.bits .and .u32 (c : Int) 1 = ((c % 2 : Nat) : Int) := by
      rw [show (1 : Int) = ((1 : Nat) : Int) from rfl, u32_and_nat c 1 hc (by decide), Nat.and_one_is_mod]
    have hx : Go.bits .xor .u32 ((c / 2 : Nat) : Int) 2197175160 = ((c / 2 ^^^ 2197175160 : Nat) : Int) := by
      rw [show (2197175160 : Int) = ((2197175160 : Nat) : Int) from rfl, u32_xor_nat _ _ (by omega) (by decide)]
    rw [ha, hx]
    have he := ev_step_nat 2197175160 c
    by_cases ho : c % 2 = 1
    · rw [if_pos ho] at he
      rw [if_pos (by omega), ← he]
      exact ih k _ _ (by omega) hlt
    · rw [if_neg ho] at he
      rw [if_neg (by omega), ← he]
      exact ih k _ _ (by omega) hlt

theorem ev_l0_long (l : List Int) (hl : ev_bytes l) (hn : l.length < 9223372036854775807) (d : Nat) : ∀ (k i c : Nat), i + d = l.length → c < 4294967296 →
    crc_sum_uint32.l0 (k + 10 * d + 1) 2197175160 4294967295 (c : Int) l (l.length : Int) (i : Int) = some ((Crc.sum 2197175160 c ((ev_nums l).drop i) ^^^ 4294967295 : Nat) : Int) := by
  induction d with
  | zero =>
    intro k i c hi hc
    simp only [crc_sum_uint32.l0]
    rw [if_neg (by omega), List.drop_of_length_le (by rw [ev_nums_length]; omega)]
    rw [show (4294967295 : Int) = ((4294967295 : Nat) : Int) from rfl, u32_xor_nat _ _ hc (by decide)]
    rfl
  | succ d ih =>
    intro k i c hi hc
    have hlt : i < l.length := by omega
    have hb := hl l[i] (List.getElem_mem hlt)
    obtain ⟨b, hbe⟩ := Int.eq_ofNat_of_zero_le hb.1
    have hb2 : b < 256 := by omega
    have hx : Go.bits .xor .u32 (c : Int) ((rd l (i : Int)) % 4294967296) = ((c ^^^ b : Nat) : Int) := by
      rw [ev_rd l i hlt, hbe, Int.emod_eq_of_lt (by omega) (by omega), u32_xor_nat _ _ hc (by omega)]
    have hc2 : c ^^^ b < 4294967296 := Nat.xor_lt_two_pow (n := 32) hc (by omega)
    have hdrop : (ev_nums l).drop i = b :: (ev_nums l).drop (i + 1) := by
      rw [List.drop_eq_getElem_cons (by rw [ev_nums_length]; exact hlt)]
      congr 1
      simp [ev_nums, hbe]
    rw [show k + 10 * (d + 1) + 1 = ((k + 10 * d + 1) + 8 + 1) + 1 from by omega]
    simp only [crc_sum_uint32.l0]
    rw [if_pos (by omega), if_pos (by omega), if_pos (by omega), hx]
    have h1 := ev_l1_long l (i : Int) (l.length : Int) 4294967295 8 (k + 10 * d + 1) (c ^^^ b) 0 (by omega) hc2
    rw [show ((0 : Nat) : Int) = 0 from rfl] at h1
    rw [h1, ev_wrap (by omega), ih k (i + 1) _ (by omega) (Crc.steps_lt (w := 31) (by decide) hc2), hdrop]
    rfl

/-- The sum of 32 bits, plainly. -/
def ev_long (m : List Nat) : Nat := Crc.sum 2197175160 4294967295 m ^^^ 4294967295
theorem ev_ones32 : Go.bits .xor .u32 4294967295 0 = 4294967295 := by
  have := u32_xor_nat 4294967295 0 (by decide) (by decide)
  simpa using this
theorem ev_Long (l : List Int) (hl : ev_bytes l) (hn : l.length < 9223372036854775807) (k : Nat) (hk : 10 * l.length + 1 ≤ k) :
    crc_Long.f k l = some ((ev_long (ev_nums l) : Nat) : Int) := by
  obtain ⟨j, rfl⟩ : ∃ j, k = j + 10 * l.length + 1 := ⟨k - (10 * l.length + 1), by omega⟩
  have := ev_l0_long l hl hn l.length j 0 4294967295 (by omega) (by decide)
  unfold crc_Long.f crc_sum_uint32.f
  rw [ev_ones32]
  rw [show ((4294967295 : Nat) : Int) = 4294967295 from rfl, show ((0 : Nat) : Int) = 0 from rfl] at this
  rw [this]
  rfl

/-! the sum of 16 bits -/
theorem ev_l1_short (l : List Int) (i : Int) (n A : Int) (d : Nat) : ∀ (k c j : Nat), j + d = 8 → c < 65536 →
    crc_sum_uint16.l1 (k + d + 1) 33800 A (c : Int) l n i (j : Int) = crc_sum_uint16.l0 k 33800 A ((Crc.steps 33800 d c : Nat) : Int) l n (wrap64 (i + 1)) := by
  induction d with
  | zero =>
    intro k c j hj hc
    simp only [crc_sum_uint16.l1, Crc.steps]
    rw [if_neg (by omega)]
  | succ d ih =>
    intro k c j hj hc
    have hlt : Crc.step 33800 c < 65536 := Crc.step_lt (w := 15) (by decide) hc
    have hdiv : ((c : Int) / 2) = ((c / 2 : Nat) : Int) := by omega
    have hj' : wrap64 ((j : Int) + 1) = ((j + 1 : Nat) : Int) := ev_wrap (by omega)
    rw [show k + (d + 1) + 1 = (k + d + 1) + 1 from by omega]
    simp only [crc_sum_uint16.l1, Crc.steps]
    rw [if_pos (by omega), hj', hdiv]
    have ha : Go.bits .and .u16 (c : Int) 1 = ((c % 2 : Nat) : Int) := by
      rw [show (1 : Int) = ((1 : Nat) : Int) from rfl, u16_and_nat c 1 hc (by decide), Nat.and_one_is_mod]
    have hx : Go.bits .xor .u16 ((c / 2 : Nat) : Int) 33800 = ((c / 2 ^^^ 33800 : Nat) : Int) := by
      rw [show (33800 : Int) = ((33800 : Nat) : Int) from rfl, u16_xor_nat _ _ (by omega) (by decide)]
    rw [ha, hx]
    have he := ev_step_nat 33800 c
    by_cases ho : c % 2 = 1
    · rw [if_pos ho] at he
      rw [if_pos (by omega), ← he]
      exact ih k _ _ (by omega) hlt
    · rw [if_neg ho] at he
      rw [if_neg (by omega), ← he]
      exact ih k _ _ (by omega) hlt

theorem ev_wrap16 (b : Nat) (h : b < 65536) : IntKind.u16.wrap (b : Int) = (b : Int) := by
  rw [IntKind.wrap_u16]; omega

theorem ev_l0_short (l : List Int) (hl : ev_bytes l) (hn : l.length < 9223372036854775807) (d : Nat) : ∀ (k i c : Nat), i + d = l.length → c < 65536 →
    crc_sum_uint16.l0 (k + 10 * d + 1) 33800 65535 (c : Int) l (l.length : Int) (i : Int) = some ((Crc.sum 33800 c ((ev_nums l).drop i) ^^^ 65535 : Nat) : Int) := by
  induction d with
  | zero =>
    intro k i c hi hc
    simp only [crc_sum_uint16.l0]
    rw [if_neg (by omega), List.drop_of_length_le (by rw [ev_nums_length]; omega)]
    rw [show (65535 : Int) = ((65535 : Nat) : Int) from rfl, u16_xor_nat _ _ hc (by decide)]
    rfl
  | succ d ih =>
    intro k i c hi hc
    have hlt : i < l.length := by omega
    have hb := hl l[i] (List.getElem_mem hlt)
    obtain ⟨b, hbe⟩ := Int.eq_ofNat_of_zero_le hb.1
    have hb2 : b < 256 := by omega
    have hx : Go.bits .xor .u16 (c : Int) (IntKind.u16.wrap (rd l (i : Int))) = ((c ^^^ b : Nat) : Int) := by
      rw [ev_rd l i hlt, hbe, ev_wrap16 b (by omega), u16_xor_nat _ _ hc (by omega)]
    have hc2 : c ^^^ b < 65536 := Nat.xor_lt_two_pow (n := 16) hc (by omega)
    have hdrop : (ev_nums l).drop i = b :: (ev_nums l).drop (i + 1) := by
      rw [List.drop_eq_getElem_cons (by rw [ev_nums_length]; exact hlt)]
      congr 1
      simp [ev_nums, hbe]
    rw [show k + 10 * (d + 1) + 1 = ((k + 10 * d + 1) + 8 + 1) + 1 from by omega]
    simp only [crc_sum_uint16.l0]
    rw [if_pos (by omega), if_pos (by omega), if_pos (by omega), hx]
    have h1 := ev_l1_short l (i : Int) (l.length : Int) 65535 8 (k + 10 * d + 1) (c ^^^ b) 0 (by omega) hc2
    rw [show ((0 : Nat) : Int) = 0 from rfl] at h1
    rw [h1, ev_wrap (by omega), ih k (i + 1) _ (by omega) (Crc.steps_lt (w := 15) (by decide) hc2), hdrop]
    rfl

/-- The sum of 16 bits, plainly. -/
def ev_short (m : List Nat) : Nat := Crc.sum 33800 65535 m ^^^ 65535
theorem ev_ones16 : Go.bits .xor .u16 65535 0 = 65535 := by
  have := u16_xor_nat 65535 0 (by decide) (by decide)
  simpa using this
theorem ev_Short (l : List Int) (hl : ev_bytes l) (hn : l.length < 9223372036854775807) (k : Nat) (hk : 10 * l.length + 1 ≤ k) :
    crc_Short.f k l = some ((ev_short (ev_nums l) : Nat) : Int) := by
  obtain ⟨j, rfl⟩ : ∃ j, k = j + 10 * l.length + 1 := ⟨k - (10 * l.length + 1), by omega⟩
  have := ev_l0_short l hl hn l.length j 0 65535 (by omega) (by decide)
  unfold crc_Short.f crc_sum_uint16.f
  rw [ev_ones16]
  rw [show ((65535 : Nat) : Int) = 65535 from rfl, show ((0 : Nat) : Int) = 0 from rfl] at this
  rw [this]
  rfl

/-! what comes at any rate -/
theorem ev_heads_bytes : ev_bytes [49, 50, 51, 52, 53, 54, 55, 56, 57] := by
  intro x hx
  simp at hx
  omega
theorem ev_heads (k : Nat) (hk : 91 ≤ k) : fairleadlaw02_heads.f k = some true := by
  have hs := ev_Short _ ev_heads_bytes (by decide) k hk
  have hl := ev_Long _ ev_heads_bytes (by decide) k hk
  rw [show ev_short (ev_nums [49, 50, 51, 52, 53, 54, 55, 56, 57]) = 36974 from by decide +kernel] at hs
  rw [show ev_long (ev_nums [49, 50, 51, 52, 53, 54, 55, 56, 57]) = 3808858755 from by decide +kernel] at hl
  unfold fairleadlaw02_heads.f
  simp only [Option.bind_some]
  rw [hs]; simp only [Option.bind_some]; rw [if_pos (by decide), hl]; simp only [Option.bind_some]; rw [if_pos (by decide)]
  unfold crc_Bytes.f
  rw [if_pos rfl, hs]; simp only [Option.bind_some]
  rw [if_pos (by simp), if_neg (by decide), if_neg (by decide)]
  simp

end Go.Proofs.Ytlnppfchfbjaiaa.PCrcAdds
