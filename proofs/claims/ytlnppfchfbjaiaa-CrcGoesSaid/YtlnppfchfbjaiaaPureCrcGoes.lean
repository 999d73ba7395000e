/- Proves that bytes with their own sum behind them, lowest byte first, have one and the same sum: for every text of bytes, no condition but the row's own bounds. -/
import Derived.Test.YtlnppfchfbjaiaaEvalCrcGoes
namespace Go.Proofs.Ytlnppfchfbjaiaa.Pure
open Go.RowKit Go.Proofs.Ytlnppfchfbjaiaa.PCrcGoes Go.Proofs.YtlnppfchfbjaiaaW.PrintWords Go.Proofs.YtlnppfchfbjaiaaW.PrintLast

theorem goes_app (p c : Nat) (l m : List Nat) : Crc.sum p c (l ++ m) = Crc.sum p (Crc.sum p c l) m := by
  simp [Crc.sum]

theorem goes_num4 (s : Nat) (hs : s < 4294967296) : Crc.num [s % 256, s / 256 % 256, s / 65536 % 256, s / 16777216 % 256] = s := by
  simp only [Crc.num]; omega
theorem goes_num2 (s : Nat) (hs : s < 65536) : Crc.num [s % 256, s / 256 % 256] = s := by
  simp only [Crc.num]; omega

theorem goes_sum_lt (p w : Nat) (hp : p < 2 ^ (w + 1)) (hw : 8 ≤ w + 1) (l : List Nat) (hl : ∀ b ∈ l, b < 256) (c : Nat) (hc : c < 2 ^ (w + 1)) : Crc.sum p c l < 2 ^ (w + 1) := by
  induction l generalizing c with
  | nil => exact hc
  | cons b l ih =>
    refine ih (fun x hx => hl x (by simp [hx])) _ ?_
    refine Crc.steps_lt hp (Nat.xor_lt_two_pow hc ?_)
    exact Nat.lt_of_lt_of_le (show b < 2 ^ 8 from hl b (by simp)) (Nat.pow_le_pow_right (by decide) hw)

theorem goes_long (l : List Nat) (hl : ∀ b ∈ l, b < 256) :
    ev_long (l ++ [ev_long l % 256, ev_long l / 256 % 256, ev_long l / 65536 % 256, ev_long l / 16777216 % 256]) = 1214729159 := by
  have hs : Crc.sum 2197175160 4294967295 l < 2 ^ 32 := goes_sum_lt _ 31 (by decide) (by decide) l hl _ (by decide)
  have h1 : ev_long l < 2 ^ 32 := Nat.xor_lt_two_pow hs (by decide)
  unfold ev_long at h1 ⊢
  rw [goes_app]
  generalize hr : Crc.sum 2197175160 4294967295 l = r at *
  rw [Crc.sum_num _ _ (by intro b hb; simp only [List.mem_cons, List.not_mem_nil, or_false] at hb; omega), goes_num4 _ h1]
  rw [← Nat.xor_assoc, Nat.xor_self, Nat.zero_xor]
  simp only [List.length_cons, List.length_nil]
  decide +kernel

theorem goes_short (l : List Nat) (hl : ∀ b ∈ l, b < 256) :
    ev_short (l ++ [ev_short l % 256, ev_short l / 256 % 256]) = 3911 := by
  have hs : Crc.sum 33800 65535 l < 2 ^ 16 := goes_sum_lt _ 15 (by decide) (by decide) l hl _ (by decide)
  have h1 : ev_short l < 2 ^ 16 := Nat.xor_lt_two_pow hs (by decide)
  unfold ev_short at h1 ⊢
  rw [goes_app]
  generalize hr : Crc.sum 33800 65535 l = r at *
  rw [Crc.sum_num _ _ (by intro b hb; simp only [List.mem_cons, List.not_mem_nil, or_false] at hb; omega), goes_num2 _ h1]
  rw [← Nat.xor_assoc, Nat.xor_self, Nat.zero_xor]
  simp only [List.length_cons, List.length_nil]
  decide +kernel

theorem goes_bytes_append {l m : List Int} (hl : ev_bytes l) (hm : ev_bytes m) : ev_bytes (l ++ m) := by
  intro x hx
  rcases List.mem_append.1 hx with h | h
  · exact hl x h
  · exact hm x h

theorem CrcGoes : fairleadlaw02_CrcGoes.Pure := by
  intro l hm hsz hw
  have hb := ev_bytes_of hw
  have hn := ev_nums_lt hb
  refine ⟨10 * l.length + 200, ?_⟩
  have hS := ev_Short l hb (by omega) (10 * l.length + 200) (by omega)
  have hL := ev_Long l hb (by omega) (10 * l.length + 200) (by omega)
  have b2 : ev_bytes (([] ++ l) ++ [((ev_short (ev_nums l) : Nat) : Int) % 256, ((ev_short (ev_nums l) : Nat) : Int) / 256 % 256]) := by
    refine goes_bytes_append hb ?_
    intro x hx
    simp only [List.mem_cons, List.not_mem_nil, or_false] at hx
    omega
  have b4 : ev_bytes (([] ++ l) ++ [((ev_long (ev_nums l) : Nat) : Int) % 256, ((ev_long (ev_nums l) : Nat) : Int) / 256 % 256, ((ev_long (ev_nums l) : Nat) : Int) / 65536 % 256, ((ev_long (ev_nums l) : Nat) : Int) / 16777216 % 256]) := by
    refine goes_bytes_append hb ?_
    intro x hx
    simp only [List.mem_cons, List.not_mem_nil, or_false] at hx
    omega
  have hS2 := ev_Short _ b2 (by simp; omega) (10 * l.length + 200) (by simp; omega)
  have hL2 := ev_Long _ b4 (by simp; omega) (10 * l.length + 200) (by simp; omega)
  have e2 : ev_short (ev_nums (([] ++ l) ++ [((ev_short (ev_nums l) : Nat) : Int) % 256, ((ev_short (ev_nums l) : Nat) : Int) / 256 % 256])) = 3911 := by
    have := goes_short (ev_nums l) hn
    rw [← this]
    congr 1
    simp only [ev_nums, List.nil_append, List.map_append, List.map_cons, List.map_nil]
    congr 1
  have e4 : ev_long (ev_nums (([] ++ l) ++ [((ev_long (ev_nums l) : Nat) : Int) % 256, ((ev_long (ev_nums l) : Nat) : Int) / 256 % 256, ((ev_long (ev_nums l) : Nat) : Int) / 65536 % 256, ((ev_long (ev_nums l) : Nat) : Int) / 16777216 % 256])) = 1214729159 := by
    have := goes_long (ev_nums l) hn
    rw [← this]
    congr 1
    simp only [ev_nums, List.nil_append, List.map_append, List.map_cons, List.map_nil]
    congr 1
  rw [e2] at hS2
  rw [e4] at hL2
  unfold fairleadlaw02_CrcGoes.f
  rw [hS]; simp only [Option.bind_some]
  rw [hL]; simp only [Option.bind_some]
  rw [if_pos (by simp; omega), if_pos (by simp; omega), if_pos (by simp; omega), if_pos (by simp; omega)]
  rw [hS2]; simp only [Option.bind_some]
  rw [if_pos (by decide), hL2]; simp only [Option.bind_some]
  rw [if_pos (by decide), ev_heads _ (by omega)]
  rfl

end Go.Proofs.Ytlnppfchfbjaiaa.Pure
