/- Proves that bits turned within a burst no longer than the sum are told: for every text of bytes, every place and every row of 32 bits, no condition but the row's own bounds. -/
import Derived.Test.YtlnppfchfbjaiaaEvalCrcTells
namespace Go.Proofs.Ytlnppfchfbjaiaa.Pure
open Go.RowKit Go.Proofs.Ytlnppfchfbjaiaa.PCrcTells Go.Proofs.YtlnppfchfbjaiaaW.PrintWords Go.Proofs.YtlnppfchfbjaiaaW.PrintLast Go.Proofs.YtlnppfchfbjaiaaW.PrintMore

/-! a text as a number: one bit turned -/
theorem tells_shl_xor (a b k : Nat) : (a ^^^ b) * 2 ^ k = a * 2 ^ k ^^^ b * 2 ^ k := by
  have := Nat.shiftLeft_xor_distrib (a := a) (b := b) (i := k)
  simpa [Nat.shiftLeft_eq] using this

theorem tells_set (m : List Nat) (hm : ∀ b ∈ m, b < 256) (r : Nat) (hr : r < 8) : ∀ (q : Nat) (hq : q < m.length),
    Crc.num (m.set q (m[q] ^^^ 2 ^ r)) = Crc.num m ^^^ 2 ^ (8 * q + r) := by
  induction m with
  | nil => intro q hq; simp at hq
  | cons b m ih =>
    have hb := hm b (by simp)
    intro q hq
    have hr2 : 2 ^ r < 256 := Nat.pow_lt_pow_right (a := 2) (by decide) hr
    cases q with
    | zero =>
      simp only [List.set_cons_zero, List.getElem_cons_zero, Crc.num, Nat.mul_zero, Nat.zero_add]
      rw [Crc.add_xor _ _ (Nat.xor_lt_two_pow (n := 8) hb hr2), Crc.add_xor b _ hb, Nat.xor_assoc, Nat.xor_comm (2 ^ r), ← Nat.xor_assoc]
    | succ q =>
      simp only [List.set_cons_succ, List.getElem_cons_succ, Crc.num]
      rw [ih (fun x hx => hm x (by simp [hx])) q (by simpa using hq), Crc.add_xor b _ hb, Crc.add_xor b _ hb, tells_shl_xor, ← Nat.xor_assoc, ← Nat.pow_add]
      congr 2
      omega

theorem tells_num_inj (l m : List Nat) (hl : ∀ b ∈ l, b < 256) (hm : ∀ b ∈ m, b < 256) (hn : l.length = m.length) (h : Crc.num l = Crc.num m) : l = m := by
  induction l generalizing m with
  | nil => cases m with
    | nil => rfl
    | cons _ _ => simp at hn
  | cons b l ih => cases m with
    | nil => simp at hn
    | cons c m =>
      have h1 := hl b (by simp)
      have h2 := hm c (by simp)
      simp only [Crc.num] at h
      have e : b = c := by omega
      subst e
      rw [ih m (fun x hx => hl x (by simp [hx])) (fun x hx => hm x (by simp [hx])) (by simpa using hn) (by omega)]

/-- What is turned: the row's lowest bits, as many as there is room for. -/
theorem tells_mod_succ (v i : Nat) : v % 2 ^ (i + 1) = v % 2 ^ i ^^^ (v / 2 ^ i % 2) * 2 ^ i := by
  apply Nat.eq_of_testBit_eq; intro t
  rw [Nat.testBit_xor, Nat.testBit_mod_two_pow, Nat.testBit_mod_two_pow, Nat.testBit_mul_two_pow]
  have e : (v / 2 ^ i % 2).testBit (t - i) = (decide (t - i = 0) && v.testBit i) := by
    rw [show v / 2 ^ i % 2 = v / 2 ^ i % 2 ^ 1 from by simp, Nat.testBit_mod_two_pow, Nat.testBit_div_two_pow]
    by_cases h : t - i = 0
    · simp [h]
    · simp [h]
  rw [e]
  rcases Nat.lt_trichotomy t i with h | h | h
  · simp [h, Nat.lt_succ_of_lt h, Nat.not_le.2 h]
  · subst h; simp
  · have h1 : ¬ t < i := by omega
    have h2 : ¬ t < i + 1 := by omega
    have h3 : ¬ t - i = 0 := by omega
    simp [h1, h2, h3]

/-- Behind i bits: x is l with the row's first i bits turned. -/
structure Turned (l : List Int) (f v i : Nat) (x : List Int) : Prop where
  bytes : ev_bytes x
  len : x.length = l.length
  num : Crc.num (ev_nums x) = Crc.num (ev_nums l) ^^^ (v % 2 ^ min i (8 * l.length - f)) * 2 ^ f

theorem tells_shr (v i : Nat) (hi : i < 32) : shr .u32 (v : Int) (IntKind.u64.wrap (i : Int)) = ((v / 2 ^ i : Nat) : Int) := by
  have e : IntKind.u64.wrap (i : Int) = (i : Int) := by rw [IntKind.wrap_u64]; omega
  unfold shr
  rw [e, Int.toNat_natCast, Nat.min_eq_left (by simp [IntKind.bits]; omega)]
  simp

theorem tells_shl (r : Nat) (hr : r < 8) : shl .u8 1 (IntKind.u64.wrap (r : Int)) = ((2 ^ r : Nat) : Int) := by
  have e : IntKind.u64.wrap (r : Int) = (r : Int) := by rw [IntKind.wrap_u64]; omega
  unfold shl
  rw [e, Int.toNat_natCast, Nat.min_eq_left (by simp [IntKind.bits]; omega)]
  have : r = 0 ∨ r = 1 ∨ r = 2 ∨ r = 3 ∨ r = 4 ∨ r = 5 ∨ r = 6 ∨ r = 7 := by omega
  rcases this with rfl | rfl | rfl | rfl | rfl | rfl | rfl | rfl <;> decide

theorem tells_div8 (s : Nat) (h : s < 1152921504606846976) : wrap64 (Int.tdiv (s : Int) 8) = ((s / 8 : Nat) : Int) := by
  rw [show (8 : Int) = ((8 : Nat) : Int) from rfl, ← Int.ofNat_tdiv]; unfold wrap64; omega
theorem tells_mod8 (s : Nat) : Int.tmod (s : Int) 8 = ((s % 8 : Nat) : Int) := by
  rw [show (8 : Int) = ((8 : Nat) : Int) from rfl, ← Int.ofNat_tmod]
theorem tells_pos64 (s : Nat) : (0 : Int) ≤ IntKind.u64.wrap (s : Int) := by rw [IntKind.wrap_u64]; omega
theorem tells_two (b : Nat) : ((b % 2 : Nat) : Int) = 1 ↔ b % 2 = 1 := by omega

theorem tells_turned (l : List Int) (hl : l.length ≤ 140737488351232) (f v : Nat) (hf : f < 8 * l.length) (hv : v < 4294967296) (d : Nat) : ∀ (k i : Nat) (x : List Int), i + d = 32 → Turned l f v i x →
    ∃ c, fairleadlaw02_turned.l0 (k + d + 1) (f : Int) (v : Int) x (i : Int) = some c ∧ Turned l f v 32 c := by
  induction d with
  | zero =>
    intro k i x hi hx
    obtain rfl : i = 32 := by omega
    refine ⟨x, ?_, hx⟩
    simp only [fairleadlaw02_turned.l0]
    rw [if_neg (by omega)]
  | succ d ih =>
    intro k i x hi hx
    have hlen := hx.len
    have hw1 : wrap64 ((i : Int) + 1) = ((i + 1 : Nat) : Int) := ev_wrap (by omega)
    have hw2 : wrap64 ((f : Int) + (i : Int)) = ((f + i : Nat) : Int) := by unfold wrap64; omega
    have hw3 : wrap64 (8 * (x.length : Int)) = ((8 * l.length : Nat) : Int) := by unfold wrap64; omega
    have h0 := tells_pos64 i
    have hbit : Go.bits .and .u32 ((v / 2 ^ i : Nat) : Int) 1 = ((v / 2 ^ i % 2 : Nat) : Int) := by
      rw [show (1 : Int) = ((1 : Nat) : Int) from rfl, u32_and_nat _ 1 (Nat.lt_of_le_of_lt (Nat.div_le_self _ _) hv) (by decide), Nat.and_one_is_mod]
    have ihk := ih k
    rw [show k + (d + 1) + 1 = (k + d + 1) + 1 from by omega]
    generalize k + d + 1 = K at ihk ⊢
    simp only [fairleadlaw02_turned.l0]
    rw [if_pos (by omega), if_pos h0, tells_shr v i (by omega), hbit, hw1, hw2, hw3]
    by_cases hb : v / 2 ^ i % 2 = 1
    · rw [if_pos ((tells_two _).2 hb)]
      by_cases hin : f + i < 8 * l.length
      · rw [if_pos (Int.ofNat_lt.2 hin)]
        have hql : (f + i) / 8 < x.length := by omega
        have hrb : (f + i) % 8 < 8 := by omega
        rw [tells_div8 _ (by omega), tells_mod8, if_pos (Int.natCast_nonneg _), if_pos (Int.ofNat_lt.2 hql), if_pos (tells_pos64 _), tells_shl _ hrb, ev_rd x _ hql, Int.toNat_natCast]
        obtain ⟨b, hbe⟩ := Int.eq_ofNat_of_zero_le (hx.bytes x[(f + i) / 8] (List.getElem_mem hql)).1
        have hb2 : b < 256 := by have := hx.bytes x[(f + i) / 8] (List.getElem_mem hql); omega
        have hp2 : 2 ^ ((f + i) % 8) < 256 := Nat.pow_lt_pow_right (a := 2) (by decide) hrb
        rw [hbe, u8_xor_nat _ _ hb2 hp2]
        refine ihk (i + 1) _ (by omega) ⟨?_, by simp [hlen], ?_⟩
        · intro y hy
          rcases List.mem_or_eq_of_mem_set hy with h | h
          · exact hx.bytes y h
          · have := Nat.xor_lt_two_pow (n := 8) hb2 hp2
            omega
        · have hset : ev_nums (x.set ((f + i) / 8) ((b ^^^ 2 ^ ((f + i) % 8) : Nat) : Int)) = (ev_nums x).set ((f + i) / 8) ((ev_nums x)[(f + i) / 8]'(by rw [ev_nums_length]; exact hql) ^^^ 2 ^ ((f + i) % 8)) := by
            simp [ev_nums, List.map_set, hbe]
          rw [hset, tells_set _ (ev_nums_lt hx.bytes) _ hrb, hx.num, show 8 * ((f + i) / 8) + (f + i) % 8 = f + i from by omega]
          rw [Nat.min_eq_left (show i ≤ 8 * l.length - f by omega), Nat.min_eq_left (show i + 1 ≤ 8 * l.length - f by omega), tells_mod_succ v i, hb, tells_shl_xor, ← Nat.xor_assoc, Nat.one_mul, ← Nat.pow_add, Nat.add_comm i f]
      · rw [if_neg (fun e => hin (Int.ofNat_lt.1 e))]
        refine ihk (i + 1) _ (by omega) ⟨hx.bytes, hlen, ?_⟩
        rw [hx.num, Nat.min_eq_right (show 8 * l.length - f ≤ i by omega), Nat.min_eq_right (show 8 * l.length - f ≤ i + 1 by omega)]
    · rw [if_neg (fun e => hb ((tells_two _).1 e))]
      refine ihk (i + 1) _ (by omega) ⟨hx.bytes, hlen, ?_⟩
      rw [hx.num]
      have hz : v / 2 ^ i % 2 = 0 := (Nat.mod_two_eq_zero_or_one _).resolve_right hb
      have hms := tells_mod_succ v i
      rw [hz, Nat.zero_mul, Nat.xor_zero] at hms
      by_cases hin : i + 1 ≤ 8 * l.length - f
      · rw [Nat.min_eq_left (show i ≤ 8 * l.length - f by omega), Nat.min_eq_left hin, hms]
      · rw [Nat.min_eq_right (show 8 * l.length - f ≤ i by omega), Nat.min_eq_right (show 8 * l.length - f ≤ i + 1 by omega)]

/-- Turned bits of at most w + 1: another sum, or the same text. -/
theorem tells_sum (p c w : Nat) (hp : 2 ^ w ≤ p) (hp' : p < 2 ^ (w + 1)) (l x : List Int) (f v : Nat) (hf : f < 8 * l.length) (hv : v < 2 ^ (w + 1)) (hb : ev_bytes l) (hx : Turned l f v 32 x)
    (h : Crc.sum p c (ev_nums l) = Crc.sum p c (ev_nums x)) : l = x := by
  have hlen := hx.len
  have e1 : ev_nums l = ev_nums x := by
    refine tells_num_inj _ _ (ev_nums_lt hb) (ev_nums_lt hx.bytes) (by rw [ev_nums_length, ev_nums_length, hlen]) ?_
    rw [hx.num]
    generalize hW : v % 2 ^ min 32 (8 * l.length - f) = W
    have hWlt : W < 2 ^ (w + 1) := by rw [← hW]; exact Nat.lt_of_le_of_lt (Nat.mod_le _ _) hv
    rw [Crc.sum_num p _ (ev_nums_lt hb), Crc.sum_num p _ (ev_nums_lt hx.bytes), ev_nums_length, ev_nums_length, hlen, hx.num, hW, ← Nat.xor_assoc, Crc.steps_xor p _ (c ^^^ Crc.num (ev_nums l))] at h
    have hz : Crc.steps p (8 * l.length) (W * 2 ^ f) = 0 := by
      have e := congrArg (fun t => Crc.steps p (8 * l.length) (c ^^^ Crc.num (ev_nums l)) ^^^ t) h
      simp only [Nat.xor_self, ← Nat.xor_assoc] at e
      rw [Nat.zero_xor] at e
      exact e.symm
    rw [show 8 * l.length = f + (8 * l.length - f) from by omega, Crc.steps_add, Crc.steps_shl] at hz
    have hW0 : W = 0 := by
      rcases Nat.eq_zero_or_pos W with h0 | h0
      · exact h0
      · exact absurd hz (Crc.steps_ne hp hp' hWlt (by omega))
    rw [hW0, Nat.zero_mul, Nat.xor_zero]
  have back : ∀ (z : List Int), ev_bytes z → z = (ev_nums z).map (fun n : Nat => (n : Int)) := by
    intro z hz
    simp only [ev_nums, List.map_map]
    conv => lhs; rw [← List.map_id z]
    apply List.map_congr_left
    intro y hy
    have := hz y hy
    simp only [Function.comp_apply, id]
    omega
  rw [back l hb, back x hx.bytes, e1]

theorem tells_same (l : List Int) : fairleadref01_Same.f l l = some true := by
  unfold fairleadref01_Same.f; simp

theorem tells_start (l : List Int) (f v : Nat) (hb : ev_bytes l) : Turned l f v 0 l := ⟨hb, rfl, by simp [Nat.mod_one]⟩

theorem tells_turned_f (l : List Int) (hb : ev_bytes l) (hl : l.length ≤ 140737488351232) (f v : Nat) (hf : f < 8 * l.length) (hv : v < 4294967296) (k : Nat) (hk : 33 ≤ k) :
    ∃ c, fairleadlaw02_turned.f k l (f : Int) (v : Int) = some c ∧ Turned l f v 32 c := by
  obtain ⟨j, rfl⟩ : ∃ j, k = j + 32 + 1 := ⟨k - 33, by omega⟩
  have := tells_turned l hl f v hf hv 32 j 0 l (by omega) (tells_start l f v hb)
  unfold fairleadlaw02_turned.f
  simp only [Option.bind_some, List.nil_append]
  rw [if_pos (by simp; omega)]
  exact this

theorem tells_xor_ne (a b o : Nat) (h : a ≠ b) : a ^^^ o ≠ b ^^^ o := by
  intro e
  have e2 := congrArg (fun t => t ^^^ o) e
  simp only [Nat.xor_assoc, Nat.xor_self, Nat.xor_zero] at e2
  exact h e2

theorem CrcTells : fairleadlaw02_CrcTells.Pure := by
  intro l a1 a2 hm hsz hw ha1 ha2
  have hb := ev_bytes_of hw
  have b2 : 0 ≤ a2 ∧ a2 ≤ 4294967295 := by
    simp [Lit.wf, IntKind.min, IntKind.max, IntKind.signed, IntKind.bits] at ha2; omega
  refine ⟨10 * l.length + 203, ?_⟩
  have hj : fairleadlaw02_CrcTells.j0 (10 * l.length + 203) l a1 a2 true = some true := by
    simp only [fairleadlaw02_CrcTells.j0]
    rw [if_pos trivial, ev_heads _ (by omega)]
    rfl
  have h8 : wrap64 (8 * (l.length : Int)) = ((8 * l.length : Nat) : Int) := by unfold wrap64; omega
  unfold fairleadlaw02_CrcTells.f
  by_cases c1 : a1 < 0
  · rw [if_pos c1]; exact hj
  rw [if_neg c1]
  by_cases c2 : a1 ≥ wrap64 (8 * (l.length : Int))
  · rw [if_pos c2]; exact hj
  rw [if_neg c2]
  by_cases c3 : a2 = 0
  · rw [show (a2 == 0) = true from by simp [c3]]; exact hj
  rw [show (a2 == 0) = false from by simp [c3]]
  rw [h8] at c2
  obtain ⟨f, rfl⟩ := Int.eq_ofNat_of_zero_le (show 0 ≤ a1 by omega)
  obtain ⟨v, rfl⟩ := Int.eq_ofNat_of_zero_le b2.1
  have hf : f < 8 * l.length := by omega
  have hv : v < 4294967296 := by omega
  have hand : Go.bits .and .u32 (v : Int) 65535 = ((v &&& 65535 : Nat) : Int) := by
    rw [show (65535 : Int) = ((65535 : Nat) : Int) from rfl, u32_and_nat _ _ hv (by decide)]
  have hv2 : v &&& 65535 < 65536 := Nat.lt_of_le_of_lt Nat.and_le_right (by decide)
  obtain ⟨c, hc, tc⟩ := tells_turned_f l hb (by omega) f v hf hv (10 * l.length + 202) (by omega)
  obtain ⟨x, hx, tx⟩ := tells_turned_f l hb (by omega) f (v &&& 65535) hf (by omega) (10 * l.length + 202) (by omega)
  have hlc := tc.len
  have hlx := tx.len
  -- the sum of 16 bits
  have hj1 : fairleadlaw02_CrcTells.j1 (10 * l.length + 202) l x true = some true := by
    simp only [fairleadlaw02_CrcTells.j1]
    by_cases e : l = x
    · rw [← e, tells_same]
      simp only [Option.bind_some]
      rw [if_pos trivial, if_pos trivial, ev_heads _ (by omega)]
      rfl
    · rw [ev_Short l hb (by omega) _ (by omega), ev_Short x tx.bytes (by omega) _ (by omega)]
      have hne : ev_short (ev_nums l) ≠ ev_short (ev_nums x) := by
        unfold ev_short
        exact tells_xor_ne _ _ _ (fun h => e (tells_sum 33800 65535 15 (by decide) (by decide) l x f _ hf hv2 hb tx h))
      unfold fairleadref01_Same.f
      simp only [Option.bind_some]
      split
      · rw [if_pos trivial, ev_heads _ (by omega)]
        rfl
      · rw [if_pos trivial, if_neg (by omega), ev_heads _ (by omega)]
        rfl
  show fairleadlaw02_CrcTells.j0 ((10 * l.length + 202) + 1) l (f : Int) (v : Int) false = some true
  simp only [fairleadlaw02_CrcTells.j0]
  rw [if_neg (by decide), hc, hand, hx]
  simp only [Option.bind_some]
  by_cases e : l = c
  · rw [← e, tells_same]
    simp only [Option.bind_some]
    rw [if_pos trivial]
    exact hj1
  · rw [ev_Long l hb (by omega) _ (by omega), ev_Long c tc.bytes (by omega) _ (by omega)]
    have hne : ev_long (ev_nums l) ≠ ev_long (ev_nums c) := by
      unfold ev_long
      exact tells_xor_ne _ _ _ (fun h => e (tells_sum 2197175160 4294967295 31 (by decide) (by decide) l c f _ hf hv hb tc h))
    unfold fairleadref01_Same.f
    simp only [Option.bind_some]
    split
    · exact hj1
    · rw [show (((ev_long (ev_nums l) : Nat) : Int) != ((ev_long (ev_nums c) : Nat) : Int)) = true from by rw [bne_iff_ne]; omega]
      exact hj1

end Go.Proofs.Ytlnppfchfbjaiaa.Pure
