/- Proves that the sums of three texts of one length, and of all three put together by exclusive or, go together: for every three texts of bytes, no condition but the row's own bounds. -/
import Derived.Test.YtlnppfchfbjaiaaEvalCrcAdds
namespace Go.Proofs.Ytlnppfchfbjaiaa.Pure
open Go.RowKit Go.Proofs.Ytlnppfchfbjaiaa.PCrcAdds Go.Proofs.YtlnppfchfbjaiaaW.PrintWords Go.Proofs.YtlnppfchfbjaiaaW.PrintLast Go.Proofs.YtlnppfchfbjaiaaW.PrintMore

/-- Three texts of one length put together, as numbers. -/
theorem adds_num (A : List Nat) : ∀ (B C X : List Nat), B.length = A.length → C.length = A.length → X.length = A.length →
    (∀ b ∈ A, b < 256) → (∀ b ∈ B, b < 256) → (∀ b ∈ C, b < 256) → (∀ j, X.getD j 0 = A.getD j 0 ^^^ B.getD j 0 ^^^ C.getD j 0) →
    Crc.num X = Crc.num A ^^^ Crc.num B ^^^ Crc.num C := by
  induction A with
  | nil =>
    intro B C X hB hC hX _ _ _ _
    cases B <;> cases C <;> cases X <;> simp_all [Crc.num]
  | cons a A ih =>
    intro B C X hB hC hX bA bB bC h
    cases B with
    | nil => simp at hB
    | cons b B => cases C with
      | nil => simp at hC
      | cons c C => cases X with
        | nil => simp at hX
        | cons x X =>
          have h0 : x = a ^^^ b ^^^ c := by simpa using h 0
          have ha := bA a (by simp)
          have hb := bB b (by simp)
          have hc := bC c (by simp)
          have hx : x < 256 := by rw [h0]; exact Nat.xor_lt_two_pow (n := 8) (Nat.xor_lt_two_pow (n := 8) ha hb) hc
          have := ih B C X (by simpa using hB) (by simpa using hC) (by simpa using hX) (fun y hy => bA y (by simp [hy])) (fun y hy => bB y (by simp [hy])) (fun y hy => bC y (by simp [hy]))
            (fun j => by simpa using h (j + 1))
          simp only [Crc.num]
          rw [Crc.add_xor _ _ hx, Crc.add_xor _ _ ha, Crc.add_xor _ _ hb, Crc.add_xor _ _ hc, this, h0]
          have e : ∀ p q r : Nat, (p ^^^ q ^^^ r) * 2 ^ 8 = p * 2 ^ 8 ^^^ q * 2 ^ 8 ^^^ r * 2 ^ 8 := by
            intro p q r
            have h1 := Nat.shiftLeft_xor_distrib (a := p ^^^ q) (b := r) (i := 8)
            have h2 := Nat.shiftLeft_xor_distrib (a := p) (b := q) (i := 8)
            simp only [Nat.shiftLeft_eq] at h1 h2
            rw [h1, h2]
          rw [e]
          apply Nat.eq_of_testBit_eq; intro i
          simp only [Nat.testBit_xor]
          cases a.testBit i <;> cases b.testBit i <;> cases c.testBit i <;> simp

/-- The sum of them. -/
theorem adds_sum (p o n : Nat) (A B C X : List Nat) (hA : A.length = n) (hB : B.length = n) (hC : C.length = n) (hX : X.length = n)
    (bA : ∀ b ∈ A, b < 256) (bB : ∀ b ∈ B, b < 256) (bC : ∀ b ∈ C, b < 256) (bX : ∀ b ∈ X, b < 256) (h : ∀ j, X.getD j 0 = A.getD j 0 ^^^ B.getD j 0 ^^^ C.getD j 0) :
    Crc.sum p o X ^^^ o = (Crc.sum p o A ^^^ o) ^^^ (Crc.sum p o B ^^^ o) ^^^ (Crc.sum p o C ^^^ o) := by
  have hn := adds_num A B C X (by omega) (by omega) (by omega) bA bB bC h
  rw [Crc.sum_num p X bX, Crc.sum_num p A bA, Crc.sum_num p B bB, Crc.sum_num p C bC, hA, hB, hC, hX, hn]
  have e : o ^^^ (Crc.num A ^^^ Crc.num B ^^^ Crc.num C) = (o ^^^ Crc.num A) ^^^ (o ^^^ Crc.num B) ^^^ (o ^^^ Crc.num C) := by
    apply Nat.eq_of_testBit_eq; intro i
    simp only [Nat.testBit_xor]
    cases o.testBit i <;> simp
  rw [e, Crc.steps_xor, Crc.steps_xor]
  generalize Crc.steps p (8 * n) (o ^^^ Crc.num A) = s
  generalize Crc.steps p (8 * n) (o ^^^ Crc.num B) = t
  generalize Crc.steps p (8 * n) (o ^^^ Crc.num C) = u
  apply Nat.eq_of_testBit_eq; intro i
  simp only [Nat.testBit_xor]
  cases o.testBit i <;> cases s.testBit i <;> cases t.testBit i <;> cases u.testBit i <;> rfl

theorem adds_nums_get (l : List Int) (j : Nat) : (ev_nums l).getD j 0 = (l.getD j 0).toNat := by
  simp only [ev_nums, List.getD_eq_getElem?_getD, List.getElem?_map]
  cases l[j]? <;> rfl

theorem adds_rd_nat {l : List Int} (h : ev_bytes l) (i : Nat) : ∃ b : Nat, b < 256 ∧ rd l (i : Int) = (b : Int) ∧ (ev_nums l).getD i 0 = b := by
  unfold rd
  rw [Int.toNat_natCast, adds_nums_get]
  by_cases hi : i < l.length
  · have hg : l.getD i 0 = l[i] := by simp [List.getD_eq_getElem?_getD, List.getElem?_eq_getElem hi]
    have := h l[i] (List.getElem_mem hi)
    refine ⟨l[i].toNat, ?_, ?_, ?_⟩
    · omega
    · rw [hg]; omega
    · rw [hg]
  · refine ⟨0, by decide, ?_, ?_⟩ <;> simp [List.getD_eq_getElem?_getD, List.getElem?_eq_none (Nat.le_of_not_lt hi)]

theorem adds_take_get (l : List Nat) (n j : Nat) (hj : j < n) : (l.take n).getD j 0 = l.getD j 0 := by
  simp only [List.getD_eq_getElem?_getD, List.getElem?_take, hj, if_true]

/-- Behind i rounds: the first i places are put together, the others nought. -/
structure Put (a b c : List Int) (n i : Nat) (x : List Int) : Prop where
  len : x.length = n
  bytes : ev_bytes x
  at_ : ∀ j, j < i → (ev_nums x).getD j 0 = (ev_nums a).getD j 0 ^^^ (ev_nums b).getD j 0 ^^^ (ev_nums c).getD j 0

theorem adds_bytes_take {l : List Int} (h : ev_bytes l) (n : Nat) : ev_bytes (l.take n) := fun x hx => h x (List.mem_of_mem_take hx)
theorem adds_nums_take (l : List Int) (n : Nat) : ev_nums (l.take n) = (ev_nums l).take n := by simp [ev_nums, List.map_take]

/-- Behind the loop. -/
theorem adds_end (a b c x : List Int) (n : Nat) (ha : ev_bytes a) (hb : ev_bytes b) (hc : ev_bytes c) (la : n ≤ a.length) (lb : n ≤ b.length) (lc : n ≤ c.length)
    (sa : a.length ≤ 140737488351232) (p : Put a b c n n x) (k : Nat) (hk : 10 * n + 200 ≤ k) : fairleadlaw02_CrcAdds.l0 (k + 1) a b c (n : Int) x (n : Int) = some true := by
  have hx := p.len
  have hA : (a.take n).length = n := by simp; omega
  have hB : (b.take n).length = n := by simp; omega
  have hC : (c.take n).length = n := by simp; omega
  have h : ∀ j, (ev_nums x).getD j 0 = (ev_nums (a.take n)).getD j 0 ^^^ (ev_nums (b.take n)).getD j 0 ^^^ (ev_nums (c.take n)).getD j 0 := by
    intro j
    by_cases hj : j < n
    · rw [adds_nums_take, adds_nums_take, adds_nums_take, adds_take_get _ _ _ hj, adds_take_get _ _ _ hj, adds_take_get _ _ _ hj]
      exact p.at_ j hj
    · have z : ∀ l : List Int, l.length = n → (ev_nums l).getD j 0 = 0 := by
        intro l hl
        rw [List.getD_eq_getElem?_getD, List.getElem?_eq_none (by rw [ev_nums_length]; omega)]
        rfl
      rw [z _ hx, z _ hA, z _ hB, z _ hC]
      rfl
  have s32 := adds_sum 2197175160 4294967295 n (ev_nums (a.take n)) (ev_nums (b.take n)) (ev_nums (c.take n)) (ev_nums x) (by rw [ev_nums_length, hA]) (by rw [ev_nums_length, hB]) (by rw [ev_nums_length, hC]) (by rw [ev_nums_length, hx])
    (ev_nums_lt (adds_bytes_take ha n)) (ev_nums_lt (adds_bytes_take hb n)) (ev_nums_lt (adds_bytes_take hc n)) (ev_nums_lt p.bytes) h
  have s16 := adds_sum 33800 65535 n (ev_nums (a.take n)) (ev_nums (b.take n)) (ev_nums (c.take n)) (ev_nums x) (by rw [ev_nums_length, hA]) (by rw [ev_nums_length, hB]) (by rw [ev_nums_length, hC]) (by rw [ev_nums_length, hx])
    (ev_nums_lt (adds_bytes_take ha n)) (ev_nums_lt (adds_bytes_take hb n)) (ev_nums_lt (adds_bytes_take hc n)) (ev_nums_lt p.bytes) h
  change ev_long (ev_nums x) = ev_long (ev_nums (a.take n)) ^^^ ev_long (ev_nums (b.take n)) ^^^ ev_long (ev_nums (c.take n)) at s32
  change ev_short (ev_nums x) = ev_short (ev_nums (a.take n)) ^^^ ev_short (ev_nums (b.take n)) ^^^ ev_short (ev_nums (c.take n)) at s16
  have lt32 : ∀ l : List Int, ev_bytes l → ev_long (ev_nums l) < 4294967296 := by
    intro l hl
    have : ∀ (m : List Nat) (q : Nat), (∀ b ∈ m, b < 256) → q < 2 ^ 32 → Crc.sum 2197175160 q m < 2 ^ 32 := by
      intro m
      induction m with
      | nil => intro q _ hq; exact hq
      | cons y m ih =>
        intro q hm hq
        have hy := hm y (by simp)
        exact ih _ (fun z hz => hm z (by simp [hz])) (Crc.steps_lt (w := 31) (by decide) (Nat.xor_lt_two_pow hq (by omega)))
    exact Nat.xor_lt_two_pow (n := 32) (this _ _ (ev_nums_lt hl) (by decide)) (by decide)
  have lt16 : ∀ l : List Int, ev_bytes l → ev_short (ev_nums l) < 65536 := by
    intro l hl
    have : ∀ (m : List Nat) (q : Nat), (∀ b ∈ m, b < 256) → q < 2 ^ 16 → Crc.sum 33800 q m < 2 ^ 16 := by
      intro m
      induction m with
      | nil => intro q _ hq; exact hq
      | cons y m ih =>
        intro q hm hq
        have hy := hm y (by simp)
        exact ih _ (fun z hz => hm z (by simp [hz])) (Crc.steps_lt (w := 15) (by decide) (Nat.xor_lt_two_pow hq (by omega)))
    exact Nat.xor_lt_two_pow (n := 16) (this _ _ (ev_nums_lt hl) (by decide)) (by decide)
  have a32 := lt32 _ (adds_bytes_take ha n)
  have b32 := lt32 _ (adds_bytes_take hb n)
  have c32 := lt32 _ (adds_bytes_take hc n)
  have a16 := lt16 _ (adds_bytes_take ha n)
  have b16 := lt16 _ (adds_bytes_take hb n)
  have c16 := lt16 _ (adds_bytes_take hc n)
  simp only [fairleadlaw02_CrcAdds.l0]
  rw [if_neg (by omega), Int.toNat_natCast, ev_Long x p.bytes (by omega) k (by omega), ev_Long _ (adds_bytes_take ha n) (by omega) k (by omega), ev_Long _ (adds_bytes_take hb n) (by omega) k (by omega), ev_Long _ (adds_bytes_take hc n) (by omega) k (by omega),
    ev_Short x p.bytes (by omega) k (by omega), ev_Short _ (adds_bytes_take ha n) (by omega) k (by omega), ev_Short _ (adds_bytes_take hb n) (by omega) k (by omega), ev_Short _ (adds_bytes_take hc n) (by omega) k (by omega)]
  simp only [Option.bind_some]
  rw [if_pos (Int.natCast_nonneg _), if_pos (Int.ofNat_le.2 la), if_pos (Int.ofNat_le.2 lb), if_pos (Int.ofNat_le.2 lc)]
  rw [u32_xor_nat _ _ a32 b32, u32_xor_nat _ _ (Nat.xor_lt_two_pow (n := 32) a32 b32) c32, u16_xor_nat _ _ a16 b16, u16_xor_nat _ _ (Nat.xor_lt_two_pow (n := 16) a16 b16) c16]
  rw [if_pos (by rw [s32]), if_pos (by rw [s16]), ev_heads _ (by omega)]
  rfl

theorem adds_set_get (m : List Nat) (i j v : Nat) (hi : i < m.length) : (m.set i v).getD j 0 = if j = i then v else m.getD j 0 := by
  simp only [List.getD_eq_getElem?_getD, List.getElem?_set]
  by_cases h : i = j
  · subst h; simp [hi]
  · rw [if_neg h, if_neg (fun e => h e.symm)]

theorem adds_loop (a b c : List Int) (n : Nat) (ha : ev_bytes a) (hb : ev_bytes b) (hc : ev_bytes c) (la : n ≤ a.length) (lb : n ≤ b.length) (lc : n ≤ c.length) (sa : a.length ≤ 140737488351232)
    (d : Nat) : ∀ (k i : Nat) (x : List Int), i + d = n → 10 * n + 200 ≤ k → Put a b c n i x → fairleadlaw02_CrcAdds.l0 (k + d + 1) a b c (n : Int) x (i : Int) = some true := by
  induction d with
  | zero =>
    intro k i x hi hk p
    obtain rfl : i = n := by omega
    exact adds_end a b c x i ha hb hc la lb lc sa p k hk
  | succ d ih =>
    intro k i x hi hk p
    have hx := p.len
    have hin : i < n := by omega
    have hw : wrap64 ((i : Int) + 1) = ((i + 1 : Nat) : Int) := ev_wrap (by omega)
    obtain ⟨u, hu, eu, nu⟩ := adds_rd_nat ha i
    obtain ⟨v, hv, ev, nv⟩ := adds_rd_nat hb i
    obtain ⟨t, ht, et, nt⟩ := adds_rd_nat hc i
    have huv : u ^^^ v < 256 := Nat.xor_lt_two_pow (n := 8) hu hv
    have huvt : u ^^^ v ^^^ t < 256 := Nat.xor_lt_two_pow (n := 8) huv ht
    have ihk := ih k
    rw [show k + (d + 1) + 1 = (k + d + 1) + 1 from by omega]
    generalize k + d + 1 = K at ihk ⊢
    simp only [fairleadlaw02_CrcAdds.l0]
    rw [if_pos (Int.ofNat_lt.2 hin), if_pos (Int.natCast_nonneg _), if_pos (Int.ofNat_lt.2 (by omega)), if_pos (Int.ofNat_lt.2 (by omega)), if_pos (Int.ofNat_lt.2 (by omega)), if_pos (Int.ofNat_lt.2 (by omega)),
      eu, ev, et, u8_xor_nat _ _ hu hv, u8_xor_nat _ _ huv ht, hw, Int.toNat_natCast]
    refine ihk (i + 1) _ (by omega) hk ⟨by simp [hx], ?_, ?_⟩
    · intro y hy
      rcases List.mem_or_eq_of_mem_set hy with h | h
      · exact p.bytes y h
      · omega
    · intro j hj
      have hset : ev_nums (x.set i ((u ^^^ v ^^^ t : Nat) : Int)) = (ev_nums x).set i (u ^^^ v ^^^ t) := by simp [ev_nums, List.map_set]
      rw [hset, adds_set_get _ _ _ _ (by rw [ev_nums_length]; omega)]
      by_cases e : j = i
      · rw [if_pos e, e, nu, nv, nt]
      · rw [if_neg e]; exact p.at_ j (by omega)

theorem CrcAdds : fairleadlaw02_CrcAdds.Pure := by
  intro a b c ma sa wa mb sb wb mc sc wc
  have ha := ev_bytes_of wa
  have hb := ev_bytes_of wb
  have hc := ev_bytes_of wc
  obtain ⟨n, hn, h1, h2, h3⟩ : ∃ n : Nat, mn (mn (a.length : Int) (b.length : Int)) (c.length : Int) = (n : Int) ∧ n ≤ a.length ∧ n ≤ b.length ∧ n ≤ c.length := by
    refine ⟨min (min a.length b.length) c.length, ?_, by omega, by omega, by omega⟩
    unfold mn
    repeat' split
    all_goals omega
  refine ⟨10 * n + 200 + n + 1, ?_⟩
  unfold fairleadlaw02_CrcAdds.f
  rw [hn, if_pos (Int.natCast_nonneg _), Int.toNat_natCast, if_pos (by omega)]
  refine adds_loop a b c n ha hb hc h1 h2 h3 (by omega) n (10 * n + 200) 0 _ (by omega) (by omega) ⟨by simp, ?_, fun j hj => by omega⟩
  intro y hy
  have := (List.mem_replicate.1 hy).2
  omega

end Go.Proofs.Ytlnppfchfbjaiaa.Pure
