/- What digits of 16 come to: read and written. -/
import Derived.Test.YtkicclfokhfeiaaEvalNumBack
import Derived.Laws.BitsAllLaws
namespace Go.Proofs.Ytkicclfokhfeiaa.PNumBack
open Go.RowKit Go.Proofs.YtkicclfokhfeiaaW.PrintWords Go.Proofs.YtkicclfokhfeiaaW.PrintLast

/-- A digit's number. -/
def ev_dg (c : Int) : Option Int := if 48 ≤ c ∧ c ≤ 57 then some (c - 48) else if 97 ≤ c ∧ c ≤ 102 then some (c - 87) else none
theorem ev_dg_range {c d : Int} (h : ev_dg c = some d) : 0 ≤ d ∧ d < 16 := by
  unfold ev_dg at h
  split at h
  · injection h; omega
  · split at h
    · injection h; omega
    · cases h
def ev_told : Option Int → Int × Bool
  | some d => (d, true)
  | none => (0, false)
theorem ev_digit (k : Nat) (c : Int) (hc : 0 ≤ c ∧ c < 256) : num_digit.f (k + 1) c = some (ev_told (ev_dg c)) := by
  unfold num_digit.f ev_dg
  by_cases h1 : 48 ≤ c ∧ c ≤ 57
  · rw [if_pos (by omega), if_pos h1, decide_eq_true h1.2]
    simp only [num_digit.j0, if_true, ev_told]
    congr 2; omega
  · rw [if_neg h1]
    have hj : num_digit.j0 (k + 1) c false = some (ev_told (if 97 ≤ c ∧ c ≤ 102 then some (c - 87) else none)) := by
      simp only [num_digit.j0]
      rw [if_neg (by decide)]
      by_cases h2 : 97 ≤ c ∧ c ≤ 102
      · rw [if_pos (by omega), if_pos (by omega), if_pos h2]
        simp only [ev_told]
        congr 2; omega
      · rw [if_neg h2]
        by_cases h3 : c ≥ 97
        · rw [if_pos h3, if_neg (by omega)]; rfl
        · rw [if_neg h3]; rfl
    by_cases h3 : c ≥ 48
    · rw [if_pos h3, decide_eq_false (by omega)]; exact hj
    · rw [if_neg h3]; exact hj

/-- A row of digits, read two by two. -/
def ev_un : List Int → Option (List Int)
  | c :: d :: l => match ev_dg c, ev_dg d, ev_un l with
    | some a, some b, some r => some ((a * 16 + b) :: r)
    | _, _, _ => none
  | _ => some []

/-- A text's bytes as numbers. -/
def ev_str (s : ByteArray) : List Int := s.data.toList.map fun b => (b.toNat : Int)
theorem ev_str_length (s : ByteArray) : (ev_str s).length = s.size := by unfold ev_str; rw [List.length_map, Array.length_toList]; rfl
theorem ev_bt (s : ByteArray) (i : Nat) (hi : i < s.size) : bt s (i : Int) = (ev_str s)[i]'(by rw [ev_str_length]; exact hi) := by
  unfold bt
  rw [dif_pos (by rw [Int.toNat_natCast]; exact hi)]
  simp [ev_str]
  rfl
theorem ev_bt_range (s : ByteArray) (i : Int) : 0 ≤ bt s i ∧ bt s i < 256 := by have := bt_range s i; omega
theorem ev_drop2 (s : ByteArray) (i : Nat) (hi : 2 * i + 1 < s.size) : (ev_str s).drop (2 * i) = bt s ((2 * i : Nat) : Int) :: bt s ((2 * i + 1 : Nat) : Int) :: (ev_str s).drop (2 * (i + 1)) := by
  rw [ev_bt s (2 * i) (by omega), ev_bt s (2 * i + 1) hi, List.drop_eq_getElem_cons (by rw [ev_str_length]; omega), List.drop_eq_getElem_cons (by rw [ev_str_length]; omega)]
  rw [show 2 * (i + 1) = 2 * i + 1 + 1 from by omega]

theorem ev_or (a b : Int) (ha : 0 ≤ a ∧ a < 16) (hb : 0 ≤ b ∧ b < 16) : Go.bits .or .u8 ((a * 16) % 256) b = a * 16 + b := by
  obtain ⟨m, rfl⟩ := Int.eq_ofNat_of_zero_le ha.1
  obtain ⟨n, rfl⟩ := Int.eq_ofNat_of_zero_le hb.1
  rw [show ((m : Int) * 16) % 256 = ((m * 16 : Nat) : Int) from by omega, u8_or_nat _ _ (by omega) (by omega)]
  have h := Nat.two_pow_add_eq_or_of_lt (i := 4) (show n < 2 ^ 4 by omega) m
  rw [Nat.mul_comm m 16, show (16 : Nat) = 2 ^ 4 from rfl, ← h]
  omega

def ev_all (r : Option (List Int)) (x : List Int) : List Int × Bool :=
  match r with
  | some l => (x ++ l, true)
  | none => ([], false)

theorem ev_Unhex_l0 (s : ByteArray) (hs : s.size ≤ 281474976710656) (h : Nat) (h2 : 2 * h = s.size) (d : Nat) : ∀ (k i : Nat) (x : List Int), i + d = h → x.length ≤ i → i < 140737488355328 - d →
    num_Unhex.l0 (k + d + 2) s x (h : Int) (i : Int) = some (ev_all (ev_un ((ev_str s).drop (2 * i))) x) := by
  induction d with
  | zero =>
    intro k i x hi hx hm
    simp only [num_Unhex.l0]
    rw [if_neg (by omega), List.drop_of_length_le (by rw [ev_str_length]; omega)]
    simp [ev_un, ev_all]
  | succ d ih =>
    intro k i x hi hx hm
    have w1 : wrap64 (2 * (i : Int)) = ((2 * i : Nat) : Int) := by unfold wrap64; omega
    have w2 : wrap64 (((2 * i : Nat) : Int) + 1) = ((2 * i + 1 : Nat) : Int) := by unfold wrap64; omega
    have w3 : wrap64 ((i : Int) + 1) = ((i + 1 : Nat) : Int) := by unfold wrap64; omega
    have ihk := ih k (i + 1)
    rw [show k + (d + 1) + 2 = (k + d + 2) + 1 from by omega]
    have g1 := ev_digit (k + d + 1) (bt s ((2 * i : Nat) : Int)) (ev_bt_range s _)
    have g2 := ev_digit (k + d + 1) (bt s ((2 * i + 1 : Nat) : Int)) (ev_bt_range s _)
    rw [show k + d + 1 + 1 = k + d + 2 from rfl] at g1 g2
    generalize k + d + 2 = K at ihk g1 g2 ⊢
    simp only [num_Unhex.l0]
    rw [if_pos (Int.ofNat_lt.2 (by omega)), w1, if_pos (Int.natCast_nonneg _), if_pos (Int.ofNat_lt.2 (by omega)), w2, g1]
    simp only [Option.bind_some]
    rw [if_pos (Int.natCast_nonneg _), if_pos (Int.ofNat_lt.2 (by omega)), g2, w3, ev_drop2 s i (by omega)]
    simp only [Option.bind_some]
    cases e1 : ev_dg (bt s ((2 * i : Nat) : Int)) with
    | none =>
      simp only [ev_told, ev_un, e1, ev_all]
      rfl
    | some a =>
      simp only [ev_told, if_true]
      cases e2 : ev_dg (bt s ((2 * i + 1 : Nat) : Int)) with
      | none =>
        simp only [ev_un, e1, e2, ev_all]
        rfl
      | some b =>
        simp only [if_true]
        rw [if_pos (show x.length < 140737488355328 by omega), ev_or a b (ev_dg_range e1) (ev_dg_range e2), ihk _ (by omega) (by simp; omega) (by omega)]
        simp only [ev_un, e1, e2]
        cases ev_un ((ev_str s).drop (2 * (i + 1))) with
        | none => rfl
        | some l => simp [ev_all]

theorem ev_and1 (n : Nat) (hn : n ≤ 281474976710656) : Go.bits .and .i64 (n : Int) 1 = ((n % 2 : Nat) : Int) := by
  have h1 : (BitVec.ofInt 64 1).toNat = 2 ^ 1 - 1 := by decide
  have key : (BitVec.ofInt 64 (n : Int) &&& BitVec.ofInt 64 1).toNat = ((n : Int) % ((2 ^ 64 : Nat) : Int)).toNat % 2 ^ 1 := by
    rw [BitVec.toNat_and, BitVec.toNat_ofInt, h1, Nat.and_two_pow_sub_one_eq_mod]
  show IntKind.i64.wrap ((BitVec.ofInt 64 (n : Int) &&& BitVec.ofInt 64 1).toNat : Nat) = _
  rw [key, IntKind.wrap_i64]
  omega

theorem ev_Unhex_odd (s : ByteArray) (hs : s.size ≤ 281474976710656) (h : s.size % 2 = 1) (k : Nat) : num_Unhex.f k s = some ([], false) := by
  unfold num_Unhex.f
  rw [ev_and1 _ hs, if_pos (by omega)]
theorem ev_Unhex_even (s : ByteArray) (hs : s.size ≤ 281474976702464) (h : s.size % 2 = 0) (k : Nat) (hk : s.size + 2 ≤ k) : num_Unhex.f k s = some (ev_all (ev_un (ev_str s)) []) := by
  unfold num_Unhex.f
  rw [ev_and1 _ (by omega), if_neg (by omega)]
  obtain ⟨j, rfl⟩ : ∃ j, k = j + s.size / 2 + 2 := ⟨k - (s.size / 2 + 2), by omega⟩
  have := ev_Unhex_l0 s (by omega) (s.size / 2) (by omega) (s.size / 2) j 0 [] (by omega) (by simp) (by omega)
  rw [show wrap64 ((s.size : Int) / 2) = ((s.size / 2 : Nat) : Int) from by unfold wrap64; omega]
  simpa using this

/-! written -/
def ev_hx (d : Int) : Int := if d < 10 then 48 + d else 87 + d
theorem ev_hx_bt (n : Int) (h0 : 0 ≤ n) (h1 : n < 16) : bt (⟨#[48, 49, 50, 51, 52, 53, 54, 55, 56, 57, 97, 98, 99, 100, 101, 102]⟩ : ByteArray) n = ev_hx n := by
  have : n = 0 ∨ n = 1 ∨ n = 2 ∨ n = 3 ∨ n = 4 ∨ n = 5 ∨ n = 6 ∨ n = 7 ∨ n = 8 ∨ n = 9 ∨ n = 10 ∨ n = 11 ∨ n = 12 ∨ n = 13 ∨ n = 14 ∨ n = 15 := by omega
  rcases this with rfl | rfl | rfl | rfl | rfl | rfl | rfl | rfl | rfl | rfl | rfl | rfl | rfl | rfl | rfl | rfl <;> decide +kernel
theorem ev_hx_dg {c d : Int} (h : ev_dg c = some d) : ev_hx d = c := by
  unfold ev_dg at h
  unfold ev_hx
  split at h
  · injection h; split <;> omega
  · split at h
    · injection h; split <;> omega
    · cases h
theorem ev_dg_hx (d : Int) (h0 : 0 ≤ d) (h1 : d < 16) : ev_dg (ev_hx d) = some d := by
  unfold ev_hx
  split
  · unfold ev_dg; rw [if_pos (by omega)]; congr 1; omega
  · unfold ev_dg; rw [if_neg (by omega), if_pos (by omega)]; congr 1; omega

def ev_hexs : List Int → List Int
  | [] => []
  | x :: l => ev_hx (x / 16) :: ev_hx (x % 16) :: ev_hexs l
theorem ev_hexs_length (l : List Int) : (ev_hexs l).length = 2 * l.length := by
  induction l with
  | nil => rfl
  | cons x l ih => simp only [ev_hexs, List.length_cons, ih]; omega

theorem ev_and15 (x : Int) (h0 : 0 ≤ x) (h1 : x < 256) : Go.bits .and .u8 x 15 = x % 16 := by
  obtain ⟨n, rfl⟩ := Int.eq_ofNat_of_zero_le h0
  rw [show (15 : Int) = ((15 : Nat) : Int) from rfl, u8_and_nat n 15 (by omega) (by decide), show (15 : Nat) = 2 ^ 4 - 1 from rfl, Nat.and_two_pow_sub_one_eq_mod]
  omega

theorem ev_Hex_l0 (l : List Int) (hl : ∀ x ∈ l, 0 ≤ x ∧ x < 256) (hn : l.length ≤ 140737488355328) (d : Nat) : ∀ (k i : Nat) (x : List Int), i + d = l.length → x.length ≤ 2 * i →
    num_Hex.l0 (k + d + 1) x l (l.length : Int) (i : Int) = some (strOfNums (x ++ ev_hexs (l.drop i))) := by
  induction d with
  | zero =>
    intro k i x hi hx
    simp only [num_Hex.l0]
    rw [if_neg (by omega), List.drop_of_length_le (by omega)]
    simp [ev_hexs]
  | succ d ih =>
    intro k i x hi hx
    have hlt : i < l.length := by omega
    have hb := hl l[i] (List.getElem_mem hlt)
    have hrd : rd l (i : Int) = l[i] := by
      unfold rd; rw [Int.toNat_natCast, List.getD_eq_getElem?_getD, List.getElem?_eq_getElem hlt]; rfl
    have w3 : wrap64 ((i : Int) + 1) = ((i + 1 : Nat) : Int) := by unfold wrap64; omega
    have ihk := ih k (i + 1)
    rw [show k + (d + 1) + 1 = (k + d + 1) + 1 from by omega]
    generalize k + d + 1 = K at ihk ⊢
    simp only [num_Hex.l0]
    rw [hrd, ev_and15 _ hb.1 hb.2, if_pos (Int.ofNat_lt.2 hlt), if_pos (Int.natCast_nonneg _), if_pos (Int.ofNat_lt.2 hlt), if_pos (by omega), if_pos (by omega), if_pos (by omega), if_pos (by omega)]
    simp only [Option.bind_some]
    rw [if_pos (by simp; omega), ev_hx_bt _ (by omega) (by omega), ev_hx_bt _ (by omega) (by omega), w3, ihk _ (by omega) (by simp; omega), List.drop_eq_getElem_cons hlt]
    simp only [ev_hexs]
    simp

theorem ev_Hex (l : List Int) (hl : ∀ x ∈ l, 0 ≤ x ∧ x < 256) (hn : l.length ≤ 140737488355328) (k : Nat) (hk : l.length + 1 ≤ k) : num_Hex.f k l = some (strOfNums (ev_hexs l)) := by
  obtain ⟨j, rfl⟩ : ∃ j, k = j + l.length + 1 := ⟨k - (l.length + 1), by omega⟩
  unfold num_Hex.f
  rw [if_pos hn]
  have := ev_Hex_l0 l hl hn l.length j 0 [] (by omega) (by simp)
  simpa using this

theorem ev_un_hexs (l : List Int) (hl : ∀ x ∈ l, 0 ≤ x ∧ x < 256) : ev_un (ev_hexs l) = some l := by
  induction l with
  | nil => rfl
  | cons x l ih =>
    have hx := hl x (by simp)
    simp only [ev_hexs, ev_un]
    rw [ev_dg_hx _ (by omega) (by omega), ev_dg_hx _ (by omega) (by omega), ih (fun y hy => hl y (by simp [hy]))]
    simp only
    congr 2
    omega

theorem ev_hexs_un (s l : List Int) (hs : s.length % 2 = 0) (h : ev_un s = some l) : ev_hexs l = s ∧ ∀ x ∈ l, 0 ≤ x ∧ x < 256 := by
  induction s using ev_un.induct generalizing l with
  | case1 c d s a b r e3 e2 e1 ih =>
    simp only [ev_un, e1, e2, e3] at h
    injection h with h
    subst h
    obtain ⟨i1, i2⟩ := ih r (by simp at hs; omega) e3
    have r1 := ev_dg_range e1
    have r2 := ev_dg_range e2
    refine ⟨?_, ?_⟩
    · simp only [ev_hexs]
      rw [show (a * 16 + b) / 16 = a from by omega, show (a * 16 + b) % 16 = b from by omega, ev_hx_dg e1, ev_hx_dg e2, i1]
    · intro x hx
      rcases List.mem_cons.1 hx with e | e
      · omega
      · exact i2 x e
  | case2 c d s hno ih =>
    cases e1 : ev_dg c <;> cases e2 : ev_dg d <;> cases e3 : ev_un s <;> simp [ev_un, e1, e2, e3] at h
    first
      | exact (hno _ _ _ e1 e2 e3).elim
      | exact (hno _ _ _ e3 e2 e1).elim
  | case3 s hno =>
    have : s = [] := by
      match s, hno with
      | [], _ => rfl
      | [c], _ => simp at hs
      | c :: d :: l, hno => exact absurd rfl (hno c d l)
    subst this
    simp only [ev_un] at h
    injection h with h
    subst h
    exact ⟨rfl, by simp⟩

end Go.Proofs.Ytkicclfokhfeiaa.PNumBack
