/- Proves that what is written is read as it was: for every number, size and bytes. -/
import Derived.Test.YtkicclfokhfeiaaEvalHexNumBack
namespace Go.Proofs.Ytkicclfokhfeiaa.Pure
open Go.RowKit Go.Proofs.Ytkicclfokhfeiaa.PNumBack Go.Proofs.YtkicclfokhfeiaaW.PrintWords Go.Proofs.YtkicclfokhfeiaaW.PrintLast Go.Proofs.YtkicclfokhfeiaaW.PrintMore

/-- The n lowest bytes of x, the highest first. -/
def back_be : Nat → Nat → List Int
  | 0, _ => []
  | n + 1, x => ((x / 256 ^ n % 256 : Nat) : Int) :: back_be n x
theorem back_be_length (n x : Nat) : (back_be n x).length = n := by
  induction n with
  | zero => rfl
  | succ n ih => simp [back_be, ih]

theorem back_set (n : Nat) (i : Nat) (x : Nat) (v : Int) (hi : i < n) (hv : v = ((x / 256 ^ i % 256 : Nat) : Int)) :
    (List.replicate (n - i) (0 : Int) ++ back_be i x).set (n - 1 - i) v = List.replicate (n - (i + 1)) 0 ++ back_be (i + 1) x := by
  rw [show n - i = (n - (i + 1)) + 1 from by omega, List.replicate_succ', List.append_assoc, List.set_append_right _ _ (by simp; omega), List.length_replicate, show n - 1 - i - (n - (i + 1)) = 0 from by omega, hv]
  rfl

theorem back_shr (x i : Nat) (hi : i < 8) : shr .u64 (x : Int) ((8 * i : Nat) : Int) % 256 = ((x / 256 ^ i % 256 : Nat) : Int) := by
  unfold shr
  rw [Int.toNat_natCast, Nat.min_eq_left (by simp [IntKind.bits]; omega), show (256 : Nat) ^ i = 2 ^ (8 * i) from by rw [show (256 : Nat) = 2 ^ 8 from rfl, ← Nat.pow_mul]]
  simp

theorem back_Put_l0 (x n : Nat) (hn : n ≤ 8) (d : Nat) : ∀ (k i : Nat), i + d = n →
    num_Put.l0 (k + d + 1) (x : Int) (List.replicate (n - i) 0 ++ back_be i x) (n : Int) (i : Int) = some (back_be n x) := by
  induction d with
  | zero =>
    intro k i hi
    obtain rfl : i = n := by omega
    simp only [num_Put.l0]
    rw [if_neg (by omega), Nat.sub_self]
    rfl
  | succ d ih =>
    intro k i hi
    have hlen : (List.replicate (n - i) (0 : Int) ++ back_be i x).length = n := by simp [back_be_length]; omega
    have w1 : wrap64 (8 * (i : Int)) = ((8 * i : Nat) : Int) := by unfold wrap64; omega
    have w2 : wrap64 (wrap64 ((n : Int) - 1) - (i : Int)) = ((n - 1 - i : Nat) : Int) := by unfold wrap64; omega
    have w3 : wrap64 ((i : Int) + 1) = ((i + 1 : Nat) : Int) := by unfold wrap64; omega
    have ihk := ih k (i + 1) (by omega)
    rw [show k + (d + 1) + 1 = (k + d + 1) + 1 from by omega]
    generalize k + d + 1 = K at ihk ⊢
    simp only [num_Put.l0]
    rw [hlen, w1, w2, w3, if_pos (Int.ofNat_lt.2 (by omega)), if_pos (Int.natCast_nonneg _), if_pos (Int.natCast_nonneg _), if_pos (Int.ofNat_lt.2 (by omega)), Int.toNat_natCast, back_shr x i (by omega), back_set n i x _ (by omega) rfl]
    exact ihk

def back_n (size : Int) : Nat := if size < 1 then 0 else if size < 8 then size.toNat else 8
theorem back_n_le (size : Int) : back_n size ≤ 8 := by unfold back_n; split <;> (try split) <;> omega
theorem back_Put (x : Nat) (size : Int) (k : Nat) (hk : 9 ≤ k) : num_Put.f k (x : Int) size = some (back_be (back_n size) x) := by
  unfold num_Put.f back_n
  by_cases h : size < 1
  · rw [if_pos h, if_pos h]; rfl
  · rw [if_neg h, if_neg h]
    have hm : mn size 8 = (((if size < 8 then size.toNat else 8 : Nat)) : Int) := by
      unfold mn
      split <;> split <;> omega
    have hn : (if size < 8 then size.toNat else 8 : Nat) ≤ 8 := by split <;> omega
    generalize (if size < 8 then size.toNat else 8 : Nat) = n at hm hn ⊢
    rw [hm, if_pos (Int.natCast_nonneg _), Int.toNat_natCast, if_pos (by omega)]
    simp only [Option.bind_some, List.length_replicate]
    obtain ⟨j, rfl⟩ : ∃ j, k = j + n + 1 := ⟨k - (n + 1), by omega⟩
    have := back_Put_l0 x n hn n j 0 (by omega)
    rw [Nat.sub_zero, show back_be 0 x = [] from rfl, List.append_nil, show ((0 : Nat) : Int) = 0 from rfl] at this
    exact this

theorem back_or (a b : Nat) (ha : a * 256 < 18446744073709551616) (hb : b < 256) : Go.bits .or .u64 (IntKind.u64.wrap ((a : Int) * 256)) (IntKind.u64.wrap (b : Int)) = ((a * 256 + b : Nat) : Int) := by
  rw [show IntKind.u64.wrap ((a : Int) * 256) = ((a * 256 : Nat) : Int) from by rw [IntKind.wrap_u64]; omega, show IntKind.u64.wrap (b : Int) = (b : Int) from by rw [IntKind.wrap_u64]; omega, u64_or_nat _ _ ha (by omega)]
  have h := Nat.two_pow_add_eq_or_of_lt (i := 8) (show b < 2 ^ 8 by omega) a
  rw [Nat.mul_comm a 256, show (256 : Nat) = 2 ^ 8 from rfl, ← h]

theorem back_be_get (x n j : Nat) (hj : j < n) : (back_be n x).getD j 0 = ((x / 256 ^ (n - 1 - j) % 256 : Nat) : Int) := by
  induction n generalizing j with
  | zero => omega
  | succ n ih =>
    cases j with
    | zero => simp [back_be]
    | succ j =>
      have := ih j (by omega)
      simp only [back_be, List.getD_cons_succ]
      rw [this, show n + 1 - 1 - (j + 1) = n - 1 - j from by omega]

theorem back_Get_l0 (x n : Nat) (hn : n ≤ 8) (d : Nat) : ∀ (k i : Nat), i + d = n →
    num_Get.l0 (k + d + 1) ((x / 256 ^ d % 256 ^ i : Nat) : Int) (back_be n x) (n : Int) (i : Int) = some ((x % 256 ^ n : Nat) : Int) := by
  induction d with
  | zero =>
    intro k i hi
    obtain rfl : i = n := by omega
    simp only [num_Get.l0]
    rw [if_neg (by omega), Nat.pow_zero, Nat.div_one]
  | succ d ih =>
    intro k i hi
    have w3 : wrap64 ((i : Int) + 1) = ((i + 1 : Nat) : Int) := by unfold wrap64; omega
    have ihk := ih k (i + 1) (by omega)
    have hrd : rd (back_be n x) (i : Int) = ((x / 256 ^ d % 256 : Nat) : Int) := by
      unfold rd
      rw [Int.toNat_natCast, back_be_get x n i (by omega), show n - 1 - i = d from by omega]
    have hacc : x / 256 ^ (d + 1) % 256 ^ i * 256 + x / 256 ^ d % 256 = x / 256 ^ d % 256 ^ (i + 1) := by
      rw [Nat.pow_succ 256 d, ← Nat.div_div_eq_div_mul, Nat.pow_succ, Nat.mul_comm (256 ^ i) 256, Nat.mod_mul, Nat.mul_comm 256, Nat.add_comm]
    have hlt : x / 256 ^ (d + 1) % 256 ^ i < 256 ^ i := Nat.mod_lt _ (Nat.pow_pos (by decide))
    have hpow : 256 ^ i ≤ 256 ^ 7 := Nat.pow_le_pow_right (by decide) (by omega)
    have h7 : (256 : Nat) ^ 7 = 72057594037927936 := by decide
    rw [show k + (d + 1) + 1 = (k + d + 1) + 1 from by omega]
    generalize k + d + 1 = K at ihk ⊢
    simp only [num_Get.l0]
    rw [if_pos (Int.ofNat_lt.2 (by omega)), if_pos (Int.natCast_nonneg _), back_be_length, if_pos (Int.ofNat_lt.2 (by omega)), hrd, back_or _ _ (by omega) (Nat.mod_lt _ (by decide)), hacc, w3]
    exact ihk

theorem back_Get (x n : Nat) (hn : n ≤ 8) (k : Nat) (hk : 9 ≤ k) : num_Get.f k (back_be n x) = some ((x % 256 ^ n : Nat) : Int) := by
  unfold num_Get.f
  rw [back_be_length]
  obtain ⟨j, rfl⟩ : ∃ j, k = j + n + 1 := ⟨k - (n + 1), by omega⟩
  have := back_Get_l0 x n hn n j 0 (by omega)
  rw [Nat.pow_zero, Nat.mod_one, show ((0 : Nat) : Int) = 0 from rfl] at this
  exact this

/-- Digits written are bytes. -/
theorem back_hx_byte (d : Int) (h0 : 0 ≤ d) (h1 : d < 16) : 0 ≤ ev_hx d ∧ ev_hx d < 256 := by unfold ev_hx; split <;> omega
theorem back_hexs_byte (l : List Int) (hl : ∀ x ∈ l, 0 ≤ x ∧ x < 256) : ∀ y ∈ ev_hexs l, 0 ≤ y ∧ y < 256 := by
  induction l with
  | nil => intro y hy; simp [ev_hexs] at hy
  | cons x l ih =>
    have hx := hl x (by simp)
    intro y hy
    simp only [ev_hexs, List.mem_cons] at hy
    rcases hy with rfl | rfl | hy
    · exact back_hx_byte _ (by omega) (by omega)
    · exact back_hx_byte _ (by omega) (by omega)
    · exact ih (fun z hz => hl z (by simp [hz])) y hy
theorem back_str (l : List Int) (hl : ∀ x ∈ l, 0 ≤ x ∧ x < 256) : ev_str (strOfNums l) = l := by
  unfold ev_str
  rw [strOfNums_data, List.map_map]
  conv => rhs; rw [← List.map_id l]
  apply List.map_congr_left
  intro x hx
  have := hl x hx
  simp only [Function.comp_apply, id, UInt8.toNat_ofNat']
  omega

theorem back_shl (s : Nat) (h1 : 1 ≤ s) (h2 : s < 8) : shl .u64 1 (IntKind.u64.wrap (wrap64 (8 * (s : Int)))) = ((256 ^ s : Nat) : Int) := by
  have : s = 1 ∨ s = 2 ∨ s = 3 ∨ s = 4 ∨ s = 5 ∨ s = 6 ∨ s = 7 := by omega
  rcases this with rfl | rfl | rfl | rfl | rfl | rfl | rfl <;> decide +kernel

theorem back_j1 (k : Nat) (hk : 25 ≤ k) (size : Int) (l : List Int) (x : Nat) (want : Int) (hw : ¬ size < 1 → want = ((x % 256 ^ back_n size : Nat) : Int)) :
    fairleadlaw01_NumBack.j1 (k + 1) size l l true (back_be (back_n size) x) want = some true := by
  have hg := back_Get x (back_n size) (back_n_le size) k (by omega)
  have hh := ev_heads k (by omega)
  have hsame : fairleadref01_Same.f l l = some true := by unfold fairleadref01_Same.f; simp
  have hlen : ((back_be (back_n size) x).length : Int) = mx 0 (mn size 8) := by
    rw [back_be_length]
    unfold back_n mx mn
    repeat' split
    all_goals omega
  simp only [fairleadlaw01_NumBack.j1]
  rw [hsame, hg, hh]
  by_cases h : size < 1
  · have h0 : back_n size = 0 := by unfold back_n; rw [if_pos h]
    rw [if_pos h, if_pos trivial, Option.bind_some, if_pos rfl, Option.bind_some, if_pos (by rw [h0, Nat.pow_zero, Nat.mod_one]; rfl), if_pos hlen, Option.bind_some]
  · rw [if_neg h, if_pos trivial, Option.bind_some, if_pos rfl, Option.bind_some, if_pos (hw h).symm, if_pos hlen, Option.bind_some]

theorem back_shw (s : Nat) : (0 : Int) ≤ IntKind.u64.wrap (wrap64 (8 * (s : Int))) := by rw [IntKind.wrap_u64]; omega

theorem NumBack : fairleadlaw01_NumBack.Pure := by
  intro x size l hx _ _ hn1 hl
  have hn : l.length ≤ 140737488351232 := by omega
  have bx : 0 ≤ x ∧ x ≤ 18446744073709551615 := by
    simp [Lit.wf, IntKind.min, IntKind.max, IntKind.signed, IntKind.bits] at hx; omega
  have bl : ∀ y ∈ l, 0 ≤ y ∧ y < 256 := by
    intro y hy
    have := hl y hy
    simp [Lit.wf, IntKind.min, IntKind.max, IntKind.signed, IntKind.bits] at this; omega
  obtain ⟨m, rfl⟩ := Int.eq_ofNat_of_zero_le bx.1
  have hm : m < 18446744073709551616 := by omega
  obtain ⟨k, hk⟩ : ∃ k, k = 2 * l.length + 40 := ⟨_, rfl⟩
  refine ⟨k + 2, ?_⟩
  have hH := ev_Hex l bl (by omega) (k + 2) (by omega)
  have hsz : (strOfNums (ev_hexs l)).size = 2 * l.length := by rw [strOfNums_size, ev_hexs_length]
  have hU := ev_Unhex_even (strOfNums (ev_hexs l)) (by omega) (by omega) (k + 2) (by omega)
  rw [back_str _ (back_hexs_byte l bl), ev_un_hexs l bl, show ev_all (some l) [] = (l, true) from rfl] at hU
  have hP := back_Put m size (k + 2) (by omega)
  unfold fairleadlaw01_NumBack.f
  rw [hH, Option.bind_some, hU, Option.bind_some, hP, Option.bind_some]
  have hk25 : 25 ≤ k := by omega
  clear hH hU hP hsz hk hn hn1
  by_cases h8 : size < 8
  · rw [if_pos h8]
    by_cases h0 : size > 0
    · rw [decide_eq_true h0]
      obtain ⟨s, rfl⟩ := Int.eq_ofNat_of_zero_le (show 0 ≤ size by omega)
      have hs := back_shl s (by omega) (by omega)
      have hns : back_n (s : Int) = s := by unfold back_n; rw [if_neg (by omega), if_pos (by omega)]; omega
      have hpos : 0 < 256 ^ s := Nat.pow_pos (by decide)
      have hsw := back_shw s
      have hj := back_j1 k (by omega) (s : Int) l m (Int.tmod (m : Int) ((256 ^ s : Nat) : Int)) (fun _ => by rw [hns, ← Int.ofNat_tmod])
      simp only [fairleadlaw01_NumBack.j0]
      rw [if_pos trivial, if_pos hsw, hs, if_neg (by omega)]
      exact hj
    · rw [decide_eq_false h0]
      have hj := back_j1 k (by omega) size l m (m : Int) (fun h => absurd (show size < 1 by omega) h)
      simp only [fairleadlaw01_NumBack.j0]
      rw [if_neg (by decide)]
      exact hj
  · rw [if_neg h8]
    have hns : back_n size = 8 := by unfold back_n; rw [if_neg (by omega), if_neg h8]
    have hj := back_j1 k (by omega) size l m (m : Int) (fun _ => by rw [hns, Nat.mod_eq_of_lt (by omega)])
    simp only [fairleadlaw01_NumBack.j0]
    rw [if_neg (by decide)]
    exact hj

end Go.Proofs.Ytkicclfokhfeiaa.Pure
