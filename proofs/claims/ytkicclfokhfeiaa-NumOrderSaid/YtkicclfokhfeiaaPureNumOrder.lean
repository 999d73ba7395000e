/- Proves that longer numbers are the greater ones, written in digits: for every two numbers, no condition. -/
import Derived.Test.YtkicclfokhfeiaaEvalNumOrder
namespace Go.Proofs.Ytkicclfokhfeiaa.Pure
open Go.RowKit Go.Proofs.Ytkicclfokhfeiaa.PNumOrder Go.Proofs.YtkicclfokhfeiaaW.PrintWords Go.Proofs.YtkicclfokhfeiaaW.PrintLast

/-! digits: a row of codes from 48 to 57, its highest first -/
def order_val : List Int → Nat
  | [] => 0
  | c :: l => (c - 48).toNat * 10 ^ l.length + order_val l
def order_digits (l : List Int) : Prop := ∀ x ∈ l, 48 ≤ x ∧ x ≤ 57

theorem order_val_lt (l : List Int) (h : order_digits l) : order_val l < 10 ^ l.length := by
  induction l with
  | nil => simp [order_val]
  | cons c l ih =>
    have hc := h c (by simp)
    have := ih (fun x hx => h x (by simp [hx]))
    simp only [order_val, List.length_cons, Nat.pow_succ]
    have h9 : (c - 48).toNat ≤ 9 := by omega
    have := Nat.mul_le_mul_right (10 ^ l.length) h9
    omega

theorem order_val_append (l : List Int) (x : Int) : order_val (l ++ [x]) = order_val l * 10 + (x - 48).toNat := by
  induction l with
  | nil => simp [order_val]
  | cons c l ih =>
    simp only [List.cons_append, order_val, ih, List.length_append, List.length_cons, List.length_nil, Nat.zero_add, Nat.pow_succ]
    rw [Nat.add_mul, Nat.mul_assoc]
    omega

theorem order_app (m : Nat) : ∀ s, num_decs m s = num_decs m [] ++ s := by
  induction m using Nat.strongRecOn with
  | _ m ih =>
    intro s
    rw [num_decs]
    conv => rhs; rw [num_decs]
    by_cases h : m / 10 = 0
    · rw [if_pos h, if_pos h]; rfl
    · rw [if_neg h, if_neg h, ih (m / 10) (by omega), ih (m / 10) (by omega) [_]]
      simp

/-- The digits of a number. -/
theorem order_step (n : Nat) : num_decs n [] = if n / 10 = 0 then [((48 + n % 10 : Nat) : Int)] else num_decs (n / 10) [] ++ [((48 + n % 10 : Nat) : Int)] := by
  conv => lhs; rw [num_decs]
  split
  · rfl
  · rw [order_app]

structure Digs (n : Nat) (l : List Int) : Prop where
  digits : order_digits l
  val : order_val l = n
  pos : 1 ≤ l.length
  low : l.length = 1 ∨ 10 ^ (l.length - 1) ≤ n

theorem order_digs (n : Nat) : Digs n (num_decs n []) := by
  induction n using Nat.strongRecOn with
  | _ n ih =>
    rw [order_step]
    by_cases h : n / 10 = 0
    · rw [if_pos h]
      refine ⟨?_, ?_, by simp, .inl rfl⟩
      · intro x hx
        simp only [List.mem_cons, List.not_mem_nil, or_false] at hx
        omega
      · simp [order_val]; omega
    · rw [if_neg h]
      have d := ih (n / 10) (by omega)
      refine ⟨?_, ?_, by simp, .inr ?_⟩
      · intro x hx
        rcases List.mem_append.1 hx with hx | hx
        · exact d.digits x hx
        · simp only [List.mem_cons, List.not_mem_nil, or_false] at hx
          omega
      · rw [order_val_append, d.val]
        omega
      · simp only [List.length_append, List.length_cons, List.length_nil, Nat.zero_add, Nat.add_sub_cancel]
        rcases d.low with e | e
        · rw [e]; omega
        · rw [show (num_decs (n / 10) []).length = (num_decs (n / 10) []).length - 1 + 1 from by have := d.pos; omega, Nat.pow_succ]
          omega

theorem order_len {x y : Nat} {a b : List Int} (ha : Digs x a) (hb : Digs y b) (h : a.length < b.length) : x < y := by
  have h1 := order_val_lt a ha.digits
  rw [ha.val] at h1
  rcases hb.low with e | e
  · have := ha.pos; omega
  · have : 10 ^ a.length ≤ 10 ^ (b.length - 1) := Nat.pow_le_pow_right (by decide) (by omega)
    omega

def order_bytes (l : List Int) : List UInt8 := l.map fun n => UInt8.ofNat n.toNat
theorem order_byte (c d : Int) (hc : 48 ≤ c ∧ c ≤ 57) (hd : 48 ≤ d ∧ d ≤ 57) : (decide (UInt8.ofNat c.toNat < UInt8.ofNat d.toNat) = decide (c < d)) ∧ ((UInt8.ofNat c.toNat == UInt8.ofNat d.toNat) = decide (c = d)) := by
  have e1 : c = 48 ∨ c = 49 ∨ c = 50 ∨ c = 51 ∨ c = 52 ∨ c = 53 ∨ c = 54 ∨ c = 55 ∨ c = 56 ∨ c = 57 := by omega
  have e2 : d = 48 ∨ d = 49 ∨ d = 50 ∨ d = 51 ∨ d = 52 ∨ d = 53 ∨ d = 54 ∨ d = 55 ∨ d = 56 ∨ d = 57 := by omega
  rcases e1 with rfl | rfl | rfl | rfl | rfl | rfl | rfl | rfl | rfl | rfl <;> rcases e2 with rfl | rfl | rfl | rfl | rfl | rfl | rfl | rfl | rfl | rfl <;> decide

theorem order_lex (a : List Int) : ∀ (b : List Int), a.length = b.length → order_digits a → order_digits b →
    (Op.bytesLess (order_bytes a) (order_bytes b) = decide (order_val a < order_val b)) ∧ ((order_bytes a == order_bytes b) = decide (order_val a = order_val b)) := by
  induction a with
  | nil =>
    intro b hl _ _
    cases b with
    | nil => exact ⟨rfl, rfl⟩
    | cons _ _ => simp at hl
  | cons c a ih =>
    intro b hl da db
    cases b with
    | nil => simp at hl
    | cons d b =>
      have hl' : a.length = b.length := by simpa using hl
      have da' : order_digits a := fun x hx => da x (by simp [hx])
      have db' : order_digits b := fun x hx => db x (by simp [hx])
      have hc := da c (by simp)
      have hd := db d (by simp)
      obtain ⟨i1, i2⟩ := ih b hl' da' db'
      obtain ⟨b1, b2⟩ := order_byte c d hc hd
      have v1 := order_val_lt a da'
      have v2 := order_val_lt b db'
      rw [← hl'] at v2
      have key : ((order_val (c :: a) < order_val (d :: b)) ↔ (c < d ∨ (c = d ∧ order_val a < order_val b))) ∧ ((order_val (c :: a) = order_val (d :: b)) ↔ (c = d ∧ order_val a = order_val b)) := by
        simp only [order_val]
        rw [← hl']
        obtain ⟨m, rfl⟩ : ∃ m : Nat, c = 48 + (m : Int) := ⟨(c - 48).toNat, by omega⟩
        obtain ⟨n, rfl⟩ : ∃ n : Nat, d = 48 + (n : Int) := ⟨(d - 48).toNat, by omega⟩
        rw [show ((48 + (m : Int)) - 48).toNat = m from by omega, show ((48 + (n : Int)) - 48).toNat = n from by omega]
        generalize 10 ^ a.length = T at *
        generalize order_val a = u at *
        generalize order_val b = w at *
        have hlt : ∀ p q : Nat, p < q → p * T + T ≤ q * T := fun p q h => by
          rw [← Nat.succ_mul]; exact Nat.mul_le_mul_right _ h
        rcases Nat.lt_trichotomy m n with h | h | h
        · have := hlt m n h
          constructor <;> constructor <;> intro e <;> omega
        · subst h
          constructor <;> constructor <;> intro e <;> omega
        · have := hlt n m h
          constructor <;> constructor <;> intro e <;> omega
      constructor
      · simp only [order_bytes, List.map_cons, Op.bytesLess]
        change (decide _ || (_ && Op.bytesLess (order_bytes a) (order_bytes b))) = _
        rw [b1, b2, i1, Bool.eq_iff_iff]
        simp only [Bool.or_eq_true, Bool.and_eq_true, decide_eq_true_eq]
        exact key.1.symm
      · have hcons : (order_bytes (c :: a) == order_bytes (d :: b)) = ((UInt8.ofNat c.toNat == UInt8.ofNat d.toNat) && (order_bytes a == order_bytes b)) := rfl
        rw [hcons, b2, i2, Bool.eq_iff_iff]
        simp only [Bool.and_eq_true, decide_eq_true_eq]
        exact key.2.symm

theorem order_toList (l : List Int) : (strOfNums l).toList = order_bytes l := by
  rw [ByteArray.toList_eq]; rfl

theorem order_bytes_len {a b : List Int} (h : a.length ≠ b.length) : (order_bytes a == order_bytes b) = false := by
  rw [beq_eq_false_iff_ne]
  intro e
  exact h (by have := congrArg List.length e; simpa [order_bytes] using this)

theorem order_len20 {x : Nat} {a : List Int} (ha : Digs x a) (hx : x < 18446744073709551616) : a.length ≤ 20 := by
  rcases ha.low with e | e
  · omega
  · rcases Nat.lt_or_ge 20 a.length with h | h
    · have : 10 ^ 20 ≤ 10 ^ (a.length - 1) := Nat.pow_le_pow_right (by decide) (by omega)
      have h2 : (18446744073709551616 : Nat) ≤ 10 ^ 20 := by decide
      omega
    · exact h

theorem NumOrder : fairleadlaw01_NumOrder.Pure := by
  intro x y hx hy
  have bx : 0 ≤ x ∧ x ≤ 18446744073709551615 := by
    simp [Lit.wf, IntKind.min, IntKind.max, IntKind.signed, IntKind.bits] at hx; omega
  have by_ : 0 ≤ y ∧ y ≤ 18446744073709551615 := by
    simp [Lit.wf, IntKind.min, IntKind.max, IntKind.signed, IntKind.bits] at hy; omega
  obtain ⟨m, rfl⟩ := Int.eq_ofNat_of_zero_le bx.1
  obtain ⟨n, rfl⟩ := Int.eq_ofNat_of_zero_le by_.1
  have dm := order_digs m
  have dn := order_digs n
  have fm : num_Dec.f (m : Int) = some (strOfNums (num_decs m [])) := by
    unfold num_Dec.f; rw [if_pos (by omega), Int.toNat_natCast]
  have fn : num_Dec.f (n : Int) = some (strOfNums (num_decs n [])) := by
    unfold num_Dec.f; rw [if_pos (by omega), Int.toNat_natCast]
  have l20 := order_len20 dm (by omega)
  refine ⟨20, ?_⟩
  unfold fairleadlaw01_NumOrder.f
  rw [fm, fn, ev_heads20]
  generalize num_decs m [] = a at *
  generalize num_decs n [] = b at *
  simp only [Option.bind_some, order_toList, strOfNums_size]
  have hlt : decide ((m : Int) < (n : Int)) = decide (m < n) := by
    rw [Bool.eq_iff_iff]; simp only [decide_eq_true_eq]; omega
  have heq : ((m : Int) == (n : Int)) = decide (m = n) := by
    rw [Bool.eq_iff_iff]; simp only [beq_iff_eq, decide_eq_true_eq]; omega
  rw [hlt, heq]
  by_cases h1 : (a.length : Int) < (b.length : Int)
  · have h := order_len dm dn (by omega)
    rw [if_pos h1, decide_eq_true h, order_bytes_len (show a.length ≠ b.length by omega), decide_eq_false (show ¬ m = n by omega)]
    rw [if_pos (by decide), if_pos (by decide), if_pos (by omega)]
  · rw [if_neg h1]
    by_cases h2 : (a.length : Int) = (b.length : Int)
    · obtain ⟨k1, k2⟩ := order_lex a b (by omega) dm.digits dn.digits
      rw [if_pos h2, k1, k2, dm.val, dn.val]
      rw [if_pos (by simp), if_pos (by simp), if_pos (by omega)]
    · have h := order_len dn dm (by omega)
      rw [if_neg h2, decide_eq_false (show ¬ m < n by omega), order_bytes_len (show a.length ≠ b.length by omega), decide_eq_false (show ¬ m = n by omega)]
      rw [if_pos (by decide), if_pos (by decide), if_pos (by omega)]

end Go.Proofs.Ytkicclfokhfeiaa.Pure
