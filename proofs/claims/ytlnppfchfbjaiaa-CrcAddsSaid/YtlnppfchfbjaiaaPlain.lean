/- Plain maths of a shift register: the text as one number, the register's steps as a linear map. -/
namespace Crc

/-- One step of the register, on any natural number. -/
def step (p x : Nat) : Nat := (x / 2) ^^^ (if x % 2 = 1 then p else 0)
def steps (p : Nat) : Nat → Nat → Nat
  | 0, x => x
  | k + 1, x => steps p k (step p x)

theorem xor_mod_two (x y : Nat) : (x ^^^ y) % 2 = (x % 2 + y % 2) % 2 := by
  have h := Nat.testBit_xor x y 0
  simp only [Nat.testBit_zero] at h
  rcases Nat.mod_two_eq_zero_or_one x with hx | hx <;> rcases Nat.mod_two_eq_zero_or_one y with hy | hy <;>
    rcases Nat.mod_two_eq_zero_or_one (x ^^^ y) with hz | hz <;> simp [hx, hy, hz] at h ⊢

theorem xor_div_two (x y : Nat) : (x ^^^ y) / 2 = (x / 2) ^^^ (y / 2) := by
  apply Nat.eq_of_testBit_eq; intro i
  simp [Nat.testBit_div_two, Nat.testBit_xor]

theorem step_xor (p x y : Nat) : step p (x ^^^ y) = step p x ^^^ step p y := by
  unfold step
  rw [xor_div_two, xor_mod_two]
  rcases Nat.mod_two_eq_zero_or_one x with hx | hx <;> rcases Nat.mod_two_eq_zero_or_one y with hy | hy <;> simp only [hx, hy]
  · simp
  · simp [Nat.xor_assoc]
  · simp [Nat.xor_assoc, Nat.xor_comm p]
  · simp only [Nat.reduceAdd, Nat.reduceMod, if_true]
    rw [if_neg (by decide)]
    rw [Nat.xor_zero, ← Nat.xor_assoc, Nat.xor_assoc (x / 2) p, Nat.xor_comm p (y / 2), ← Nat.xor_assoc, Nat.xor_assoc _ p p, Nat.xor_self, Nat.xor_zero]

theorem steps_xor (p k x y : Nat) : steps p k (x ^^^ y) = steps p k x ^^^ steps p k y := by
  induction k generalizing x y with
  | zero => rfl
  | succ k ih => simp only [steps]; rw [step_xor, ih]

theorem steps_add (p j k x : Nat) : steps p (j + k) x = steps p k (steps p j x) := by
  induction j generalizing x with
  | zero => simp [steps]
  | succ j ih => rw [Nat.succ_add]; simp only [steps]; exact ih _

theorem steps_shl (p k x : Nat) : steps p k (x * 2 ^ k) = x := by
  induction k generalizing x with
  | zero => simp [steps]
  | succ k ih =>
    simp only [steps]
    have : step p (x * 2 ^ (k + 1)) = x * 2 ^ k := by
      unfold step
      have e : x * 2 ^ (k + 1) = 2 * (x * 2 ^ k) := by rw [Nat.pow_succ]; ac_rfl
      rw [e, Nat.mul_div_cancel_left _ (by decide), Nat.mul_mod_right]; simp
    rw [this, ih]

theorem steps_zero (p k : Nat) : steps p k 0 = 0 := by
  induction k with
  | zero => rfl
  | succ k ih => simp only [steps]; rw [show step p 0 = 0 from by simp [step]]; exact ih

/-- On numbers of w bits, by a polynomial whose highest bit is set, no step but nought's comes to nought. -/
theorem step_lt {p w x : Nat} (hp : p < 2 ^ (w + 1)) (hx : x < 2 ^ (w + 1)) : step p x < 2 ^ (w + 1) := by
  unfold step
  apply Nat.xor_lt_two_pow
  · omega
  · split
    · exact hp
    · exact Nat.two_pow_pos _

theorem step_ne {p w x : Nat} (hp : 2 ^ w ≤ p) (hx : x < 2 ^ (w + 1)) (h0 : x ≠ 0) : step p x ≠ 0 := by
  unfold step
  intro h
  by_cases ho : x % 2 = 1
  · rw [if_pos ho] at h
    have e : x / 2 = p := by
      have e1 : (x / 2 ^^^ p) ^^^ p = 0 ^^^ p := by rw [h]
      rwa [Nat.xor_assoc, Nat.xor_self, Nat.xor_zero, Nat.zero_xor] at e1
    rw [Nat.pow_succ] at hx; omega
  · rw [if_neg ho, Nat.xor_zero] at h; omega

theorem steps_ne {p w k x : Nat} (hp : 2 ^ w ≤ p) (hp' : p < 2 ^ (w + 1)) (hx : x < 2 ^ (w + 1)) (h0 : x ≠ 0) : steps p k x ≠ 0 := by
  induction k generalizing x with
  | zero => exact h0
  | succ k ih => exact ih (step_lt hp' hx) (step_ne hp hx h0)

theorem steps_lt {p w k x : Nat} (hp' : p < 2 ^ (w + 1)) (hx : x < 2 ^ (w + 1)) : steps p k x < 2 ^ (w + 1) := by
  induction k generalizing x with
  | zero => exact hx
  | succ k ih => exact ih (step_lt hp' hx)

/-- A text as one number, its first byte the lowest. -/
def num : List Nat → Nat
  | [] => 0
  | b :: l => b + 256 * num l

theorem add_xor (b n : Nat) (hb : b < 256) : b + 256 * n = b ^^^ (n * 2 ^ 8) := by
  have h := Nat.two_pow_add_eq_or_of_lt (i := 8) (show b < 2 ^ 8 from hb) n
  have e : (2 ^ 8 * n) ||| b = b ^^^ (n * 2 ^ 8) := by
    apply Nat.eq_of_testBit_eq; intro i
    rw [Nat.testBit_or, Nat.testBit_xor, Nat.mul_comm n, Nat.testBit_two_pow_mul]
    by_cases hi : 8 ≤ i
    · have : b.testBit i = false := Nat.testBit_lt_two_pow (Nat.lt_of_lt_of_le (show b < 2 ^ 8 from hb) (Nat.pow_le_pow_right (by decide) hi))
      simp [this]
    · simp [hi]
  rw [← e, ← h]; simp; omega

/-- The register behind a text. -/
def sum (p c : Nat) (l : List Nat) : Nat := l.foldl (fun c b => steps p 8 (c ^^^ b)) c

theorem sum_num (p : Nat) (l : List Nat) (hl : ∀ b ∈ l, b < 256) (c : Nat) : sum p c l = steps p (8 * l.length) (c ^^^ num l) := by
  induction l generalizing c with
  | nil => simp [sum, num, steps]
  | cons b l ih =>
    have hb := hl b (by simp)
    have := ih (fun x hx => hl x (by simp [hx])) (steps p 8 (c ^^^ b))
    simp only [sum, List.foldl_cons] at this ⊢
    rw [this]
    simp only [num, List.length_cons]
    rw [add_xor b _ hb, show 8 * (l.length + 1) = 8 + 8 * l.length from by omega, steps_add, ← Nat.xor_assoc, steps_xor p 8 (c ^^^ b), steps_shl]

end Crc
