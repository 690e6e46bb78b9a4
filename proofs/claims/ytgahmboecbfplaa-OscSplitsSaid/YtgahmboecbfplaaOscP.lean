/- Layer 2 in plain integers: ways, counts. -/
namespace Go.Proofs.Ytgahmboecbfplaa
set_option linter.unusedVariables false
set_option linter.unusedSimpArgs false

structure Leg where
  len : Int
  ppm : Int
  l0 : -9223372036854775808 ≤ len
  l1 : len ≤ 9223372036854775807
  p0 : -9223372036854775808 ≤ ppm
  p1 : ppm ≤ 9223372036854775807
def Leg.zero : Leg := ⟨0, 0, by omega, by omega, by omega, by omega⟩

/-- How long the first k legs are. -/
def long (f : Nat → Leg) : Nat → Int
  | 0 => 0
  | k + 1 => long f k + (f k).len
def okAt (f : Nat → Leg) (i : Nat) : Prop := 0 ≤ (f i).len ∧ long f i + (f i).len ≤ 1099511627776 ∧ -1000 ≤ (f i).ppm ∧ (f i).ppm ≤ 1000
instance (f : Nat → Leg) (i : Nat) : Decidable (okAt f i) := inferInstanceAs (Decidable (_ ∧ _ ∧ _ ∧ _))
def okN (f : Nat → Leg) (n : Nat) : Prop := ∀ i, i < n → okAt f i
instance (f : Nat → Leg) (n : Nat) : Decidable (okN f n) := inferInstanceAs (Decidable (∀ i, i < n → okAt f i))
theorem okN_zero (f : Nat → Leg) : okN f 0 := fun i h => by omega
theorem okN_succ {f : Nat → Leg} {n : Nat} (h : okN f n) (h' : okAt f n) : okN f (n + 1) := fun i hi => by
  rcases Nat.lt_or_ge i n with h1 | h1
  · exact h i h1
  · have : i = n := by omega
    rw [this]; exact h'
theorem okN_mono {f : Nat → Leg} {m n : Nat} (h : okN f n) (hm : m ≤ n) : okN f m := fun i hi => h i (by omega)
theorem long_bound {f : Nat → Leg} {n : Nat} (h : okN f n) : 0 ≤ long f n ∧ long f n ≤ 1099511627776 := by
  induction n with
  | zero => exact ⟨by simp [long], by simp [long]⟩
  | succ n ih =>
    have := ih (okN_mono h (by omega))
    obtain ⟨h1, h2, _⟩ := h n (by omega)
    simp only [long]
    omega
/-- What is left of t, and what was counted, behind k legs: whole ticks and parts in a million. -/
def rest (f : Nat → Leg) (t : Int) : Nat → Int
  | 0 => t
  | k + 1 => rest f t k - min (max (rest f t k) 0) (f k).len
def whole (f : Nat → Leg) (t : Int) : Nat → Int
  | 0 => 0
  | k + 1 => whole f t k + min (max (rest f t k) 0) (f k).len
def parts (f : Nat → Leg) (t : Int) : Nat → Int
  | 0 => 0
  | k + 1 => parts f t k + min (max (rest f t k) 0) (f k).len * (f k).ppm
theorem rest_eq (f : Nat → Leg) (t : Int) (k : Nat) : rest f t k = t - whole f t k := by
  induction k with
  | zero => simp [rest, whole]
  | succ k ih => simp only [rest, whole]; omega
theorem mul_ppm {x p b : Int} (h : 0 ≤ x) (h1 : -b ≤ p) (h2 : p ≤ b) : -(b * x) ≤ x * p ∧ x * p ≤ b * x := by
  have a := Int.mul_le_mul_of_nonneg_left h2 h
  have c := Int.mul_le_mul_of_nonneg_left h1 h
  rw [Int.mul_comm x b] at a
  rw [Int.mul_neg, Int.mul_comm x b] at c
  exact ⟨c, a⟩
theorem whole_bound {f : Nat → Leg} {n : Nat} (t : Int) (h : okN f n) : 0 ≤ whole f t n ∧ whole f t n ≤ long f n ∧ -(1000 * whole f t n) ≤ parts f t n ∧ parts f t n ≤ 1000 * whole f t n := by
  induction n with
  | zero => simp [whole, long, parts]
  | succ n ih =>
    obtain ⟨i1, i2, i3, i4⟩ := ih (okN_mono h (by omega))
    obtain ⟨h1, h2, h3, h4⟩ := h n (by omega)
    simp only [whole, long, parts]
    have hx : 0 ≤ min (max (rest f t n) 0) (f n).len := by omega
    have hx2 : min (max (rest f t n) 0) (f n).len ≤ (f n).len := by omega
    generalize min (max (rest f t n) 0) (f n).len = x at *
    have := mul_ppm hx h3 h4
    omega
theorem rest_nonneg {f : Nat → Leg} {n : Nat} {t : Int} (ht : 0 ≤ t) (h : okN f n) : 0 ≤ rest f t n := by
  induction n with
  | zero => exact ht
  | succ n ih =>
    have := ih (okN_mono h (by omega))
    simp only [rest]
    omega
theorem rest_neg {f : Nat → Leg} {n : Nat} {t : Int} (ht : t < 0) (h : okN f n) : rest f t n = t := by
  induction n with
  | zero => rfl
  | succ n ih =>
    have := ih (okN_mono h (by omega))
    obtain ⟨h1, _⟩ := h n (by omega)
    simp only [rest]
    omega
def wayE (f : Nat → Leg) (n : Nat) : Int := if okN f n then 0 else 3
/-- The count at t. -/
def rawT (f : Nat → Leg) (n : Nat) (t : Int) : Int := (1000000 * whole f t n + parts f t n) / 1000000
def rawV (f : Nat → Leg) (n : Nat) (t : Int) : Int := if okN f n ∧ 0 ≤ t ∧ rest f t n ≤ 0 then rawT f n t else 0
def rawE (f : Nat → Leg) (n : Nat) (t : Int) : Int := if okN f n then if 0 ≤ t ∧ rest f t n ≤ 0 then 0 else 2 else 3
end Go.Proofs.Ytgahmboecbfplaa
