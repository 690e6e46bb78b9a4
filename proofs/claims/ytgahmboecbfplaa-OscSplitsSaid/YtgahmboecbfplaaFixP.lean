/- Layer 1 in plain integers: sums, fractions, stamps, spans. -/
namespace Go.Proofs.Ytgahmboecbfplaa
set_option linter.unusedVariables false
set_option linter.unusedSimpArgs false

def isT (t : Int) : Prop := -2305843009213693952 ≤ t ∧ t ≤ 2305843009213693952
instance (t : Int) : Decidable (isT t) := inferInstanceAs (Decidable (_ ∧ _))
def bnd (t : Int) : Int := min (max t (-2305843009213693952)) 2305843009213693952
theorem bnd_isT (t : Int) : isT (bnd t) := by unfold isT bnd; omega
theorem bnd_id {t : Int} (h : isT t) : bnd t = t := by unfold isT at h; unfold bnd; omega

/-- a * num / den, rounded up or down, within bounds. -/
def partS (a num den : Int) (up : Bool) : Int := bnd (if up then -((-(a * num)) / den) else a * num / den)
/-- The same, as both texts reckon it: the size's quotient q, whether there is a rest, the sign. -/
def partQ (a q : Int) (rest up : Bool) : Int :=
  bnd (if a < 0 then -(q + if rest && (up == decide (0 < a)) then 1 else 0) else q + if rest && (up == decide (0 < a)) then 1 else 0)
theorem div_parts {x d : Int} (hd : 0 < d) : d * (x / d) + x % d = x ∧ 0 ≤ x % d ∧ x % d < d := ⟨Int.mul_ediv_add_emod x d, Int.emod_nonneg x (by omega), Int.emod_lt_of_pos x hd⟩
theorem div_unique {x d q r : Int} (h : d * q + r = x) (h0 : 0 ≤ r) (h1 : r < d) : x / d = q ∧ x % d = r := by
  have hd : 0 < d := by omega
  have h2 : x / d = q := by
    rw [← h, Int.add_comm, Int.add_mul_ediv_left _ _ (by omega), Int.ediv_eq_zero_of_lt h0 h1]; omega
  have h3 := Int.mul_ediv_add_emod x d
  rw [h2] at h3
  exact ⟨h2, by omega⟩
/-- The quotient of the negative: one further down if there is a rest. -/
theorem div_neg {x d : Int} (hd : 0 < d) : (-x) / d = -(x / d) - if x % d = 0 then 0 else 1 := by
  obtain ⟨e, h0, h1⟩ := div_parts (x := x) hd
  by_cases h : x % d = 0
  · rw [if_pos h]
    refine (div_unique (q := -(x / d) - 0) (r := 0) ?_ (by omega) hd).1
    have : d * (-(x / d) - 0) = -(d * (x / d)) := by rw [Int.sub_zero, Int.mul_neg]
    omega
  · rw [if_neg h]
    refine (div_unique (q := -(x / d) - 1) (r := d - x % d) ?_ (by omega) (by omega)).1
    have : d * (-(x / d) - 1) = -(d * (x / d)) - d := by rw [Int.mul_sub, Int.mul_neg, Int.mul_one]
    omega
/-- The size of a fraction, its quotient and its rest, give the fraction. -/
theorem partQ_eq {a num den : Int} {up : Bool} (hn : 0 ≤ num) (hd : 0 < den) :
    partQ a ((max a (-a)) * num / den) (decide (0 < (max a (-a)) * num % den)) up = partS a num den up := by
  unfold partQ partS
  congr 1
  rcases Int.lt_or_le a 0 with h | h
  · rw [if_pos h, show max a (-a) = -a by omega, show a * num = -(-a * num) by rw [Int.neg_mul, Int.neg_neg], Int.neg_neg]
    have e := div_neg (x := -a * num) hd
    obtain ⟨_, h0, _⟩ := div_parts (x := -a * num) hd
    have g : decide (0 < a) = false := decide_eq_false (by omega)
    rw [g, e]
    cases up
    · by_cases hz : -a * num % den = 0
      · rw [if_pos hz, hz]; simp
      · rw [if_neg hz, decide_eq_true (show 0 < -a * num % den by omega)]; simp; omega
    · simp
  · rw [if_neg (by omega), show max a (-a) = a by omega]
    have e := div_neg (x := a * num) hd
    obtain ⟨_, h0, _⟩ := div_parts (x := a * num) hd
    rw [e]
    rcases Int.lt_or_le 0 a with h' | h'
    · rw [decide_eq_true h']
      cases up
      · simp
      · by_cases hz : a * num % den = 0
        · rw [if_pos hz, hz]; simp
        · rw [if_neg hz, decide_eq_true (show 0 < a * num % den by omega)]; simp; omega
    · have ha : a = 0 := by omega
      subst ha
      simp
/-- Past the bound it doesn't matter how far. -/
theorem partQ_far {a q : Int} {rest rest' up : Bool} {q' : Int} (h : 2305843009213693952 ≤ q) (h' : 2305843009213693952 ≤ q') : partQ a q rest up = partQ a q' rest' up := by
  unfold partQ bnd
  split <;> split <;> split <;> omega

def stampS (t : Int) : Int := t * 4096 % 18446744073709551616
/-- The time that a stamp tells next to a pivot. -/
def unfT (s p : Int) : Int := p - 2251799813685248 + (s / 4096 - (p - 2251799813685248)) % 4503599627370496
def inPivot (p : Int) : Prop := -2301339409586323456 ≤ p ∧ p ≤ 2301339409586323456
instance (p : Int) : Decidable (inPivot p) := inferInstanceAs (Decidable (_ ∧ _))
def unfHi (s p : Int) : Int := if s % 4096 = 0 then unfT s p else unfT s p + 1
theorem unfT_near (s p : Int) : p - 2251799813685248 ≤ unfT s p ∧ unfT s p < p + 2251799813685248 := by
  unfold unfT; omega
def shortS (d : Int) : Int := min ((max d 0 + 15) / 16) 4294967295

/-! ### Spans -/
def isSpan (lo hi : Int) : Prop := isT lo ∧ isT hi ∧ lo ≤ hi
instance (lo hi : Int) : Decidable (isSpan lo hi) := inferInstanceAs (Decidable (_ ∧ _ ∧ _))
def shiftLo (lo d : Int) : Int := if lo = -2305843009213693952 then lo else bnd (lo + d)
def shiftHi (hi d : Int) : Int := if hi = 2305843009213693952 then hi else bnd (hi + d)

end Go.Proofs.Ytgahmboecbfplaa
