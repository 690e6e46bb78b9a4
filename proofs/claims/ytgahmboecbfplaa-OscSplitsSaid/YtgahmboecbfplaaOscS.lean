/- Layer 2, plain: a leg cut in two; a span aged twice. -/
import Derived.Test.YtgahmboecbfplaaOscB
namespace Go.Proofs.Ytgahmboecbfplaa
set_option linter.unusedVariables false
set_option linter.unusedSimpArgs false

theorem third_l (a : Leg) : -9223372036854775808 ≤ a.len.tdiv 3 ∧ a.len.tdiv 3 ≤ 9223372036854775807 ∧ -9223372036854775808 ≤ a.len - a.len.tdiv 3 ∧ a.len - a.len.tdiv 3 ≤ 9223372036854775807 := by
  have h0 := a.l0
  have h1 := a.l1
  rcases Int.lt_or_le a.len 0 with h | h
  · obtain ⟨y, hy⟩ : ∃ y, a.len = -y := ⟨-a.len, by omega⟩
    rw [hy] at h0 h1 ⊢
    rw [Int.neg_tdiv, Int.tdiv_eq_ediv_of_nonneg (by omega)]
    omega
  · rw [Int.tdiv_eq_ediv_of_nonneg h]
    omega
def legOne (a : Leg) : Leg := ⟨a.len.tdiv 3, a.ppm, (third_l a).1, (third_l a).2.1, a.p0, a.p1⟩
def legTwo (a : Leg) : Leg := ⟨a.len - a.len.tdiv 3, a.ppm, (third_l a).2.2.1, (third_l a).2.2.2, a.p0, a.p1⟩
/-- Leg i cut in two. -/
def cutW (f : Nat → Leg) (i k : Nat) : Leg := if k < i then f k else if k = i then legOne (f i) else if k = i + 1 then legTwo (f i) else f (k - 1)
theorem cut_lo {f : Nat → Leg} {i k : Nat} (h : k < i) : cutW f i k = f k := by unfold cutW; rw [if_pos h]
theorem cut_at (f : Nat → Leg) (i : Nat) : cutW f i i = legOne (f i) := by unfold cutW; rw [if_neg (by omega), if_pos rfl]
theorem cut_next (f : Nat → Leg) (i : Nat) : cutW f i (i + 1) = legTwo (f i) := by unfold cutW; rw [if_neg (by omega), if_neg (by omega), if_pos rfl]
theorem cut_hi {f : Nat → Leg} {i k : Nat} (h : i < k) : cutW f i (k + 1) = f k := by unfold cutW; rw [if_neg (by omega), if_neg (by omega), if_neg (by omega)]; rfl
theorem cut_before (f : Nat → Leg) (i : Nat) (t : Int) (k : Nat) (h : k ≤ i) : long (cutW f i) k = long f k ∧ rest (cutW f i) t k = rest f t k ∧ whole (cutW f i) t k = whole f t k ∧ parts (cutW f i) t k = parts f t k := by
  induction k with
  | zero => exact ⟨rfl, rfl, rfl, rfl⟩
  | succ k ih =>
    obtain ⟨h1, h2, h3, h4⟩ := ih (by omega)
    simp only [long, rest, whole, parts, h1, h2, h3, h4, cut_lo (show k < i by omega)]
    exact ⟨trivial, trivial, trivial, trivial⟩
theorem cut_behind (f : Nat → Leg) (i : Nat) (t : Int) (ht : 0 ≤ t) (k : Nat) (h : i < k) (hok : okN f k) : long (cutW f i) (k + 1) = long f k ∧ rest (cutW f i) t (k + 1) = rest f t k ∧ whole (cutW f i) t (k + 1) = whole f t k ∧ parts (cutW f i) t (k + 1) = parts f t k := by
  induction k with
  | zero => omega
  | succ k ih =>
    rcases Nat.lt_or_ge i k with h' | h'
    · obtain ⟨h1, h2, h3, h4⟩ := ih h' (okN_mono hok (by omega))
      rw [long, rest, whole, parts, h1, h2, h3, h4, cut_hi h', long, rest, whole, parts]
      exact ⟨rfl, rfl, rfl, rfl⟩
    · have hk : k = i := by omega
      subst hk
      obtain ⟨h1, h2, h3, h4⟩ := cut_before f k t k (Nat.le_refl _)
      obtain ⟨o1, _, _, _⟩ := hok k (by omega)
      have r0 := rest_nonneg ht (okN_mono hok (show k ≤ k + 1 by omega))
      simp only [long, rest, whole, parts, h1, h2, h3, h4, cut_at, cut_next, legOne, legTwo]
      rw [Int.tdiv_eq_ediv_of_nonneg o1]
      generalize rest f t k = r at *
      generalize (f k).len = x at *
      generalize (f k).ppm = p at *
      have e : min (max (r - min (max r 0) (x / 3)) 0) (x - x / 3) = min (max r 0) x - min (max r 0) (x / 3) := by omega
      rw [e]
      refine ⟨by omega, by omega, by omega, ?_⟩
      rw [Int.sub_mul]
      omega
theorem cut_ok {f : Nat → Leg} {n i : Nat} (h : okN f n) (hi : i < n) : okN (cutW f i) (n + 1) := by
  intro k hk
  obtain ⟨o1, o2, o3, o4⟩ := h i hi
  rcases Nat.lt_trichotomy k i with h1 | h1 | h1
  · obtain ⟨a1, a2, a3, a4⟩ := h k (by omega)
    unfold okAt
    rw [cut_lo h1, (cut_before f i 0 k (by omega)).1]
    exact ⟨a1, a2, a3, a4⟩
  · subst h1
    unfold okAt
    rw [cut_at, (cut_before f k 0 k (by omega)).1]
    simp only [legOne]
    rw [Int.tdiv_eq_ediv_of_nonneg o1]
    exact ⟨by omega, by omega, o3, o4⟩
  · obtain ⟨k, rfl⟩ : ∃ j, k = j + 1 := ⟨k - 1, by omega⟩
    rcases Nat.lt_or_ge i k with h2 | h2
    · obtain ⟨a1, a2, a3, a4⟩ := h k (by omega)
      unfold okAt
      rw [cut_hi h2, (cut_behind f i 0 (by omega) k h2 (okN_mono h (by omega))).1]
      exact ⟨a1, a2, a3, a4⟩
    · have : k = i := by omega
      subst this
      unfold okAt
      rw [cut_next]
      simp only [long, (cut_before f k 0 k (by omega)).1, cut_at, legOne, legTwo]
      rw [Int.tdiv_eq_ediv_of_nonneg o1]
      exact ⟨by omega, by omega, o3, o4⟩
/-- The cut way counts the same. -/
theorem cut_raw {f : Nat → Leg} {n i : Nat} {t : Int} (h : okN f n) (hi : i < n) (ht : 0 ≤ t) (hl : t ≤ long f n) : rawV (cutW f i) (n + 1) t = rawV f n t ∧ rawE f n t = 0 ∧ rawE (cutW f i) (n + 1) t = 0 := by
  obtain ⟨c1, c2, c3, c4⟩ := cut_behind f i t ht n hi h
  have hc := cut_ok h hi
  obtain ⟨-, hr⟩ := whole_all ht h hl
  refine ⟨?_, ?_, ?_⟩
  · unfold rawV rawT
    rw [c2, c3, c4, if_pos ⟨hc, ht, by omega⟩, if_pos ⟨h, ht, by omega⟩]
  · unfold rawE; rw [if_pos h, if_pos ⟨ht, by omega⟩]
  · unfold rawE; rw [if_pos hc, if_pos ⟨ht, by omega⟩]
theorem long_mono {f : Nat → Leg} {m n : Nat} (h : okN f n) (hm : m ≤ n) : long f m ≤ long f n := by
  induction n with
  | zero => have : m = 0 := by omega
            subst this; exact Int.le_refl _
  | succ n ih =>
    rcases Nat.lt_or_ge m (n + 1) with h1 | h1
    · have := ih (okN_mono h (by omega)) (by omega)
      obtain ⟨a1, _⟩ := h n (by omega)
      simp only [long]
      omega
    · have : m = n + 1 := by omega
      subst this; exact Int.le_refl _

theorem div_super {x y z d : Int} (hd : 0 < d) (h : x + y ≤ z) : x / d + y / d ≤ z / d := by
  obtain ⟨e1, l1, _⟩ := div_parts (x := x) hd
  obtain ⟨e2, l2, _⟩ := div_parts (x := y) hd
  rw [Int.le_ediv_iff_mul_le hd, Int.add_mul, Int.mul_comm _ d, Int.mul_comm _ d]
  omega
theorem lo_super {d m rho : Int} (hd : 0 ≤ d) (hm : 0 ≤ m) (r0 : 0 ≤ rho) : loT d rho + loT m rho ≤ loT (d + m) rho := div_super (by omega) (by omega)
theorem hi_sub {d m rho : Int} (hd : 0 ≤ d) (hm : 0 ≤ m) (r1 : rho ≤ 1000) : hiT (d + m) rho ≤ hiT d rho + hiT m rho := by
  unfold hiT
  have := div_super (x := -((d + 1) * 1000000)) (y := -((m + 1) * 1000000)) (z := -((d + m + 1) * 1000000)) (d := 1000000 - rho) (by omega) (by omega)
  omega
/-- Aged twice holds what aged once holds. -/
theorem age_twice {a b d m rho : Int} (h : isSpan a b) (hd : 0 ≤ d) (hd2 : d < 274877906944) (hm : 0 ≤ m) (hm2 : m < 274877906944) (r0 : 0 ≤ rho) (r1 : rho ≤ 1000) :
    isSpan (ageLo a d rho) (ageHi b d rho) ∧ ageLo (ageLo a d rho) m rho ≤ ageLo a (d + m) rho ∧ ageHi b (d + m) rho ≤ ageHi (ageHi b d rho) m rho := by
  have o1 : elOk d rho := ⟨hd, r0, r1⟩
  have o2 : elOk m rho := ⟨hm, r0, r1⟩
  have o3 : elOk (d + m) rho := ⟨by omega, r0, r1⟩
  have l1 : elLo d rho = loT d rho := by unfold elLo; rw [if_pos o1, if_pos (by omega)]
  have l2 : elLo m rho = loT m rho := by unfold elLo; rw [if_pos o2, if_pos (by omega)]
  have l3 : elLo (d + m) rho = loT (d + m) rho := by unfold elLo; rw [if_pos o3, if_pos (by omega)]
  have h1 : elHi d rho = hiT d rho := by unfold elHi; rw [if_pos o1, if_pos (by omega)]
  have h2 : elHi m rho = hiT m rho := by unfold elHi; rw [if_pos o2, if_pos (by omega)]
  have h3 : elHi (d + m) rho = hiT (d + m) rho := by unfold elHi; rw [if_pos o3, if_pos (by omega)]
  have s1 := lo_super (d := d) (m := m) hd hm r0
  have s2 := hi_sub (d := d) (m := m) (rho := rho) hd hm r1
  obtain ⟨b1, b2⟩ := lo_bound o1 (show d ≤ 1099511627776 by omega)
  obtain ⟨b3, b4⟩ := hi_bound o1 (show d ≤ 1099511627776 by omega)
  obtain ⟨b5, b6⟩ := lo_bound o2 (show m ≤ 1099511627776 by omega)
  obtain ⟨b7, b8⟩ := hi_bound o2 (show m ≤ 1099511627776 by omega)
  have hlh : loT d rho ≤ hiT d rho := by
    unfold loT hiT at *
    have n1 : max (d - 1) 0 * 1000000 / (1000000 + rho) ≤ max (d - 1) 0 := by
      refine Int.le_of_lt_add_one (Int.ediv_lt_of_lt_mul (by omega) ?_)
      have : 0 ≤ max (d - 1) 0 * rho := Int.mul_nonneg (by omega) r0
      have e : (max (d - 1) 0 + 1) * (1000000 + rho) = max (d - 1) 0 * 1000000 + max (d - 1) 0 * rho + 1000000 + rho := by grind
      rw [e]
      omega
    have n2 : -((d + 1) * 1000000) / (1000000 - rho) ≤ -d := by
      refine Int.le_of_lt_add_one (Int.ediv_lt_of_lt_mul (by omega) ?_)
      have : 0 ≤ d * rho := Int.mul_nonneg hd r0
      have e : (-d + 1) * (1000000 - rho) = -(d * 1000000) + d * rho + 1000000 - rho := by grind
      rw [e]
      omega
    omega
  unfold ageLo ageHi
  rw [l1, l2, l3, h1, h2, h3]
  generalize loT d rho = x1 at *
  generalize loT m rho = x2 at *
  generalize loT (d + m) rho = x3 at *
  generalize hiT d rho = y1 at *
  generalize hiT m rho = y2 at *
  generalize hiT (d + m) rho = y3 at *
  unfold isSpan isT at *
  unfold shiftLo shiftHi bnd
  refine ⟨⟨⟨?_, ?_⟩, ⟨?_, ?_⟩, ?_⟩, ?_, ?_⟩
  · split <;> omega
  · split <;> omega
  · split <;> omega
  · split <;> omega
  · split <;> split <;> omega
  · by_cases e : a = -2305843009213693952
    · simp only [if_pos e]; omega
    · simp only [if_neg e]; split <;> omega
  · by_cases e : b = 2305843009213693952
    · simp only [if_pos e]; omega
    · simp only [if_neg e]; split <;> omega
end Go.Proofs.Ytgahmboecbfplaa
