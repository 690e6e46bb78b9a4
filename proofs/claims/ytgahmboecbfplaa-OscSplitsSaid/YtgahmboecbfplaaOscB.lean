/- Layer 2, plain: what a count says of the time that went by. -/
import Derived.Test.YtgahmboecbfplaaOsc4
namespace Go.Proofs.Ytgahmboecbfplaa
set_option linter.unusedVariables false
set_option linter.unusedSimpArgs false

theorem rest_form {f : Nat → Leg} {n : Nat} {t : Int} (ht : 0 ≤ t) (h : okN f n) : rest f t n = max (t - long f n) 0 := by
  induction n with
  | zero => simp only [rest, long]; omega
  | succ n ih =>
    have := ih (okN_mono h (by omega))
    obtain ⟨h1, _⟩ := h n (by omega)
    simp only [rest, long]
    omega
/-- Two times, one way: how far the counts are apart. -/
theorem parts_near {f : Nat → Leg} {n : Nat} {a b rho : Int} (ha : 0 ≤ a) (hab : a ≤ b) (h : okN f n) (hr : ∀ i, i < n → -rho ≤ (f i).ppm ∧ (f i).ppm ≤ rho) :
    0 ≤ whole f b n - whole f a n ∧ -(rho * (whole f b n - whole f a n)) ≤ parts f b n - parts f a n ∧ parts f b n - parts f a n ≤ rho * (whole f b n - whole f a n) := by
  induction n with
  | zero => simp [whole, parts]
  | succ n ih =>
    obtain ⟨i1, i2, i3⟩ := ih (okN_mono h (by omega)) (fun i hi => hr i (by omega))
    obtain ⟨h1, h2, h3, h4⟩ := h n (by omega)
    obtain ⟨r1, r2⟩ := hr n (by omega)
    have f1 := rest_form (t := a) ha (okN_mono h (show n ≤ n + 1 by omega))
    have f2 := rest_form (t := b) (by omega) (okN_mono h (show n ≤ n + 1 by omega))
    simp only [whole, parts]
    have hx : min (max (rest f a n) 0) (f n).len ≤ min (max (rest f b n) 0) (f n).len := by omega
    generalize min (max (rest f a n) 0) (f n).len = x at *
    generalize min (max (rest f b n) 0) (f n).len = y at *
    have := mul_ppm (x := y - x) (by omega) r1 r2
    have e1 : (y - x) * (f n).ppm = y * (f n).ppm - x * (f n).ppm := Int.sub_mul _ _ _
    have e2 : rho * (whole f b n + y - (whole f a n + x)) = rho * (whole f b n - whole f a n) + rho * (y - x) := by rw [← Int.mul_add]; congr 1; omega
    rw [e1] at this
    rw [e2]
    omega
theorem whole_all {f : Nat → Leg} {n : Nat} {t : Int} (ht : 0 ≤ t) (h : okN f n) (hl : t ≤ long f n) : whole f t n = t ∧ rest f t n = 0 := by
  have := rest_form ht h
  have e := rest_eq f t n
  omega

theorem floor_apart {x y : Int} (h : x ≤ y) : x / 1000000 ≤ y / 1000000 ∧ 1000000 * (y / 1000000 - x / 1000000) ≤ y - x + 999999 ∧ y - x - 999999 ≤ 1000000 * (y / 1000000 - x / 1000000) := by omega
/-- The bounds hold what went by. -/
theorem bounds_hold {d D rho : Int} (hD : 0 ≤ D) (hD2 : D ≤ 1099511627776) (hd : 0 ≤ d) (r0 : 0 ≤ rho) (r1 : rho ≤ 1000) (h1 : 1000000 * d ≤ (1000000 + rho) * D + 999999) (h2 : (1000000 - rho) * D - 999999 ≤ 1000000 * d) :
    elOk d rho ∧ elE d rho = 0 ∧ elLo d rho ≤ D ∧ D ≤ elHi d rho := by
  have hok : elOk d rho := ⟨hd, r0, r1⟩
  refine ⟨hok, by unfold elE; rw [if_pos hok], ?_, ?_⟩
  · unfold elLo
    rw [if_pos hok]
    split
    · unfold loT
      refine Int.le_of_lt_add_one (Int.ediv_lt_of_lt_mul (by omega) ?_)
      rw [Int.add_mul, Int.mul_comm D, Int.one_mul]
      rcases Int.le_total d 1 with h | h
      · rw [show max (d - 1) 0 = 0 by omega]
        have : 0 ≤ (1000000 + rho) * D := Int.mul_nonneg (by omega) hD
        omega
      · rw [show max (d - 1) 0 = d - 1 by omega]
        omega
    · exact hD
  · unfold elHi
    rw [if_pos hok]
    split
    · unfold hiT
      have hm : 0 < 1000000 - rho := by omega
      have : -((d + 1) * 1000000) / (1000000 - rho) ≤ -D := by
        refine Int.le_of_lt_add_one (Int.ediv_lt_of_lt_mul hm ?_)
        have e : (-D + 1) * (1000000 - rho) = -((1000000 - rho) * D) + (1000000 - rho) := by grind
        rw [e]
        omega
      omega
    · omega
/-- What the law says of two times. -/
theorem osc_bounds {f : Nat → Leg} {n : Nat} {a b rho : Int} (ha : 0 ≤ a) (hab : a ≤ b) (hb : b ≤ long f n) (h : okN f n) (r0 : 0 ≤ rho) (r1 : rho ≤ 1000) (hr : ∀ i, i < n → -rho ≤ (f i).ppm ∧ (f i).ppm ≤ rho) :
    rawV f n a = rawT f n a ∧ rawE f n a = 0 ∧ rawV f n b = rawT f n b ∧ rawE f n b = 0 ∧ rawT f n a ≤ rawT f n b ∧ 0 ≤ rawT f n a ∧ rawT f n b ≤ 1200000000000 ∧
    elE (rawT f n b - rawT f n a) rho = 0 ∧ elLo (rawT f n b - rawT f n a) rho ≤ b - a ∧ b - a ≤ elHi (rawT f n b - rawT f n a) rho ∧
    ∃ s1 s2 : Int, ageV a a (rawT f n b - rawT f n a) rho = .agg #[.int .i64 s1, .int .i64 s2] ∧ ageE a a (rawT f n b - rawT f n a) rho = 0 ∧ s1 ≤ b ∧ b ≤ s2 := by
  obtain ⟨l0, l1⟩ := long_bound h
  obtain ⟨wa, ra⟩ := whole_all ha h (by omega)
  obtain ⟨wb, rb⟩ := whole_all (t := b) (by omega) h hb
  obtain ⟨p1, p2, p3⟩ := parts_near ha hab h hr
  obtain ⟨-, -, a3, a4⟩ := whole_bound a h
  obtain ⟨-, -, b3, b4⟩ := whole_bound b h
  rw [wa] at a3 a4
  rw [wb] at b3 b4
  rw [wa, wb] at p1 p2 p3
  have ea : rawT f n a = (1000000 * a + parts f a n) / 1000000 := by unfold rawT; rw [wa]
  have eb : rawT f n b = (1000000 * b + parts f b n) / 1000000 := by unfold rawT; rw [wb]
  have va : rawV f n a = rawT f n a := by unfold rawV; rw [if_pos ⟨h, ha, by omega⟩]
  have vb : rawV f n b = rawT f n b := by unfold rawV; rw [if_pos ⟨h, by omega, by omega⟩]
  have za : rawE f n a = 0 := by unfold rawE; rw [if_pos h, if_pos ⟨ha, by omega⟩]
  have zb : rawE f n b = 0 := by unfold rawE; rw [if_pos h, if_pos ⟨by omega, by omega⟩]
  have m1 : rho * (b - a) ≤ 1000 * (b - a) := Int.mul_le_mul_of_nonneg_right r1 (by omega)
  have m0 : 0 ≤ rho * (b - a) := Int.mul_nonneg r0 (by omega)
  obtain ⟨f1, f2, f3⟩ := floor_apart (x := 1000000 * a + parts f a n) (y := 1000000 * b + parts f b n) (by omega)
  rw [← ea, ← eb] at f1 f2 f3
  have x0 : 0 ≤ rawT f n a := by rw [ea]; omega
  have x1 : rawT f n b ≤ 1200000000000 := by rw [eb]; omega
  obtain ⟨d, hd⟩ : ∃ d, rawT f n b - rawT f n a = d := ⟨_, rfl⟩
  rw [hd] at f2 f3 ⊢
  obtain ⟨g0, g1, g2, g3⟩ := bounds_hold (d := d) (D := b - a) (rho := rho) (by omega) (by omega) (by omega) r0 r1 (by rw [Int.add_mul]; omega) (by rw [Int.sub_mul]; omega)
  have hs : isSpan a a := ⟨⟨by omega, by omega⟩, ⟨by omega, by omega⟩, by omega⟩
  obtain ⟨t1, t2, t3, t4⟩ := el_isT d rho
  refine ⟨va, za, vb, zb, f1, x0, x1, g1, g2, g3, ageLo a d rho, ageHi a d rho, ?_, ?_, ?_, ?_⟩
  · unfold ageV; rw [if_pos ⟨hs, g0⟩]; rfl
  · unfold ageE; rw [if_pos hs, if_pos g0]
  · unfold ageLo shiftLo bnd; split <;> omega
  · unfold ageHi shiftHi bnd; split <;> omega
end Go.Proofs.Ytgahmboecbfplaa
