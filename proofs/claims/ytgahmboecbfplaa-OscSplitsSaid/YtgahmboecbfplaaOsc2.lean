/- Layer 2: counts. -/
import Derived.Test.YtgahmboecbfplaaOsc1
namespace Go.Proofs.Ytgahmboecbfplaa
set_option linter.unusedVariables false
set_option linter.unusedSimpArgs false
open Go.RowKit
attribute [local go_sem] max2_mm min2_mm max_two min_two

theorem osc_Raw (A : Option Addr) (n c : Nat) (f : Nat → Leg) (t : Int) (w : World) (hw : Way w A n f) (ht2 : t ≤ 9223372036854775807) :
    Calls Try.prog 8 #[.slice A n c, .int .i64 t] w fun e w' => e = .returned (.tuple #[.int .i64 (rawV f n t), .int .i64 (rawE f n t)]) ∧ Below w.heap.size w w' := by
  by_cases hok : okN f n
  · rcases Int.lt_or_le t 0 with h | h
    · have HW := Lib.hid hw
      have HC := Lib.hid (show wayE f n = 0 by unfold wayE; rw [if_pos hok])
      have HV := Lib.hid (show rawV f n t = 0 by unfold rawV; rw [if_neg (fun h' => by omega)])
      have HE := Lib.hid (show rawE f n t = 2 by unfold rawE; rw [if_pos hok, if_neg (fun h' => by omega)])
      clear hw hok
      rw [HV.out, HE.out]
      go_enter Try.func8, Try.ntmps8
      go_wp2_with (go_at_call 10; refine (osc_Check _ _ _ _ _ HW.out).mono ?_; rintro e w1 ⟨rfl, hb⟩; rw [HC.out])
      go_ret2
      exact ⟨rfl, hb⟩
    · exact osc_RawIn A n c f t w hw hok h ht2
  · have HW := Lib.hid hw
    have HC := Lib.hid (show wayE f n = 3 by unfold wayE; rw [if_neg hok])
    have HV := Lib.hid (show rawV f n t = 0 by unfold rawV; rw [if_neg (fun h' => hok h'.1)])
    have HE := Lib.hid (show rawE f n t = 3 by unfold rawE; rw [if_neg hok])
    clear hw hok
    rw [HV.out, HE.out]
    go_enter Try.func8, Try.ntmps8
    go_wp2_with (go_at_call 10; refine (osc_Check _ _ _ _ _ HW.out).mono ?_; rintro e w1 ⟨rfl, hb⟩; rw [HC.out])
    go_ret2
    exact ⟨rfl, hb⟩

def RRawRel (w0 : World) (f : Nat → Leg) (n : Nat) (t : Int) (m : Nat) (left wh pa i : Value) (wr : World) : Prop :=
  ∃ k : Nat, k + m = n ∧ i = .int .i64 k ∧ left = .int .i64 (rest f t k) ∧ wh = .int .i64 (whole f t k) ∧ pa = .int .i64 (parts f t k) ∧ Below w0.heap.size w0 wr ∧ w0.heap.size ≤ wr.heap.size
theorem rraw_step {x p c : Int} (h0 : 0 ≤ x) (h1 : x ≤ 1099511627776) (p1 : -1000 ≤ p) (p2 : p ≤ 1000) : IntKind.i64.wrap (x * p) = x * p ∧ -1099511627776000 ≤ x * p ∧ x * p ≤ 1099511627776000 := by
  have := mul_ppm h0 p1 p2
  exact ⟨wrap_i64_id (by omega) (by omega), by omega, by omega⟩
/-- The floor out of the quotient toward nought and the rest's sign. -/
theorem floor_neg {x : Int} : x / 1000000 = x.tdiv 1000000 - (if x.tmod 1000000 < 0 then 1 else 0) := by
  rcases Int.lt_or_le x 0 with h | h
  · obtain ⟨y, rfl⟩ : ∃ y, x = -y := ⟨-x, by omega⟩
    rw [Int.neg_tdiv, Int.neg_tmod, Int.tdiv_eq_ediv_of_nonneg (by omega), Int.tmod_eq_emod_of_nonneg (by omega)]
    split <;> omega
  · rw [Int.tdiv_eq_ediv_of_nonneg h, Int.tmod_eq_emod_of_nonneg h, if_neg (by omega)]; omega

set_option maxHeartbeats 1000000 in
theorem ref2_RawIn (A : Option Addr) (n c : Nat) (f : Nat → Leg) (t : Int) (w : World) (hw : Way w A n f) (hok : okN f n) (ht1 : -9223372036854775808 ≤ t) (ht2 : t ≤ 9223372036854775807) :
    Calls Try.prog 9 #[.slice A n c, .int .i64 t] w fun e w' => e = .returned (.tuple #[.int .i64 (rawV f n t), .int .i64 (rawE f n t)]) ∧ Below w.heap.size w w' := by
  have hn := hw.1
  have HW := Lib.hid hw
  have HOK := Lib.hid hok
  have HC := Lib.hid (show wayE f n = 0 by unfold wayE; rw [if_pos hok])
  have HV := Lib.hid (show rawV f n t = if 0 ≤ t ∧ rest f t n ≤ 0 then rawT f n t else 0 by unfold rawV; simp only [hok, true_and])
  have HE := Lib.hid (show rawE f n t = if 0 ≤ t ∧ rest f t n ≤ 0 then 0 else 2 by unfold rawE; rw [if_pos hok])
  clear hw hok
  go_enter Try.func9, Try.ntmps9
  go_wp2_with (go_at_call 11; refine (ref2_Check _ _ _ _ _ HW.out).mono ?_; rintro e w1 ⟨rfl, hb⟩; rw [HC.out])
  have HB1 := Lib.hid hb
  clear hb
  go_loopg [6, 7, 8, 9] n (fun m tt wh pa i wr => RRawRel w f n t m tt wh pa i wr)
  case atStart => exact ⟨0, by omega, rfl, rfl, rfl, rfl, HB1.out, HB1.out.size⟩
  case round =>
    obtain ⟨k, hkm, rfl, rfl, rfl, rfl, hbel, hsz⟩ := hrel
    have HB := Lib.hid hbel
    obtain ⟨v1, v2, v3, v4⟩ := whole_bound t (okN_mono HOK.out (show k ≤ n by omega))
    obtain ⟨l1, l2⟩ := long_bound (okN_mono HOK.out (show k ≤ n by omega))
    have r1 := rest_eq f t k
    have r2 : t < 0 → rest f t k = t := fun h => rest_neg h (okN_mono HOK.out (show k ≤ n by omega))
    rcases Nat.lt_or_ge k n with hlt | hge
    · have hkn : (k : Int) < (n : Int) := by omega
      obtain ⟨b, o, rfl, hcell⟩ := HW.out.2.2 (by omega)
      obtain ⟨e0, e1, eb⟩ := (hcell k hlt).below HB.out
      obtain ⟨a1, a2, a3, a4⟩ := HOK.out k hlt
      obtain ⟨u1, u2, u3, u4⟩ := whole_bound t (okN_mono HOK.out (show k + 1 ≤ n by omega))
      obtain ⟨u5, u6⟩ := long_bound (okN_mono HOK.out (show k + 1 ≤ n by omega))
      have q1 : rest f t (k + 1) = rest f t k - min (max (rest f t k) 0) (f k).len := rfl
      have q2 : whole f t (k + 1) = whole f t k + min (max (rest f t k) 0) (f k).len := rfl
      have q3 : parts f t (k + 1) = parts f t k + min (max (rest f t k) 0) (f k).len * (f k).ppm := rfl
      obtain ⟨x, hx⟩ : ∃ x, (f k).len = x := ⟨_, rfl⟩
      obtain ⟨p, hp⟩ : ∃ x, (f k).ppm = x := ⟨_, rfl⟩
      obtain ⟨R, hR⟩ : ∃ x, rest f t k = x := ⟨_, rfl⟩
      obtain ⟨W, hW⟩ : ∃ x, whole f t k = x := ⟨_, rfl⟩
      obtain ⟨P, hP⟩ : ∃ x, parts f t k = x := ⟨_, rfl⟩
      rw [hR, hx] at q1 q2 q3
      rw [hp] at q3
      rw [hx] at a1 a2 e0
      rw [hp] at a3 a4 e1
      rw [hW] at q2 r1 v1 v2 v3 v4
      rw [hP] at q3 v3 v4
      rw [hR] at r1 r2
      rw [hR, hW, hP]
      obtain ⟨y, hy⟩ : ∃ y, min (max R 0) x = y := ⟨_, rfl⟩
      rw [hy] at q1 q2 q3
      have y0 : 0 ≤ y := by omega
      have y1 : y ≤ 1099511627776 := by omega
      obtain ⟨m1, m2, m3⟩ := rraw_step (c := 0) y0 y1 a3 a4
      have R1 : R ≤ 9223372036854775807 := by omega
      have R0 : -9223372036854775808 ≤ R - y := by omega
      have R2 : R - y ≤ 9223372036854775807 := by omega
      have w1 : W + y ≤ 9223372036854775807 := by omega
      have w0 : 0 ≤ W := by omega
      have p1 : P + y * p ≤ 9223372036854775807 := by omega
      have p0 : -9223372036854775808 ≤ P + y * p := by omega
      have HR := Lib.hid q1
      have HW2 := Lib.hid q2
      have HP := Lib.hid q3
      clear q1 q2 q3 hcell v1 v2 v3 v4 u1 u2 u3 u4 u5 u6 r1 r2 hR hW hP hx hp
      obtain ⟨z, hz⟩ : ∃ z, y * p = z := ⟨_, rfl⟩
      rw [hz] at HP m1 m2 m3 p0 p1
      go_wp2_with fail
      go_roundg (gk - 1)
      case measure => omega
      case rel => exact ⟨k + 1, by omega, by go_num, by rw [HR.out], by rw [HW2.out], by rw [HP.out], HB.out, hsz⟩
    · have hkn : ¬ (k : Int) < (n : Int) := by omega
      have hkn' : k = n := by omega
      subst hkn'
      obtain ⟨R, hR⟩ : ∃ x, rest f t k = x := ⟨_, rfl⟩
      obtain ⟨W, hW⟩ : ∃ x, whole f t k = x := ⟨_, rfl⟩
      obtain ⟨P, hP⟩ : ∃ x, parts f t k = x := ⟨_, rfl⟩
      clear r2
      rw [hR] at HV HE r1 ⊢
      have HT := Lib.hid (show rawT f k t = W + P / 1000000 by unfold rawT; rw [hW, hP]; omega)
      rw [hW] at r1 v1 v2 v3 v4 ⊢
      rw [hP] at v3 v4 ⊢
      have hfl := floor_neg (x := P)
      obtain ⟨q, hq⟩ : ∃ q, P.tdiv 1000000 = q := ⟨_, rfl⟩
      obtain ⟨r, hr⟩ : ∃ q, P.tmod 1000000 = q := ⟨_, rfl⟩
      rw [hq, hr] at hfl
      have hq1 : -1099511628776 ≤ q ∧ q ≤ 1099511628776 := by split at hfl <;> omega
      obtain ⟨hq1, hq2⟩ := hq1
      have hwq : IntKind.i64.wrap q = q := wrap_i64_id (by omega) (by omega)
      have w1 : 0 ≤ W := by omega
      have w2 : W ≤ 1099511627776 := by omega
      have HFL := Lib.hid hfl
      have HR1 := Lib.hid r1
      clear hfl r1 hR hW hP v1 v2 v3 v4 l1 l2
      rcases Int.lt_or_le t 0 with ht0 | ht0
      · go_wp2_with fail
        go_ret2
        exact ⟨ret2i (by rw [HV.out, if_neg (by omega)]) (by rw [HE.out, if_neg (by omega)]), HB.out⟩
      · rcases Int.lt_or_le 0 R with hR0 | hR0
        · go_wp2_with fail
          go_ret2
          exact ⟨ret2i (by rw [HV.out, if_neg (by omega)]) (by rw [HE.out, if_neg (by omega)]), HB.out⟩
        · rcases Int.lt_or_le r 0 with hr0 | hr0
          · have hg : decide (r < 0) = true := decide_eq_true hr0
            go_wp2_with fail
            go_ret2
            exact ⟨ret2i (by rw [HV.out, if_pos (by omega), HT.out, HFL.out, if_pos hr0]) (by rw [HE.out, if_pos (by omega)]), HB.out⟩
          · have hg : decide (r < 0) = false := decide_eq_false (by omega)
            go_wp2_with fail
            go_ret2
            exact ⟨ret2i (by rw [HV.out, if_pos (by omega), HT.out, HFL.out, if_neg (by omega)]; omega) (by rw [HE.out, if_pos (by omega)]), HB.out⟩
theorem ref2_Raw (A : Option Addr) (n c : Nat) (f : Nat → Leg) (t : Int) (w : World) (hw : Way w A n f) (ht1 : -9223372036854775808 ≤ t) (ht2 : t ≤ 9223372036854775807) :
    Calls Try.prog 9 #[.slice A n c, .int .i64 t] w fun e w' => e = .returned (.tuple #[.int .i64 (rawV f n t), .int .i64 (rawE f n t)]) ∧ Below w.heap.size w w' := by
  by_cases hok : okN f n
  · exact ref2_RawIn A n c f t w hw hok ht1 ht2
  · have HW := Lib.hid hw
    have HC := Lib.hid (show wayE f n = 3 by unfold wayE; rw [if_neg hok])
    have HV := Lib.hid (show rawV f n t = 0 by unfold rawV; rw [if_neg (fun h' => hok h'.1)])
    have HE := Lib.hid (show rawE f n t = 3 by unfold rawE; rw [if_neg hok])
    clear hw hok
    rw [HV.out, HE.out]
    go_enter Try.func9, Try.ntmps9
    go_wp2_with (go_at_call 11; refine (ref2_Check _ _ _ _ _ HW.out).mono ?_; rintro e w1 ⟨rfl, hb⟩; rw [HC.out])
    go_ret2
    exact ⟨rfl, hb⟩
end Go.Proofs.Ytgahmboecbfplaa
