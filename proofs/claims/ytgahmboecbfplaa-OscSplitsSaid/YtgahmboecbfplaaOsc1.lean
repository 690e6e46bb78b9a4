/- Layer 2: ways are checked. -/
import Derived.Test.YtgahmboecbfplaaOscW
import Derived.Test.YtgahmboecbfplaaFix3
import Derived.Deep.LoopGhost
namespace Go.Proofs.Ytgahmboecbfplaa
set_option linter.unusedVariables false
set_option linter.unusedSimpArgs false
open Go.RowKit
attribute [local go_sem] max2_mm min2_mm max_two min_two

def ChkRel (w0 : World) (A : Option Addr) (n : Nat) (f : Nat → Leg) (m : Nat) (left i : Value) (wr : World) : Prop :=
  ∃ k : Nat, k + m = n ∧ okN f k ∧ i = .int .i64 k ∧ left = .int .i64 (1099511627776 - long f k) ∧ Below w0.heap.size w0 wr ∧ w0.heap.size ≤ wr.heap.size

set_option maxHeartbeats 1000000 in
theorem osc_Check (A : Option Addr) (n c : Nat) (f : Nat → Leg) (w : World) (hw : Way w A n f) :
    Calls Try.prog 10 #[.slice A n c] w fun e w' => e = .returned (.int .i64 (wayE f n)) ∧ Below w.heap.size w w' := by
  have hn := hw.1
  have HW := Lib.hid hw
  clear hw
  go_enter Try.func10, Try.ntmps10
  go_wp2_with fail
  go_loopg [3, 8] n (fun m l i wr => ChkRel w A n f m l i wr)
  case atStart => exact ⟨0, by omega, okN_zero f, rfl, by simp [long], Below.refl _ _, Nat.le_refl _⟩
  case round =>
    obtain ⟨k, hkm, hok, rfl, rfl, hbel, hsz⟩ := hrel
    have HB := Lib.hid hbel
    have HOK := Lib.hid hok
    obtain ⟨s1, s2⟩ := long_bound hok
    obtain ⟨s, hs⟩ : ∃ s, long f k = s := ⟨_, rfl⟩
    have HS := Lib.hid hs
    rw [hs] at s1 s2 ⊢
    clear hbel hok hs
    rcases Nat.lt_or_ge k n with hlt | hge
    · have hkn : (k : Int) < (n : Int) := by omega
      obtain ⟨b, o, rfl, hcell⟩ := HW.out.2.2 (by omega)
      obtain ⟨e0, e1, eb⟩ := (hcell k hlt).below HB.out
      have hat : okAt f k ↔ (0 ≤ (f k).len ∧ s + (f k).len ≤ 1099511627776 ∧ -1000 ≤ (f k).ppm ∧ (f k).ppm ≤ 1000) := by unfold okAt; rw [HS.out]
      have hlen : long f (k + 1) = s + (f k).len := by simp only [long]; rw [HS.out]
      have HAT := Lib.hid hat
      have HLEN := Lib.hid hlen
      have q0 := (f k).l0
      have q1 := (f k).l1
      have q2 := (f k).p0
      have q3 := (f k).p1
      obtain ⟨x, hx⟩ : ∃ x, (f k).len = x := ⟨_, rfl⟩
      obtain ⟨p, hp⟩ : ∃ x, (f k).ppm = x := ⟨_, rfl⟩
      rw [hx] at HAT HLEN e0 q0 q1
      rw [hp] at HAT e1 q2 q3
      clear hat hlen hx hp hcell
      by_cases ha : okAt f k
      · obtain ⟨a1, a2, a3, a4⟩ := HAT.out.1 ha
        have HA := Lib.hid ha
        clear ha
        go_wp2_with fail
        go_roundg (gk - 1)
        case measure => omega
        case rel => exact ⟨k + 1, by omega, okN_succ HOK.out HA.out, by go_num, by rw [HLEN.out]; exact congrArg _ (by omega), HB.out.alloc HB.out.size _, by simp; have := HB.out.size; omega⟩
      · have hna : x < 0 ∨ 1099511627776 - s < x ∨ p < -1000 ∨ 1000 < p := by
          have : ¬ (0 ≤ x ∧ s + x ≤ 1099511627776 ∧ -1000 ≤ p ∧ p ≤ 1000) := fun h => ha (HAT.out.2 h)
          omega
        have HR := Lib.hid (show wayE f n = 3 by unfold wayE; rw [if_neg (fun h => ha (h k hlt))])
        clear ha
        go_wp2_with fail
        all_goals
          go_ret
          exact ⟨ret1i HR.out.symm, HB.out.alloc HB.out.size _⟩
    · have hkn : ¬ (k : Int) < (n : Int) := by omega
      have hkn' : k = n := by omega
      subst hkn'
      have HR := Lib.hid (show wayE f k = 0 by unfold wayE; rw [if_pos HOK.out])
      go_wp2_with fail
      go_ret
      exact ⟨ret1i HR.out.symm, HB.out⟩
def RChkRel (w0 : World) (A : Option Addr) (n : Nat) (f : Nat → Leg) (m : Nat) (sum i : Value) (wr : World) : Prop :=
  ∃ k : Nat, k + m = n ∧ okN f k ∧ i = .int .i64 k ∧ sum = .int .i64 (long f k) ∧ Below w0.heap.size w0 wr ∧ w0.heap.size ≤ wr.heap.size

set_option maxHeartbeats 1000000 in
theorem ref2_Check (A : Option Addr) (n c : Nat) (f : Nat → Leg) (w : World) (hw : Way w A n f) :
    Calls Try.prog 11 #[.slice A n c] w fun e w' => e = .returned (.int .i64 (wayE f n)) ∧ Below w.heap.size w w' := by
  have hn := hw.1
  have HW := Lib.hid hw
  clear hw
  go_enter Try.func11, Try.ntmps11
  go_wp2_with fail
  go_loopg [3, 4] n (fun m l i wr => RChkRel w A n f m l i wr)
  case atStart => exact ⟨0, by omega, okN_zero f, rfl, by simp [long], Below.refl _ _, Nat.le_refl _⟩
  case round =>
    obtain ⟨k, hkm, hok, rfl, rfl, hbel, hsz⟩ := hrel
    have HB := Lib.hid hbel
    have HOK := Lib.hid hok
    obtain ⟨s1, s2⟩ := long_bound hok
    obtain ⟨s, hs⟩ : ∃ s, long f k = s := ⟨_, rfl⟩
    have HS := Lib.hid hs
    rw [hs] at s1 s2 ⊢
    clear hbel hok hs
    rcases Nat.lt_or_ge k n with hlt | hge
    · have hkn : (k : Int) < (n : Int) := by omega
      obtain ⟨b, o, rfl, hcell⟩ := HW.out.2.2 (by omega)
      obtain ⟨e0, e1, eb⟩ := (hcell k hlt).below HB.out
      have hat : okAt f k ↔ (0 ≤ (f k).len ∧ s + (f k).len ≤ 1099511627776 ∧ -1000 ≤ (f k).ppm ∧ (f k).ppm ≤ 1000) := by unfold okAt; rw [HS.out]
      have hlen : long f (k + 1) = s + (f k).len := by simp only [long]; rw [HS.out]
      have HAT := Lib.hid hat
      have HLEN := Lib.hid hlen
      have q0 := (f k).l0
      have q1 := (f k).l1
      have q2 := (f k).p0
      have q3 := (f k).p1
      obtain ⟨x, hx⟩ : ∃ x, (f k).len = x := ⟨_, rfl⟩
      obtain ⟨p, hp⟩ : ∃ x, (f k).ppm = x := ⟨_, rfl⟩
      rw [hx] at HAT HLEN e0 q0 q1
      rw [hp] at HAT e1 q2 q3
      clear hat hlen hx hp hcell
      by_cases ha : okAt f k
      · obtain ⟨a1, a2, a3, a4⟩ := HAT.out.1 ha
        have HA := Lib.hid ha
        clear ha
        go_wp2_with fail
        go_roundg (gk - 1)
        case measure => omega
        case rel => exact ⟨k + 1, by omega, okN_succ HOK.out HA.out, by go_num, by rw [HLEN.out], HB.out.alloc HB.out.size _, by simp; have := HB.out.size; omega⟩
      · have hna : x < 0 ∨ 1099511627776 - s < x ∨ p < -1000 ∨ 1000 < p := by
          have : ¬ (0 ≤ x ∧ s + x ≤ 1099511627776 ∧ -1000 ≤ p ∧ p ≤ 1000) := fun h => ha (HAT.out.2 h)
          omega
        have HR := Lib.hid (show wayE f n = 3 by unfold wayE; rw [if_neg (fun h => ha (h k hlt))])
        clear ha
        go_wp2_with fail
        all_goals
          go_ret
          exact ⟨ret1i HR.out.symm, HB.out.alloc HB.out.size _⟩
    · have hkn : ¬ (k : Int) < (n : Int) := by omega
      have hkn' : k = n := by omega
      subst hkn'
      have HR := Lib.hid (show wayE f k = 0 by unfold wayE; rw [if_pos HOK.out])
      go_wp2_with fail
      go_ret
      exact ⟨ret1i HR.out.symm, HB.out⟩
def RawRel (w0 : World) (f : Nat → Leg) (n : Nat) (t : Int) (m : Nat) (tt count i : Value) (wr : World) : Prop :=
  ∃ k : Nat, k + m = n ∧ i = .int .i64 k ∧ tt = .int .i64 (rest f t k) ∧ count = .int .i64 (1000000 * whole f t k + parts f t k) ∧ Below w0.heap.size w0 wr ∧ w0.heap.size ≤ wr.heap.size

/-- What one leg adds. -/
theorem raw_step {x p c : Int} (h0 : 0 ≤ x) (h1 : x ≤ 1099511627776) (p1 : -1000 ≤ p) (p2 : p ≤ 1000) (c0 : 0 ≤ c) (c1 : c ≤ 1100611139403776000) :
    IntKind.i64.wrap (x * (1000000 + p)) = x * (1000000 + p) ∧ 0 ≤ x * (1000000 + p) ∧ x * (1000000 + p) ≤ 1001000 * x ∧ x * (1000000 + p) = 1000000 * x + x * p := by
  have e : x * (1000000 + p) = 1000000 * x + x * p := by grind
  have := mul_ppm h0 p1 p2
  refine ⟨?_, by omega, by omega, e⟩
  rw [e]
  exact wrap_i64_id (by omega) (by omega)

set_option maxHeartbeats 1000000 in
theorem osc_RawIn (A : Option Addr) (n c : Nat) (f : Nat → Leg) (t : Int) (w : World) (hw : Way w A n f) (hok : okN f n) (ht : 0 ≤ t) (ht2 : t ≤ 9223372036854775807) :
    Calls Try.prog 8 #[.slice A n c, .int .i64 t] w fun e w' => e = .returned (.tuple #[.int .i64 (rawV f n t), .int .i64 (rawE f n t)]) ∧ Below w.heap.size w w' := by
  have hn := hw.1
  have HW := Lib.hid hw
  have HOK := Lib.hid hok
  have HC := Lib.hid (show wayE f n = 0 by unfold wayE; rw [if_pos hok])
  have HV := Lib.hid (show rawV f n t = if rest f t n ≤ 0 then rawT f n t else 0 by unfold rawV; simp only [hok, ht, true_and])
  have HE := Lib.hid (show rawE f n t = if rest f t n ≤ 0 then 0 else 2 by unfold rawE; rw [if_pos hok]; simp only [ht, true_and])
  clear hw hok
  go_enter Try.func8, Try.ntmps8
  go_wp2_with (go_at_call 10; refine (osc_Check _ _ _ _ _ HW.out).mono ?_; rintro e w1 ⟨rfl, hb⟩; rw [HC.out])
  have HB1 := Lib.hid hb
  clear hb
  go_loopg [1, 7, 20] n (fun m tt cc i wr => RawRel w f n t m tt cc i wr)
  case atStart => exact ⟨0, by omega, rfl, rfl, by simp [whole, parts], HB1.out, HB1.out.size⟩
  case round =>
    obtain ⟨k, hkm, rfl, rfl, rfl, hbel, hsz⟩ := hrel
    have HB := Lib.hid hbel
    obtain ⟨v1, v2, v3, v4⟩ := whole_bound t (okN_mono HOK.out (show k ≤ n by omega))
    obtain ⟨l1, l2⟩ := long_bound (okN_mono HOK.out (show k ≤ n by omega))
    have r0 := rest_nonneg ht (okN_mono HOK.out (show k ≤ n by omega))
    have r1 := rest_eq f t k
    rcases Nat.lt_or_ge k n with hlt | hge
    · have hkn : (k : Int) < (n : Int) := by omega
      obtain ⟨b, o, rfl, hcell⟩ := HW.out.2.2 (by omega)
      obtain ⟨e0, e1, eb⟩ := (hcell k hlt).below HB.out
      obtain ⟨a1, a2, a3, a4⟩ := HOK.out k hlt
      have q1 : rest f t (k + 1) = rest f t k - min (max (rest f t k) 0) (f k).len := rfl
      have q2 : whole f t (k + 1) = whole f t k + min (max (rest f t k) 0) (f k).len := rfl
      have q3 : parts f t (k + 1) = parts f t k + min (max (rest f t k) 0) (f k).len * (f k).ppm := rfl
      obtain ⟨x, hx⟩ : ∃ x, (f k).len = x := ⟨_, rfl⟩
      obtain ⟨p, hp⟩ : ∃ x, (f k).ppm = x := ⟨_, rfl⟩
      obtain ⟨R, hR⟩ : ∃ x, rest f t k = x := ⟨_, rfl⟩
      obtain ⟨C, hC⟩ : ∃ x, 1000000 * whole f t k + parts f t k = x := ⟨_, rfl⟩
      rw [hR, hx, show max R 0 = R by omega] at q1 q2 q3
      rw [hp] at q3
      rw [hx] at a1 a2 e0
      rw [hp] at a3 a4 e1
      rw [hR] at r0 r1 ⊢
      rw [hC]
      obtain ⟨y, hy⟩ : ∃ y, min R x = y := ⟨_, rfl⟩
      rw [hy] at q1 q2 q3
      have y0 : 0 ≤ y := by omega
      have y1 : y ≤ 1099511627776 := by omega
      have C0 : 0 ≤ C := by omega
      have C1 : C ≤ 1100611139403776000 := by omega
      have yR : y ≤ R := by omega
      have R1 : R ≤ 9223372036854775807 := by omega
      obtain ⟨m1, m2, m3, m4⟩ := raw_step y0 y1 a3 a4 C0 C1
      have HN : Hid (C + y * (1000000 + p) = 1000000 * whole f t (k + 1) + parts f t (k + 1)) := Lib.hid (by rw [q2, q3, m4]; omega)
      have HR := Lib.hid q1
      clear q1 q2 q3 hcell v1 v2 v3 v4 r1 m4 hR hC hx hp
      obtain ⟨z, hz⟩ : ∃ z, y * (1000000 + p) = z := ⟨_, rfl⟩
      rw [hz] at HN m1 m2 m3
      go_wp2_with fail
      go_roundg (gk - 1)
      case measure => omega
      case rel => exact ⟨k + 1, by omega, by go_num, by rw [HR.out], by rw [← HN.out], HB.out.alloc HB.out.size _, by simp; have := HB.out.size; omega⟩
    · have hkn : ¬ (k : Int) < (n : Int) := by omega
      have hkn' : k = n := by omega
      subst hkn'
      obtain ⟨R, hR⟩ : ∃ x, rest f t k = x := ⟨_, rfl⟩
      obtain ⟨C, hC⟩ : ∃ x, 1000000 * whole f t k + parts f t k = x := ⟨_, rfl⟩
      rw [hR] at HV HE r0 r1 ⊢
      have HT := Lib.hid (show rawT f k t = C / 1000000 by unfold rawT; rw [hC])
      rw [hC]
      have C0 : 0 ≤ C := by omega
      have C1 : C ≤ 1100611139403776000 := by omega
      clear hR hC v1 v2 v3 v4
      rcases Int.lt_or_le 0 R with hR0 | hR0
      · go_wp2_with fail
        go_ret2
        exact ⟨ret2i (by rw [HV.out, if_neg (by omega)]) (by rw [HE.out, if_neg (by omega)]), HB.out⟩
      · have hR0' : ¬ 0 < R := by omega
        go_wp2_with fail
        go_ret2
        exact ⟨ret2i (by rw [HV.out, if_pos (by omega), HT.out]) (by rw [HE.out, if_pos (by omega)]), HB.out⟩
end Go.Proofs.Ytgahmboecbfplaa
