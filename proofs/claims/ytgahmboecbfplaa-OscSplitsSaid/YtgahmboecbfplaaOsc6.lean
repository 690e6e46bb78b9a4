/- The law OscBounds: the walk. -/
import Derived.Test.YtgahmboecbfplaaOsc5
import Derived.Test.YtgahmboecbfplaaOscB
namespace Go.Proofs.Ytgahmboecbfplaa
set_option linter.unusedVariables false
set_option linter.unusedSimpArgs false
open Go.RowKit
attribute [local go_sem] max2_mm min2_mm max_two min_two

theorem tmod_form (a : Int) {w : Int} (hw : 0 < w) : ((a.tmod w) + w).tmod w = a % w ∧ -w < a.tmod w ∧ a.tmod w < w := by
  have e0 := Int.emod_nonneg a (show w ≠ 0 by omega)
  have e1 := Int.emod_lt_of_pos a hw
  rcases Int.lt_or_le a 0 with h | h
  · obtain ⟨y, rfl⟩ : ∃ y, a = -y := ⟨-a, by omega⟩
    rw [Int.neg_tmod, Int.tmod_eq_emod_of_nonneg (show 0 ≤ y by omega)]
    have y0 := Int.emod_nonneg y (show w ≠ 0 by omega)
    have y1 := Int.emod_lt_of_pos y hw
    refine ⟨?_, by omega, by omega⟩
    rw [Int.tmod_eq_emod_of_nonneg (by omega)]
    have : (-(y % w) + w) % w = (-y) % w := by
      rw [Int.emod_def y w, show -(y - w * (y / w)) + w = -y + w * (y / w + 1) by grind, Int.add_mul_emod_self_left]
    exact this
  · rw [Int.tmod_eq_emod_of_nonneg h]
    refine ⟨?_, by omega, by omega⟩
    rw [Int.tmod_eq_emod_of_nonneg (by omega), Int.add_emod_right, Int.emod_emod]
theorem law_into (a x : Int) (hx : 1 ≤ x) (hx2 : x ≤ 4611686018427387904) (w : World) :
    Calls Try.prog 16 #[.int .i64 a, .int .i64 x] w fun e w' => e = .returned (.int .i64 (a % x)) ∧ w = w' := by
  obtain ⟨h1, h2, h3⟩ := tmod_form a (show 0 < x by omega)
  have h0 : ((x : Int) == 0) = false := beq_eq_false_iff_ne.mpr (by omega)
  obtain ⟨m, hm⟩ : ∃ m, a.tmod x = m := ⟨_, rfl⟩
  rw [hm] at h1 h2 h3
  have h4 : IntKind.i64.wrap m = m := wrap_i64_id (by omega) (by omega)
  have h5 : IntKind.i64.wrap (m + x) = m + x := wrap_i64_id (by omega) (by omega)
  have h6 := Int.emod_nonneg a (show x ≠ 0 by omega)
  have h7 := Int.emod_lt_of_pos a (show 0 < x by omega)
  obtain ⟨r, hr⟩ : ∃ r, a % x = r := ⟨_, rfl⟩
  rw [hr] at h1 h6 h7
  rw [hr]
  have h8 : IntKind.i64.wrap r = r := wrap_i64_id (by omega) (by omega)
  have h9 : x ≠ 0 := by omega
  clear hr
  go_enter Try.func16, Try.ntmps16
  go_wp2_with fail
  go_ret
  exact ⟨rfl, rfl⟩

def BndRel (f : Nat → Leg) (n : Nat) (rho : Int) (m : Nat) (sum i : Value) : Prop :=
  ∃ k : Nat, k + m = n ∧ (∀ i, i < k → -rho ≤ (f i).ppm ∧ (f i).ppm ≤ rho) ∧ i = .int .i64 k ∧ sum = .int .i64 (long f k)

set_option maxRecDepth 100000 in
set_option maxHeartbeats 2000000 in
theorem oscBounds_in (A : Option Addr) (n c : Nat) (f : Nat → Leg) (rho a b : Int) (w : World) (hw : Way w A n f) (hok : okN f n) (r0 : 0 ≤ rho) (r1 : rho ≤ 1000) :
    Calls Try.prog 5 #[.slice A n c, .int .i64 rho, .int .i64 a, .int .i64 b] w fun e w' => e = .returned (.bool true) ∧ Below w.heap.size w w' := by
  have hn := hw.1
  have HW := Lib.hid hw
  have HOK := Lib.hid hok
  have HC := Lib.hid (show wayE f n = 0 by unfold wayE; rw [if_pos hok])
  have nr : IntKind.i64.wrap (-rho) = -rho := wrap_i64_id (by omega) (by omega)
  clear hw hok
  go_enter Try.func5, Try.ntmps5
  go_wp2_with (first
    | (go_at_call 7; refine (awake2_ok _).mono ?_; rintro e w1 ⟨rfl, hb⟩; have hw := Way.below HW.out hb; have hh := Held.below (Held.start w) hb)
    | (go_at_call 10; refine (osc_Check _ _ _ _ _ hw).mono ?_; rintro e w1 ⟨rfl, hb⟩; rw [HC.out]; have hw := Way.below hw hb; have hh := Held.below hh hb))
  have HW1 := Lib.hid hw
  have HH1 := Lib.hid hh
  generalize w1 = W at *
  go_loopg [9, 10] n (fun m s i wr => BndRel f n rho m s i ∧ wr = W)
  case atStart => exact ⟨⟨0, by omega, fun i h => by omega, rfl, rfl⟩, rfl⟩
  case round =>
    obtain ⟨⟨k, hkm, hpp, rfl, rfl⟩, rfl⟩ := hrel
    have HPP := Lib.hid hpp
    obtain ⟨l0, l1⟩ := long_bound (okN_mono HOK.out (show k ≤ n by omega))
    clear hpp
    rcases Nat.lt_or_ge k n with hlt | hge
    · have hkn : (k : Int) < (n : Int) := by omega
      obtain ⟨bl, o, rfl, hcell⟩ := HW1.out.2.2 (by omega)
      obtain ⟨e0, e1, eb⟩ := hcell k hlt
      obtain ⟨m0, m1⟩ := long_bound (okN_mono HOK.out (show k + 1 ≤ n by omega))
      have hl : long f (k + 1) = long f k + (f k).len := rfl
      obtain ⟨x, hx⟩ : ∃ x, (f k).len = x := ⟨_, rfl⟩
      obtain ⟨p, hp⟩ : ∃ x, (f k).ppm = x := ⟨_, rfl⟩
      obtain ⟨s, hs⟩ : ∃ x, long f k = x := ⟨_, rfl⟩
      rw [hx] at e0 hl
      rw [hp] at e1
      rw [hs] at hl l0 l1 ⊢
      rw [hl] at m0 m1
      have HL := Lib.hid hl
      have HP := Lib.hid hp
      clear hl hx hp hs hcell hw hh
      by_cases hr : -rho ≤ p ∧ p ≤ rho
      · obtain ⟨q0, q1⟩ := hr
        go_wp2_with fail
        go_roundg (gk - 1)
        case measure => omega
        case rel =>
          refine ⟨⟨k + 1, by omega, fun i hi => ?_, by go_num, by rw [HL.out]⟩, rfl⟩
          rcases Nat.lt_or_ge i k with h1 | h1
          · exact HPP.out i h1
          · have : i = k := by omega
            rw [this, HP.out]
            exact ⟨q0, q1⟩
      · have hr' : rho < p ∨ p < -rho := by omega
        clear hr
        go_wp2_with fail
        all_goals
          go_ret
          exact ⟨rfl, HH1.out.1⟩
    · have hkn : ¬ (k : Int) < (n : Int) := by omega
      have hkn' : k = n := by omega
      subst hkn'
      obtain ⟨S, hs⟩ : ∃ x, long f k = x := ⟨_, rfl⟩
      have HS := Lib.hid hs
      rw [hs] at l0 l1 ⊢
      clear hs
      have z0 := Int.emod_nonneg a (show S + 1 ≠ 0 by omega)
      have z1 := Int.emod_lt_of_pos a (show 0 < S + 1 by omega)
      have z2 := Int.emod_nonneg b (show S + 1 ≠ 0 by omega)
      have z3 := Int.emod_lt_of_pos b (show 0 < S + 1 by omega)
      obtain ⟨ra, hra⟩ : ∃ x, a % (S + 1) = x := ⟨_, rfl⟩
      obtain ⟨rb, hrb⟩ : ∃ x, b % (S + 1) = x := ⟨_, rfl⟩
      rw [hra] at z0 z1
      rw [hrb] at z2 z3
      have MA := Lib.hid hra
      have MB := Lib.hid hrb
      clear hra hrb
      rcases Int.lt_or_le rb ra with hlt | hle
      ·
        obtain ⟨va, ea, vb, eb, k1, k2, k3, k4, k5, k6, s1, s2, k7, k8, k9, k10⟩ := osc_bounds (a := rb) (b := ra) (by omega) (by omega) (by rw [HS.out]; omega) HOK.out r0 r1 HPP.out
        obtain ⟨X, hX⟩ : ∃ x, rawT f k rb = x := ⟨_, rfl⟩
        obtain ⟨Y, hY⟩ : ∃ x, rawT f k ra = x := ⟨_, rfl⟩
        rw [hX] at va k1 k2 k4 k5 k6 k7 k8
        rw [hY] at vb k1 k3 k4 k5 k6 k7 k8
        obtain ⟨D, hD⟩ : ∃ x, Y - X = x := ⟨_, rfl⟩
        rw [hD] at k4 k5 k6 k7 k8
        obtain ⟨L, hL⟩ : ∃ x, elLo D rho = x := ⟨_, rfl⟩
        obtain ⟨H, hH⟩ : ∃ x, elHi D rho = x := ⟨_, rfl⟩
        rw [hL] at k5
        rw [hH] at k6
        have VA := Lib.hid va
        have EA := Lib.hid ea
        have VB := Lib.hid vb
        have EB := Lib.hid eb
        have EL := Lib.hid hL
        have EH := Lib.hid hH
        have EE := Lib.hid k4
        have AV := Lib.hid k7
        have AE := Lib.hid k8
        clear va ea vb eb hL hH k4 k7 k8 hX hY
        go_wp2_with (first
          | (go_at_call 16; refine (law_into _ _ (by omega) (by omega) _).mono ?_; rintro e w' ⟨rfl, rfl⟩; (first | rw [MA.out] | rw [MB.out]))
          | (go_at_call 8; refine (osc_Raw _ _ _ _ _ _ hw (by omega)).mono ?_; rintro e w1 ⟨rfl, hb⟩; (first | rw [VA.out, EA.out] | rw [VB.out, EB.out]); have hw := Way.below hw hb; have hh := Held.below hh hb)
          | (go_at_call 12; refine (osc_Elapsed _ _ _).mono ?_; rintro e w1 ⟨rfl, hb⟩; rw [EL.out, EH.out, EE.out]; have hw := Way.below hw hb; have hh := Held.below hh hb)
          | (go_at_call 14; refine (osc_Age _ _ _ _ _).mono ?_; rintro e w1 ⟨rfl, hb⟩; rw [AV.out, AE.out]; have hh := (Held.below hh hb).push 34 #[.int .i64 s1, .int .i64 s2]; have hc := hh.cells; simp only [Cells, and_true] at hc))
        go_ret
        exact ⟨rfl, hh.1⟩
      ·
        obtain ⟨va, ea, vb, eb, k1, k2, k3, k4, k5, k6, s1, s2, k7, k8, k9, k10⟩ := osc_bounds (a := ra) (b := rb) (by omega) (by omega) (by rw [HS.out]; omega) HOK.out r0 r1 HPP.out
        obtain ⟨X, hX⟩ : ∃ x, rawT f k ra = x := ⟨_, rfl⟩
        obtain ⟨Y, hY⟩ : ∃ x, rawT f k rb = x := ⟨_, rfl⟩
        rw [hX] at va k1 k2 k4 k5 k6 k7 k8
        rw [hY] at vb k1 k3 k4 k5 k6 k7 k8
        obtain ⟨D, hD⟩ : ∃ x, Y - X = x := ⟨_, rfl⟩
        rw [hD] at k4 k5 k6 k7 k8
        obtain ⟨L, hL⟩ : ∃ x, elLo D rho = x := ⟨_, rfl⟩
        obtain ⟨H, hH⟩ : ∃ x, elHi D rho = x := ⟨_, rfl⟩
        rw [hL] at k5
        rw [hH] at k6
        have VA := Lib.hid va
        have EA := Lib.hid ea
        have VB := Lib.hid vb
        have EB := Lib.hid eb
        have EL := Lib.hid hL
        have EH := Lib.hid hH
        have EE := Lib.hid k4
        have AV := Lib.hid k7
        have AE := Lib.hid k8
        clear va ea vb eb hL hH k4 k7 k8 hX hY
        go_wp2_with (first
          | (go_at_call 16; refine (law_into _ _ (by omega) (by omega) _).mono ?_; rintro e w' ⟨rfl, rfl⟩; (first | rw [MA.out] | rw [MB.out]))
          | (go_at_call 8; refine (osc_Raw _ _ _ _ _ _ hw (by omega)).mono ?_; rintro e w1 ⟨rfl, hb⟩; (first | rw [VA.out, EA.out] | rw [VB.out, EB.out]); have hw := Way.below hw hb; have hh := Held.below hh hb)
          | (go_at_call 12; refine (osc_Elapsed _ _ _).mono ?_; rintro e w1 ⟨rfl, hb⟩; rw [EL.out, EH.out, EE.out]; have hw := Way.below hw hb; have hh := Held.below hh hb)
          | (go_at_call 14; refine (osc_Age _ _ _ _ _).mono ?_; rintro e w1 ⟨rfl, hb⟩; rw [AV.out, AE.out]; have hh := (Held.below hh hb).push 34 #[.int .i64 s1, .int .i64 s2]; have hc := hh.cells; simp only [Cells, and_true] at hc))
        go_ret
        exact ⟨rfl, hh.1⟩

set_option maxRecDepth 100000 in
set_option maxHeartbeats 1000000 in
theorem oscBounds_walk (x : Value) (rho : Int) (wr : (Lit.int .i64 rho).wf = true) (a : Int) (wa : (Lit.int .i64 a).wf = true) (b : Int) (wb : (Lit.int .i64 b).wf = true) (w : World) (hx : ∃ A n c f, x = .slice A n c ∧ n ≤ c ∧ Way w A n f) :
    Calls Try.prog 5 #[x, .int .i64 rho, .int .i64 a, .int .i64 b] w fun e w' => e = .returned (.bool true) ∧ Below w.heap.size w w' := by
  obtain ⟨A, n, c, f, rfl, -, hw⟩ := hx
  clear wr wa wb
  have HW := Lib.hid hw
  by_cases hok : okN f n
  · by_cases hr : 0 ≤ rho ∧ rho ≤ 1000
    · exact oscBounds_in A n c f rho a b w hw hok hr.1 hr.2
    · have hr' : rho < 0 ∨ 1000 < rho := by omega
      have HC := Lib.hid (show wayE f n = 0 by unfold wayE; rw [if_pos hok])
      clear hw hok hr
      go_enter Try.func5, Try.ntmps5
      go_wp2_with (first
        | (go_at_call 7; refine (awake2_ok _).mono ?_; rintro e w1 ⟨rfl, hb⟩; have hw := Way.below HW.out hb; have hh := Held.below (Held.start w) hb)
        | (go_at_call 10; refine (osc_Check _ _ _ _ _ hw).mono ?_; rintro e w1 ⟨rfl, hb⟩; rw [HC.out]; have hw := Way.below hw hb; have hh := Held.below hh hb))
      all_goals
        go_ret
        exact ⟨rfl, hh.1⟩
  · have HC := Lib.hid (show wayE f n = 3 by unfold wayE; rw [if_neg hok])
    clear hw hok
    go_enter Try.func5, Try.ntmps5
    go_wp2_with (first
      | (go_at_call 7; refine (awake2_ok _).mono ?_; rintro e w1 ⟨rfl, hb⟩; have hw := Way.below HW.out hb; have hh := Held.below (Held.start w) hb)
      | (go_at_call 10; refine (osc_Check _ _ _ _ _ hw).mono ?_; rintro e w1 ⟨rfl, hb⟩; rw [HC.out]; have hw := Way.below hw hb; have hh := Held.below hh hb))
    go_ret
    exact ⟨rfl, hh.1⟩
end Go.Proofs.Ytgahmboecbfplaa
