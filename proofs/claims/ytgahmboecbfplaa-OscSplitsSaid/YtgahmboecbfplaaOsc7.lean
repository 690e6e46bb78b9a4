/- The law OscSplits: the walk. -/
import Derived.Test.YtgahmboecbfplaaOsc6
import Derived.Test.YtgahmboecbfplaaOscS
import Derived.Deep.DeepCutAuto
import Derived.Deep.LoopGhost
import Derived.Deep.AppendLies
namespace Go.Proofs.Ytgahmboecbfplaa
set_option linter.unusedVariables false
set_option linter.unusedSimpArgs false
open Go.RowKit
attribute [local go_sem] max2_mm min2_mm max_two min_two

theorem splits_facts (a b d m rho : Int) (hd : 0 ≤ d) (hd2 : d < 274877906944) (hm : 0 ≤ m) (hm2 : m < 274877906944) :
    ∃ x1 x2 y1 y2 z1 z2 e g : Int, ageV a b (d + m) rho = .agg #[.int .i64 x1, .int .i64 x2] ∧ ageE a b (d + m) rho = e ∧ ageV a b d rho = .agg #[.int .i64 y1, .int .i64 y2] ∧ ageE a b d rho = e ∧
      ageV y1 y2 m rho = .agg #[.int .i64 z1, .int .i64 z2] ∧ ageE y1 y2 m rho = g ∧ (e = 0 ∧ g = 0 ∧ z1 ≤ x1 ∧ x2 ≤ z2 ∨ e = 2 ∨ e = 3) := by
  by_cases hs : isSpan a b
  · by_cases hr : 0 ≤ rho ∧ rho ≤ 1000
    · obtain ⟨s, l, h⟩ := age_twice hs hd hd2 hm hm2 hr.1 hr.2
      have o1 : elOk d rho := ⟨hd, hr.1, hr.2⟩
      have o2 : elOk m rho := ⟨hm, hr.1, hr.2⟩
      have o3 : elOk (d + m) rho := ⟨by omega, hr.1, hr.2⟩
      refine ⟨ageLo a (d + m) rho, ageHi b (d + m) rho, ageLo a d rho, ageHi b d rho, ageLo (ageLo a d rho) m rho, ageHi (ageHi b d rho) m rho, 0, 0, ?_, ?_, ?_, ?_, ?_, ?_, Or.inl ⟨rfl, rfl, l, h⟩⟩
      · unfold ageV; rw [if_pos ⟨hs, o3⟩]; rfl
      · unfold ageE; rw [if_pos hs, if_pos o3]
      · unfold ageV; rw [if_pos ⟨hs, o1⟩]; rfl
      · unfold ageE; rw [if_pos hs, if_pos o1]
      · unfold ageV; rw [if_pos ⟨s, o2⟩]; rfl
      · unfold ageE; rw [if_pos s, if_pos o2]
    · obtain ⟨z1, z2, hz⟩ := ageV_form 0 0 m rho
      have o1 : ¬ elOk d rho := fun h => hr h.2
      have o3 : ¬ elOk (d + m) rho := fun h => hr h.2
      refine ⟨0, 0, 0, 0, z1, z2, 2, _, ?_, ?_, ?_, ?_, hz, rfl, Or.inr (Or.inl rfl)⟩
      · unfold ageV; rw [if_neg (fun h => o3 h.2)]; rfl
      · unfold ageE; rw [if_pos hs, if_neg o3]
      · unfold ageV; rw [if_neg (fun h => o1 h.2)]; rfl
      · unfold ageE; rw [if_pos hs, if_neg o1]
  · obtain ⟨z1, z2, hz⟩ := ageV_form 0 0 m rho
    refine ⟨0, 0, 0, 0, z1, z2, 3, _, ?_, ?_, ?_, ?_, hz, rfl, Or.inr (Or.inr rfl)⟩
    · unfold ageV; rw [if_neg (fun h => hs h.1)]; rfl
    · unfold ageE; rw [if_neg hs]
    · unfold ageV; rw [if_neg (fun h => hs h.1)]; rfl
    · unfold ageE; rw [if_neg hs]

set_option maxRecDepth 100000 in
set_option maxHeartbeats 2000000 in
theorem oscSplits_skip (A : Option Addr) (n c : Nat) (f : Nat → Leg) (at_ a b d m rho : Int) (w : World) (hw : Way w A n f) (hskip : ¬ okN f n ∨ n = 0) :
    Calls Try.prog 6 #[.slice A n c, .int .i64 at_, spanV a b, .int .i64 d, .int .i64 m, .int .i64 rho] w fun e w' => e = .returned (.bool true) ∧ Below w.heap.size w w' := by
  have hn := hw.1
  have hh := (Held.start w).push 34 #[.int .i64 a, .int .i64 b]
  have hc := hh.cells
  have hw := hw.alloc (.cells #[.int .i64 a, .int .i64 b] 34)
  simp only [Cells, and_true] at hc
  have hE : wayE f n = 3 ∨ (wayE f n = 0 ∧ n = 0) := by
    unfold wayE
    by_cases h : okN f n
    · rw [if_pos h]; exact Or.inr ⟨rfl, by rcases hskip with h' | h'; exact absurd h h'; exact h'⟩
    · rw [if_neg h]; exact Or.inl rfl
  obtain ⟨E, hE'⟩ : ∃ x, wayE f n = x := ⟨_, rfl⟩
  rw [hE'] at hE
  have HE := Lib.hid hE'
  clear hE' hskip
  have q0 := Int.emod_nonneg d (show (274877906944 : Int) ≠ 0 by omega)
  have q1 := Int.emod_lt_of_pos d (show (0 : Int) < 274877906944 by omega)
  have q2 := Int.emod_nonneg m (show (274877906944 : Int) ≠ 0 by omega)
  have q3 := Int.emod_lt_of_pos m (show (0 : Int) < 274877906944 by omega)
  obtain ⟨D, hD⟩ : ∃ x, d % 274877906944 = x := ⟨_, rfl⟩
  obtain ⟨M, hM⟩ : ∃ x, m % 274877906944 = x := ⟨_, rfl⟩
  rw [hD] at q0 q1
  rw [hM] at q2 q3
  have MD := Lib.hid hD
  have MM := Lib.hid hM
  obtain ⟨x1, x2, y1, y2, z1, z2, e, g, v1, e1, v2, e2, v3, e3, hcase⟩ := splits_facts a b D M rho q0 q1 q2 q3
  have V1 := Lib.hid v1
  have V2 := Lib.hid v2
  have V3 := Lib.hid v3
  have E1 := Lib.hid e1
  have E2 := Lib.hid e2
  have E3 := Lib.hid e3
  clear hD hM v1 v2 v3 e1 e2 e3
  unfold spanV
  rcases hE with rfl | ⟨rfl, rfl⟩ <;> rcases hcase with ⟨rfl, rfl, k1, k2⟩ | rfl | rfl
  all_goals
    go_enter Try.func6, Try.ntmps6
    go_wp2_with (first
      | (go_at_call 7; refine (awake2_ok _).mono ?_; rintro e w1 ⟨rfl, hb⟩; have hw := Way.below hw hb; clear hc; have hh := (Held.below hh hb); have hc := hh.cells; simp only [Cells, and_true] at hc)
      | (go_at_call 10; refine (osc_Check _ _ _ _ _ hw).mono ?_; rintro e w1 ⟨rfl, hb⟩; rw [HE.out]; have hw := Way.below hw hb; clear hc; have hh := (Held.below hh hb); have hc := hh.cells; simp only [Cells, and_true] at hc)
      | (go_at_call 16; refine (law_into _ _ (by omega) (by omega) _).mono ?_; rintro e w' ⟨rfl, rfl⟩; (first | rw [MD.out] | rw [MM.out]))
      | (go_at_call 14; refine (osc_Age _ _ _ _ _).mono ?_; rintro e w1 ⟨rfl, hb⟩; first | (rw [V1.out, E1.out]; clear hc; have hh := (Held.below hh hb).push 34 #[.int .i64 x1, .int .i64 x2]; have hc := hh.cells; simp only [Cells, and_true] at hc) | (rw [V2.out, E2.out]; clear hc; have hh := (Held.below hh hb).push 34 #[.int .i64 y1, .int .i64 y2]; have hc := hh.cells; simp only [Cells, and_true] at hc) | (rw [V3.out, E3.out]; clear hc; have hh := (Held.below hh hb).push 34 #[.int .i64 z1, .int .i64 z2]; have hc := hh.cells; simp only [Cells, and_true] at hc)))
    go_ret
    exact ⟨rfl, hh.1⟩
end Go.Proofs.Ytgahmboecbfplaa
