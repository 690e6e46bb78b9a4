/- The law FixSets: the walk and the plain law. -/
import Derived.Test.YtcdphaejnmdpoaaFixSpans
import Derived.Deep.DeepCutAuto
import Derived.Deep.LoopGhost
namespace Go.Proofs.Ytcdphaejnmdpoaa
set_option linter.unusedVariables false
set_option linter.unusedSimpArgs false
open Go.RowKit
attribute [local go_sem] max2_mm min2_mm max_two min_two

theorem meetV_comm (a b c e : Int) : meetV c e a b = meetV a b c e := by
  unfold meetV; simp only [Int.max_comm c a, Int.min_comm e b, And.comm (a := isSpan c e)]
theorem meetE_comm (a b c e : Int) : meetE c e a b = meetE a b c e := by
  unfold meetE; simp only [Int.max_comm c a, Int.min_comm e b, And.comm (a := isSpan c e)]
theorem coverV_comm (a b c e : Int) : coverV c e a b = coverV a b c e := by
  unfold coverV; simp only [Int.min_comm c a, Int.max_comm e b, And.comm (a := isSpan c e)]
theorem coverE_comm (a b c e : Int) : coverE c e a b = coverE a b c e := by
  unfold coverE; simp only [And.comm (a := isSpan c e)]
theorem cover_span {a b c e : Int} (h1 : isSpan a b) (h2 : isSpan c e) : isSpan (min a c) (max b e) := by unfold isSpan isT at *; omega
theorem meet_own {a b c e : Int} (h1 : isSpan a b) (h2 : isSpan c e) : meetV a b (min a c) (max b e) = .agg #[.int .i64 a, .int .i64 b] ∧ meetE a b (min a c) (max b e) = 0 := by
  have e1 : max a (min a c) = a := by omega
  have e2 : min b (max b e) = b := by omega
  unfold meetV meetE
  have h3 : isSpan a b ∧ isSpan (min a c) (max b e) := ⟨h1, cover_span h1 h2⟩
  rw [e1, e2, if_pos h3, if_pos h3, if_pos h1, if_pos h1]
  exact ⟨rfl, rfl⟩
theorem meet_has {a b c e : Int} (h1 : isSpan a b) (h2 : isSpan c e) : ∃ m1 m2 : Int, meetV a b c e = .agg #[.int .i64 m1, .int .i64 m2] ∧ (meetE a b c e = 0 ∨ meetE a b c e = 5) ∧
    ∀ t, (meetE a b c e = 0 → (decide (m1 ≤ t ∧ t ≤ m2) = (decide (a ≤ t ∧ t ≤ b) && decide (c ≤ t ∧ t ≤ e)))) ∧ (decide (a ≤ t ∧ t ≤ b) = true → decide (c ≤ t ∧ t ≤ e) = true → meetE a b c e = 0) := by
  unfold meetV meetE
  have h3 : isSpan a b ∧ isSpan c e := ⟨h1, h2⟩
  rw [if_pos h3, if_pos h3]
  by_cases h : isSpan (max a c) (min b e)
  · rw [if_pos h, if_pos h]
    refine ⟨_, _, rfl, Or.inl rfl, fun t => ⟨fun _ => ?_, fun _ _ => rfl⟩⟩
    rw [← Bool.decide_and]
    congr 1
    apply propext
    omega
  · rw [if_neg h, if_neg h]
    refine ⟨_, _, rfl, Or.inr rfl, fun t => ⟨(fun h => absurd h (by decide)), fun ha hb => ?_⟩⟩
    have ha := of_decide_eq_true ha
    have hb := of_decide_eq_true hb
    exact absurd (by unfold isSpan isT at *; omega) h
theorem shift_has {a b d t : Int} (h1 : isSpan a b) (hd : isT d) (ht : isT t) (hin : decide (a ≤ t ∧ t ≤ b) = true) : ∃ s1 s2 : Int, shiftV a b d = .agg #[.int .i64 s1, .int .i64 s2] ∧ decide (s1 ≤ bnd (t + d) ∧ bnd (t + d) ≤ s2) = true := by
  have hin := of_decide_eq_true hin
  unfold shiftV
  rw [if_pos h1, if_pos hd]
  refine ⟨_, _, rfl, decide_eq_true ?_⟩
  unfold shiftLo shiftHi bnd
  unfold isSpan isT at *
  constructor
  · split <;> omega
  · split <;> omega

set_option maxRecDepth 100000 in
set_option maxHeartbeats 2000000 in
theorem fixSets_no (a b c e t d : Int) (h : ¬ (isSpan a b ∧ isSpan c e)) (w : World) :
    Calls Try.prog 8 #[spanV a b, spanV c e, .int .i64 t, .int .i64 d] w fun r w' => r = .returned (.bool true) ∧ Below w.heap.size w w' := by
  have HM := Lib.hid (show meetV a b c e = .agg #[.int .i64 0, .int .i64 0] by unfold meetV; rw [if_neg h]; rfl)
  have HC := Lib.hid (show coverV a b c e = .agg #[.int .i64 0, .int .i64 0] by unfold coverV; rw [if_neg h]; rfl)
  have HME := Lib.hid (show meetE a b c e = 3 by unfold meetE; rw [if_neg h])
  have HCE := Lib.hid (show coverE a b c e = 3 by unfold coverE; rw [if_neg h])
  obtain ⟨x, hx⟩ : ∃ x, checkE a b = x := ⟨_, rfl⟩
  obtain ⟨y, hy⟩ : ∃ x, checkE c e = x := ⟨_, rfl⟩
  have hxy : (x = 3) ∨ (x = 0 ∧ y = 3) := by
    rw [← hx, ← hy]; unfold checkE
    by_cases h1 : isSpan a b <;> by_cases h2 : isSpan c e <;> simp_all
  have HX := Lib.hid hx
  have HY := Lib.hid hy
  clear hx hy h
  have h0 := ((Held.start w).push 40 #[.int .i64 a, .int .i64 b]).push 40 #[.int .i64 c, .int .i64 e]
  rw [World.size_alloc] at h0
  have hh := h0
  have hc := hh.cells
  simp only [Cells, and_true] at hc
  unfold spanV
  rcases hxy with rfl | ⟨rfl, rfl⟩
  all_goals
    go_enter Try.func8, Try.ntmps8
    go_wp2_with (first
      | (go_at_call 9; refine (awake_ok _).mono ?_; rintro r w1 ⟨rfl, hb⟩; clear hc; have hh := (Held.below hh hb); have hc := hh.cells; simp only [Cells, and_true] at hc)
      | (go_at_call 28; refine (fix_Check _ _ _).mono ?_; rintro r w1 ⟨rfl, hb⟩; (first | rw [HX.out] | rw [HY.out]); clear hc; have hh := (Held.below hh hb); have hc := hh.cells; simp only [Cells, and_true] at hc)
      | (go_at_call 22; refine (fix_Meet _ _ _ _ _).mono ?_; rintro r w1 ⟨rfl, hb⟩; rw [HM.out, HME.out]; clear hc; have hh := (Held.below hh hb).push 40 #[.int .i64 0, .int .i64 0]; have hc := hh.cells; simp only [Cells, and_true] at hc)
      | (go_at_call 24; refine (fix_Cover _ _ _ _ _).mono ?_; rintro r w1 ⟨rfl, hb⟩; rw [HC.out, HCE.out]; clear hc; have hh := (Held.below hh hb).push 40 #[.int .i64 0, .int .i64 0]; have hc := hh.cells; simp only [Cells, and_true] at hc))
    go_ret
    exact ⟨rfl, hh.1⟩

set_option maxRecDepth 100000 in
set_option maxHeartbeats 4000000 in
theorem fixSets_yes (a b c e t d : Int) (h1 : isSpan a b) (h2 : isSpan c e) (w : World) :
    Calls Try.prog 8 #[spanV a b, spanV c e, .int .i64 t, .int .i64 d] w fun r w' => r = .returned (.bool true) ∧ Below w.heap.size w w' := by
  obtain ⟨m1, m2, hm, hE, hmt⟩ := meet_has h1 h2
  obtain ⟨hmt1, hmt2⟩ := hmt t
  obtain ⟨s1, s2, hs⟩ := shiftV_form a b d
  obtain ⟨c1, hc1⟩ : ∃ x, min a c = x := ⟨_, rfl⟩
  obtain ⟨c2, hc2⟩ : ∃ x, max b e = x := ⟨_, rfl⟩
  obtain ⟨o1, o2⟩ := meet_own h1 h2
  have hcv : coverV a b c e = .agg #[.int .i64 c1, .int .i64 c2] := by unfold coverV; rw [if_pos ⟨h1, h2⟩, hc1, hc2]; rfl
  have hct : (decide (a ≤ t ∧ t ≤ b) || decide (c ≤ t ∧ t ≤ e)) = true → decide (c1 ≤ t ∧ t ≤ c2) = true := by
    intro h
    rw [← Bool.decide_or] at h
    have h := of_decide_eq_true h
    exact decide_eq_true (by omega)
  rw [hc1, hc2] at o1 o2
  have HO := Lib.hid o1
  have HOE := Lib.hid o2
  have HM := Lib.hid hm
  have HM' := Lib.hid ((meetV_comm a b c e).trans hm)
  have HC := Lib.hid hcv
  have HC' := Lib.hid ((coverV_comm a b c e).trans hcv)
  have HCE := Lib.hid (show coverE a b c e = 0 by unfold coverE; rw [if_pos ⟨h1, h2⟩])
  have HCE' := Lib.hid ((coverE_comm a b c e).trans HCE.out)
  have HS := Lib.hid hs
  have HX := Lib.hid (checkE_yes h1)
  have HY := Lib.hid (checkE_yes h2)
  have HSH := Lib.hid (fun (hd : isT d) (ht : isT t) (hin : decide (a ≤ t ∧ t ≤ b) = true) => shift_has h1 hd ht hin)
  have HDY := Lib.hid (show isT d → shiftE a b d = 0 from fun hd => by unfold shiftE; rw [if_pos h1, if_pos hd])
  have HDN := Lib.hid (show ¬ isT d → shiftE a b d = 2 from fun hd => by unfold shiftE; rw [if_pos h1, if_neg hd])
  have HIT := Lib.hid (show decide (a ≤ t ∧ t ≤ b) = true → isT t from fun h => by have h := of_decide_eq_true h; unfold isSpan isT at *; omega)
  obtain ⟨E, hEE⟩ : ∃ x, meetE a b c e = x := ⟨_, rfl⟩
  rw [hEE] at hE hmt1 hmt2
  have HME := Lib.hid hEE
  have HME' := Lib.hid ((meetE_comm a b c e).trans hEE)
  obtain ⟨xa, hxa⟩ : ∃ x, decide (a ≤ t ∧ t ≤ b) = x := ⟨_, rfl⟩
  obtain ⟨xb, hxb⟩ : ∃ x, decide (c ≤ t ∧ t ≤ e) = x := ⟨_, rfl⟩
  obtain ⟨xc, hxc⟩ : ∃ x, decide (c1 ≤ t ∧ t ≤ c2) = x := ⟨_, rfl⟩
  obtain ⟨xm, hxm⟩ : ∃ x, decide (m1 ≤ t ∧ t ≤ m2) = x := ⟨_, rfl⟩
  rw [hxa, hxb, hxm] at hmt1
  rw [hxa, hxb] at hmt2
  rw [hxa, hxb, hxc] at hct
  rw [hxa] at HIT
  have HXA := Lib.hid hxa
  have HXB := Lib.hid hxb
  have HXC := Lib.hid hxc
  have HXM := Lib.hid hxm
  have HF1 := Lib.hid hmt1
  have HF2 := Lib.hid hmt2
  have HF3 := Lib.hid hct
  have HEV := Lib.hid hE
  clear h1 h2 hm hE hmt hmt1 hmt2 hs hc1 hc2 o1 o2 hcv hct hEE hxa hxb hxc hxm
  have h0 := ((Held.start w).push 40 #[.int .i64 a, .int .i64 b]).push 40 #[.int .i64 c, .int .i64 e]
  rw [World.size_alloc] at h0
  have hh := h0
  clear h0
  have hc := hh.cells
  simp only [Cells, and_true] at hc
  unfold spanV
  go_enter Try.func8, Try.ntmps8
  go_upto_region 9 with (first
    | (go_at_call 9; refine (awake_ok _).mono ?_; rintro r w1 ⟨rfl, hb⟩; clear hc; have hh := (Held.below hh hb); have hc := hh.cells; simp only [Cells, and_true] at hc)
    | (go_at_call 28; refine (fix_Check _ _ _).mono ?_; rintro r w1 ⟨rfl, hb⟩; (first | rw [HX.out] | rw [HY.out]); clear hc; have hh := (Held.below hh hb); have hc := hh.cells; simp only [Cells, and_true] at hc)
    | (go_at_call 22; refine (fix_Meet _ _ _ _ _).mono ?_; rintro r wm ⟨rfl, hb⟩; rw [HM.out, HME.out]; clear hc; have hh := (Held.below hh hb).push 40 #[.int .i64 m1, .int .i64 m2]; obtain ⟨gm, hgm⟩ : ∃ g, wm.heap.size = g := ⟨_, rfl⟩; rw [hgm] at hh; have hc := hh.cells; simp only [Cells, and_true] at hc)
    | (go_at_call 24; refine (fix_Cover _ _ _ _ _).mono ?_; rintro r wc ⟨rfl, hb⟩; rw [HC.out, HCE.out]; clear hc; have hh := (Held.below hh hb).push 40 #[.int .i64 c1, .int .i64 c2]; obtain ⟨gc, hgc⟩ : ∃ g, wc.heap.size = g := ⟨_, rfl⟩; rw [hgc] at hh; have hc := hh.cells; simp only [Cells, and_true] at hc))
  have HH := Lib.hid hh
  go_cut [17] (fun s wc => s = .bool (xa && xb) ∧ Held w wc [(gc, 40, #[.int .i64 c1, .int .i64 c2]), (gm, 40, #[.int .i64 m1, .int .i64 m2]), (w.heap.size + 1, 40, #[.int .i64 c, .int .i64 e]), (w.heap.size, 40, #[.int .i64 a, .int .i64 b])])
  case first =>
    rcases xa with _ | _
    all_goals
      go_wp2_with (go_at_call 30; refine (law_has _ _ _ _).mono ?_; rintro r w1 ⟨rfl, hb⟩; (first | rw [HXA.out] | rw [HXB.out] | rw [HXC.out] | rw [HXM.out]); clear hc; have hh := (Held.below hh hb); have hc := hh.cells; simp only [Cells, and_true] at hc)
      go_meet
      case rel => exact ⟨by simp, hh⟩
  case rest =>
    obtain ⟨rfl, hh⟩ := hcut
    clear hc HH
    have hc := hh.cells
    simp only [Cells, and_true] at hc
    go_upto_region 10 with (fail)
    have HH := Lib.hid hh
    go_cut [119] (fun s wc => s = .bool false ∧ Held w wc [(gc, 40, #[.int .i64 c1, .int .i64 c2]), (gm, 40, #[.int .i64 m1, .int .i64 m2]), (w.heap.size + 1, 40, #[.int .i64 c, .int .i64 e]), (w.heap.size, 40, #[.int .i64 a, .int .i64 b])])
    case first =>
      rcases HEV.out with rfl | rfl <;> rcases xa with _ | _ <;> rcases xb with _ | _
      · obtain rfl : xm = false := HF1.out rfl
        go_wp2_with (go_at_call 30; refine (law_has _ _ _ _).mono ?_; rintro r w1 ⟨rfl, hb⟩; (first | rw [HXA.out] | rw [HXB.out] | rw [HXC.out] | rw [HXM.out]); clear hc; have hh := (Held.below hh hb); have hc := hh.cells; simp only [Cells, and_true] at hc)
        go_meet
        case rel => exact ⟨rfl, hh⟩
      · obtain rfl : xm = false := HF1.out rfl
        obtain rfl : xc = true := HF3.out rfl
        go_wp2_with (go_at_call 30; refine (law_has _ _ _ _).mono ?_; rintro r w1 ⟨rfl, hb⟩; (first | rw [HXA.out] | rw [HXB.out] | rw [HXC.out] | rw [HXM.out]); clear hc; have hh := (Held.below hh hb); have hc := hh.cells; simp only [Cells, and_true] at hc)
        go_meet
        case rel => exact ⟨rfl, hh⟩
      · obtain rfl : xm = false := HF1.out rfl
        obtain rfl : xc = true := HF3.out rfl
        go_wp2_with (go_at_call 30; refine (law_has _ _ _ _).mono ?_; rintro r w1 ⟨rfl, hb⟩; (first | rw [HXA.out] | rw [HXB.out] | rw [HXC.out] | rw [HXM.out]); clear hc; have hh := (Held.below hh hb); have hc := hh.cells; simp only [Cells, and_true] at hc)
        go_meet
        case rel => exact ⟨rfl, hh⟩
      · obtain rfl : xm = true := HF1.out rfl
        obtain rfl : xc = true := HF3.out rfl
        go_wp2_with (go_at_call 30; refine (law_has _ _ _ _).mono ?_; rintro r w1 ⟨rfl, hb⟩; (first | rw [HXA.out] | rw [HXB.out] | rw [HXC.out] | rw [HXM.out]); clear hc; have hh := (Held.below hh hb); have hc := hh.cells; simp only [Cells, and_true] at hc)
        go_meet
        case rel => exact ⟨rfl, hh⟩
      · go_wp2_with (go_at_call 30; refine (law_has _ _ _ _).mono ?_; rintro r w1 ⟨rfl, hb⟩; (first | rw [HXA.out] | rw [HXB.out] | rw [HXC.out] | rw [HXM.out]); clear hc; have hh := (Held.below hh hb); have hc := hh.cells; simp only [Cells, and_true] at hc)
        go_meet
        case rel => exact ⟨rfl, hh⟩
      · obtain rfl : xc = true := HF3.out rfl
        go_wp2_with (go_at_call 30; refine (law_has _ _ _ _).mono ?_; rintro r w1 ⟨rfl, hb⟩; (first | rw [HXA.out] | rw [HXB.out] | rw [HXC.out] | rw [HXM.out]); clear hc; have hh := (Held.below hh hb); have hc := hh.cells; simp only [Cells, and_true] at hc)
        go_meet
        case rel => exact ⟨rfl, hh⟩
      · obtain rfl : xc = true := HF3.out rfl
        go_wp2_with (go_at_call 30; refine (law_has _ _ _ _).mono ?_; rintro r w1 ⟨rfl, hb⟩; (first | rw [HXA.out] | rw [HXB.out] | rw [HXC.out] | rw [HXM.out]); clear hc; have hh := (Held.below hh hb); have hc := hh.cells; simp only [Cells, and_true] at hc)
        go_meet
        case rel => exact ⟨rfl, hh⟩
      · exact absurd (HF2.out rfl rfl) (by decide)
    case rest =>
      obtain ⟨rfl, hh⟩ := hcut
      clear hc HH
      have hc := hh.cells
      simp only [Cells, and_true] at hc
      go_upto_region 18 with (first
        | (go_at_call 22; refine (fix_Meet _ _ _ _ _).mono ?_; rintro r w1 ⟨rfl, hb⟩; rw [HM'.out, HME'.out]; clear hc; have hh := (Held.below hh hb).push 40 #[.int .i64 m1, .int .i64 m2]; have hc := hh.cells; simp only [Cells, and_true] at hc)
        | (go_at_call 22; refine (fix_Meet _ _ _ _ _).mono ?_; rintro r w1 ⟨rfl, hb⟩; rw [HO.out, HOE.out]; clear hc; have hh := (Held.below hh hb).push 40 #[.int .i64 a, .int .i64 b]; have hc := hh.cells; simp only [Cells, and_true] at hc)
        | (go_at_call 24; refine (fix_Cover _ _ _ _ _).mono ?_; rintro r w1 ⟨rfl, hb⟩; rw [HC'.out, HCE'.out]; clear hc; have hh := (Held.below hh hb).push 40 #[.int .i64 c1, .int .i64 c2]; have hc := hh.cells; simp only [Cells, and_true] at hc)
        | (go_at_call 26; refine (fix_Shift _ _ _ _).mono ?_; rintro r w1 ⟨rfl, hb⟩; rw [HS.out]; clear hc; have hh := (Held.below hh hb).push 40 #[.int .i64 s1, .int .i64 s2]; have hc := hh.cells; simp only [Cells, and_true] at hc))
      by_cases hd : isT d
      · rw [HDY.out hd]
        obtain ⟨d1, d2⟩ := isT_le hd
        by_cases ht : isT t
        · have HSV := Lib.hid (show sumV t d = bnd (t + d) by unfold sumV; rw [if_pos ⟨ht, hd⟩])
          have HSE := Lib.hid (show sumE t d = 0 by unfold sumE; rw [if_pos ⟨ht, hd⟩])
          rcases xa with _ | _
          · clear ht hd
            go_wp2_with (first | (go_at_call 11; refine (fix_Sum _ _ _).mono ?_; rintro r w1 ⟨rfl, rfl⟩; rw [HSV.out, HSE.out]) | (go_at_call 30; refine (law_has _ _ _ _).mono ?_; rintro r w1 ⟨rfl, hb⟩; rw [HXA.out]; clear hc; have hh := (Held.below hh hb); have hc := hh.cells; simp only [Cells, and_true] at hc))
            go_ret
            exact ⟨rfl, hh.1⟩
          · obtain ⟨x, y, e1, hxs⟩ := HSH.out hd ht HXA.out
            rw [HS.out] at e1
            have e2 : s1 = x ∧ s2 = y := by simpa using e1
            obtain ⟨rfl, rfl⟩ := e2
            have HXS := Lib.hid hxs
            clear hxs ht hd e1
            go_wp2_with (first | (go_at_call 11; refine (fix_Sum _ _ _).mono ?_; rintro r w1 ⟨rfl, rfl⟩; rw [HSV.out, HSE.out]) | (go_at_call 30; refine (law_has _ _ _ _).mono ?_; rintro r w1 ⟨rfl, hb⟩; (first | rw [HXA.out] | rw [HXS.out]); clear hc; have hh := (Held.below hh hb); have hc := hh.cells; simp only [Cells, and_true] at hc))
            go_ret
            exact ⟨rfl, hh.1⟩
        · have HSV := Lib.hid (show sumV t d = 0 by unfold sumV; rw [if_neg (fun h => ht h.1)])
          have HSE := Lib.hid (show sumE t d = 2 by unfold sumE; rw [if_neg (fun h => ht h.1)])
          clear ht hd
          go_wp2_with (go_at_call 11; refine (fix_Sum _ _ _).mono ?_; rintro r w1 ⟨rfl, rfl⟩; rw [HSV.out, HSE.out])
          go_ret
          exact ⟨rfl, hh.1⟩
      · rw [HDN.out hd]
        have hd' : ¬ (-2305843009213693952 ≤ d ∧ d ≤ 2305843009213693952) := hd
        clear hd
        go_wp2_with fail
        all_goals
          go_ret
          exact ⟨rfl, hh.1⟩

theorem fixSets_walk (x : Value) (y : Value) (t : Int) (wt : (Lit.int .i64 t).wf = true) (d : Int) (wd : (Lit.int .i64 d).wf = true) (w : World) (hx : ∃ a b : Int, x = spanV a b) (hy : ∃ a b : Int, y = spanV a b) :
    Calls Try.prog 8 #[x, y, .int .i64 t, .int .i64 d] w fun r w' => r = .returned (.bool true) ∧ Below w.heap.size w w' := by
  obtain ⟨a, b, rfl⟩ := hx
  obtain ⟨c, e, rfl⟩ := hy
  by_cases h : isSpan a b ∧ isSpan c e
  · exact fixSets_yes a b c e t d h.1 h.2 w
  · exact fixSets_no a b c e t d h w
end Go.Proofs.Ytcdphaejnmdpoaa
