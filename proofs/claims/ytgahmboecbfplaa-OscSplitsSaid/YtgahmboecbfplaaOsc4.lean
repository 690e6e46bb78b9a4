/- Layer 2: spans are aged. -/
import Derived.Test.YtgahmboecbfplaaOsc3
namespace Go.Proofs.Ytgahmboecbfplaa
set_option linter.unusedVariables false
set_option linter.unusedSimpArgs false
open Go.RowKit
attribute [local go_sem] max2_mm min2_mm max_two min_two

def ageLo (a d rho : Int) : Int := shiftLo a (elLo d rho)
def ageHi (b d rho : Int) : Int := shiftHi b (elHi d rho)
def ageV (a b d rho : Int) : Value := if isSpan a b ∧ elOk d rho then spanV (ageLo a d rho) (ageHi b d rho) else spanV 0 0
def ageE (a b d rho : Int) : Int := if isSpan a b then if elOk d rho then 0 else 2 else 3
theorem el_isT (d rho : Int) : isT (elLo d rho) ∧ isT (elHi d rho) ∧ 0 ≤ elLo d rho ∧ 0 ≤ elHi d rho := by
  unfold elLo elHi
  by_cases h : elOk d rho
  · rw [if_pos h, if_pos h]
    by_cases hd : d ≤ 1099511627776
    · rw [if_pos hd, if_pos hd]
      obtain ⟨l1, l2⟩ := lo_bound h hd
      obtain ⟨u1, u2⟩ := hi_bound h hd
      exact ⟨⟨by omega, by omega⟩, ⟨by omega, by omega⟩, l1, u1⟩
    · rw [if_neg hd, if_neg hd]; exact ⟨⟨by omega, by omega⟩, ⟨by omega, by omega⟩, by omega, by omega⟩
  · rw [if_neg h, if_neg h]; exact ⟨⟨by omega, by omega⟩, ⟨by omega, by omega⟩, by omega, by omega⟩

set_option maxHeartbeats 1000000 in
theorem osc_Age_no1 (a b d rho : Int) (h : ¬ isSpan a b) (w : World) : Calls Try.prog 14 #[spanV a b, .int .i64 d, .int .i64 rho] w fun e w' => e = .returned (.tuple #[spanV 0 0, .int .i64 3]) ∧ Below w.heap.size w w' := by
  have h0 := ((Held.start w).push 34 #[.int .i64 a, .int .i64 b]).push 34 #[.int .i64 0, .int .i64 0]
  rw [World.size_alloc] at h0
  have hh := h0
  clear h0
  have hc := hh.cells
  simp only [Cells, and_true] at hc
  have HE := Lib.hid (checkE_no h)
  clear h
  unfold spanV
  go_enter Try.func14, Try.ntmps14
  go_wp2_with (go_at_call 18; refine (fix_Check _ _ _).mono ?_; rintro e w1 ⟨rfl, hb⟩; rw [HE.out]; clear hc; have hh := (Held.below hh hb); have hc := hh.cells; simp only [Cells, and_true] at hc)
  have hr := hh.res (a := .int .i64 0) (b := .int .i64 0) (g := w.heap.size + 1) (t := 34) (.int .i64 0) (.int .i64 0) (by simp)
  refine bodyPost_ret (by simp [results, Try.results14, go_sem, hr.1, hr.2]; try rfl) rfl ?_
  exact ⟨rfl, (hh.1.setCell (Nat.le_add_right _ 1) _).setCell (Nat.le_add_right _ 1) _⟩

set_option maxHeartbeats 1000000 in
theorem osc_Age_no2 (a b d rho : Int) (h : isSpan a b) (hd : ¬ elOk d rho) (w : World) : Calls Try.prog 14 #[spanV a b, .int .i64 d, .int .i64 rho] w fun e w' => e = .returned (.tuple #[spanV 0 0, .int .i64 2]) ∧ Below w.heap.size w w' := by
  have h0 := ((Held.start w).push 34 #[.int .i64 a, .int .i64 b]).push 34 #[.int .i64 0, .int .i64 0]
  rw [World.size_alloc] at h0
  have hh := h0
  clear h0
  have hc := hh.cells
  simp only [Cells, and_true] at hc
  have HE := Lib.hid (checkE_yes h)
  have H1 := Lib.hid (show elLo d rho = 0 by unfold elLo; rw [if_neg hd])
  have H2 := Lib.hid (show elHi d rho = 0 by unfold elHi; rw [if_neg hd])
  have H3 := Lib.hid (show elE d rho = 2 by unfold elE; rw [if_neg hd])
  clear h hd
  unfold spanV
  go_enter Try.func14, Try.ntmps14
  go_wp2_with (first
    | (go_at_call 18; refine (fix_Check _ _ _).mono ?_; rintro e w1 ⟨rfl, hb⟩; rw [HE.out]; clear hc; have hh := (Held.below hh hb); have hc := hh.cells; simp only [Cells, and_true] at hc)
    | (go_at_call 12; refine (osc_Elapsed _ _ _).mono ?_; rintro e w1 ⟨rfl, hb⟩; rw [H1.out, H2.out, H3.out]; clear hc; have hh := (Held.below hh hb); have hc := hh.cells; simp only [Cells, and_true] at hc))
  have hr := hh.res (a := .int .i64 0) (b := .int .i64 0) (g := w.heap.size + 1) (t := 34) (.int .i64 0) (.int .i64 0) (by simp)
  refine bodyPost_ret (by simp [results, Try.results14, go_sem, hr.1, hr.2]; try rfl) rfl ?_
  exact ⟨rfl, (hh.1.setCell (Nat.le_add_right _ 1) _).setCell (Nat.le_add_right _ 1) _⟩

set_option maxHeartbeats 1000000 in
theorem ref2_Age_no1 (a b d rho : Int) (h : ¬ isSpan a b) (w : World) : Calls Try.prog 15 #[spanV a b, .int .i64 d, .int .i64 rho] w fun e w' => e = .returned (.tuple #[spanV 0 0, .int .i64 3]) ∧ Below w.heap.size w w' := by
  have h0 := ((Held.start w).push 34 #[.int .i64 a, .int .i64 b]).push 34 #[.int .i64 0, .int .i64 0]
  rw [World.size_alloc] at h0
  have hh := h0
  clear h0
  have hc := hh.cells
  simp only [Cells, and_true] at hc
  have HE := Lib.hid (checkE_no h)
  clear h
  unfold spanV
  go_enter Try.func15, Try.ntmps15
  go_wp2_with (go_at_call 20; refine (ref_Check _ _ _).mono ?_; rintro e w1 ⟨rfl, hb⟩; rw [HE.out]; clear hc; have hh := (Held.below hh hb); have hc := hh.cells; simp only [Cells, and_true] at hc)
  have hr := hh.res (a := .int .i64 0) (b := .int .i64 0) (g := w.heap.size + 1) (t := 34) (.int .i64 0) (.int .i64 0) (by simp)
  refine bodyPost_ret (by simp [results, Try.results15, go_sem, hr.1, hr.2]; try rfl) rfl ?_
  exact ⟨rfl, (hh.1.setCell (Nat.le_add_right _ 1) _).setCell (Nat.le_add_right _ 1) _⟩

set_option maxHeartbeats 1000000 in
theorem ref2_Age_no2 (a b d rho : Int) (h : isSpan a b) (hd : ¬ elOk d rho) (w : World) : Calls Try.prog 15 #[spanV a b, .int .i64 d, .int .i64 rho] w fun e w' => e = .returned (.tuple #[spanV 0 0, .int .i64 2]) ∧ Below w.heap.size w w' := by
  have h0 := ((Held.start w).push 34 #[.int .i64 a, .int .i64 b]).push 34 #[.int .i64 0, .int .i64 0]
  rw [World.size_alloc] at h0
  have hh := h0
  clear h0
  have hc := hh.cells
  simp only [Cells, and_true] at hc
  have HE := Lib.hid (checkE_yes h)
  have H1 := Lib.hid (show elLo d rho = 0 by unfold elLo; rw [if_neg hd])
  have H2 := Lib.hid (show elHi d rho = 0 by unfold elHi; rw [if_neg hd])
  have H3 := Lib.hid (show elE d rho = 2 by unfold elE; rw [if_neg hd])
  clear h hd
  unfold spanV
  go_enter Try.func15, Try.ntmps15
  go_wp2_with (first
    | (go_at_call 20; refine (ref_Check _ _ _).mono ?_; rintro e w1 ⟨rfl, hb⟩; rw [HE.out]; clear hc; have hh := (Held.below hh hb); have hc := hh.cells; simp only [Cells, and_true] at hc)
    | (go_at_call 13; refine (ref2_Elapsed _ _ _).mono ?_; rintro e w1 ⟨rfl, hb⟩; rw [H1.out, H2.out, H3.out]; clear hc; have hh := (Held.below hh hb); have hc := hh.cells; simp only [Cells, and_true] at hc))
  have hr := hh.res (a := .int .i64 0) (b := .int .i64 0) (g := w.heap.size + 1) (t := 34) (.int .i64 0) (.int .i64 0) (by simp)
  refine bodyPost_ret (by simp [results, Try.results15, go_sem, hr.1, hr.2]; try rfl) rfl ?_
  exact ⟨rfl, (hh.1.setCell (Nat.le_add_right _ 1) _).setCell (Nat.le_add_right _ 1) _⟩

set_option maxHeartbeats 1000000 in
theorem osc_Age_yes (a b d rho : Int) (h : isSpan a b) (hd : elOk d rho) (w : World) : Calls Try.prog 14 #[spanV a b, .int .i64 d, .int .i64 rho] w fun e w' => e = .returned (.tuple #[spanV (ageLo a d rho) (ageHi b d rho), .int .i64 0]) ∧ Below w.heap.size w w' := by
  have h0 := ((Held.start w).push 34 #[.int .i64 a, .int .i64 b]).push 34 #[.int .i64 0, .int .i64 0]
  rw [World.size_alloc] at h0
  have hh := h0
  clear h0
  have hc := hh.cells
  simp only [Cells, and_true] at hc
  have HE := Lib.hid (checkE_yes h)
  have H3 := Lib.hid (show elE d rho = 0 by unfold elE; rw [if_pos hd])
  obtain ⟨t1, t2, -, -⟩ := el_isT d rho
  have k1 : isSpan (-2305843009213693952) b := by unfold isSpan isT at *; omega
  have k2 : isSpan a 2305843009213693952 := by unfold isSpan isT at *; omega
  obtain ⟨LO, hLO⟩ : ∃ x, elLo d rho = x := ⟨_, rfl⟩
  obtain ⟨HI, hHI⟩ : ∃ x, elHi d rho = x := ⟨_, rfl⟩
  rw [hLO] at t1
  rw [hHI] at t2
  have HLO := Lib.hid hLO
  have HHI := Lib.hid hHI
  have S1 := Lib.hid (show shiftV (-2305843009213693952) b HI = .agg #[.int .i64 (shiftLo (-2305843009213693952) HI), .int .i64 (shiftHi b HI)] by unfold shiftV; rw [if_pos k1, if_pos t2]; rfl)
  have S2 := Lib.hid (show shiftV a 2305843009213693952 LO = .agg #[.int .i64 (shiftLo a LO), .int .i64 (shiftHi 2305843009213693952 LO)] by unfold shiftV; rw [if_pos k2, if_pos t1]; rfl)
  have HA := Lib.hid (show ageLo a d rho = shiftLo a LO by unfold ageLo; rw [hLO])
  have HB := Lib.hid (show ageHi b d rho = shiftHi b HI by unfold ageHi; rw [hHI])
  obtain ⟨x1, hx1⟩ : ∃ x, shiftLo (-2305843009213693952) HI = x := ⟨_, rfl⟩
  obtain ⟨x2, hx2⟩ : ∃ x, shiftHi b HI = x := ⟨_, rfl⟩
  obtain ⟨y1, hy1⟩ : ∃ x, shiftLo a LO = x := ⟨_, rfl⟩
  obtain ⟨y2, hy2⟩ : ∃ x, shiftHi 2305843009213693952 LO = x := ⟨_, rfl⟩
  rw [hx1, hx2] at S1
  rw [hy1, hy2] at S2
  rw [hy1] at HA
  rw [hx2] at HB
  rw [HA.out, HB.out]
  clear h hd k1 k2 hLO hHI t1 t2 hx1 hx2 hy1 hy2
  unfold spanV
  go_enter Try.func14, Try.ntmps14
  go_wp2_with (first
    | (go_at_call 18; refine (fix_Check _ _ _).mono ?_; rintro e w1 ⟨rfl, hb⟩; rw [HE.out]; clear hc; have hh := (Held.below hh hb); have hc := hh.cells; simp only [Cells, and_true] at hc)
    | (go_at_call 12; refine (osc_Elapsed _ _ _).mono ?_; rintro e w1 ⟨rfl, hb⟩; rw [HLO.out, HHI.out, H3.out]; clear hc; have hh := (Held.below hh hb); have hc := hh.cells; simp only [Cells, and_true] at hc)
    | (go_at_call 19; refine (fix_Shift _ _ _ _).mono ?_; rintro e w1 ⟨rfl, hb⟩; first | (rw [S1.out]; clear hc; have hh := (Held.below hh hb).push 34 #[.int .i64 x1, .int .i64 x2]; have hc := hh.cells; simp only [Cells, and_true] at hc) | (rw [S2.out]; clear hc; have hh := (Held.below hh hb).push 34 #[.int .i64 y1, .int .i64 y2]; have hc := hh.cells; simp only [Cells, and_true] at hc)))
  have hr := hh.res (a := .int .i64 0) (b := .int .i64 0) (g := w.heap.size + 1) (t := 34) (.int .i64 y1) (.int .i64 x2) (by simp)
  refine bodyPost_ret (by simp [results, Try.results14, go_sem, hr.1, hr.2]; try rfl) rfl ?_
  exact ⟨rfl, (hh.1.setCell (Nat.le_add_right _ 1) _).setCell (Nat.le_add_right _ 1) _⟩


set_option maxHeartbeats 1000000 in
theorem ref2_Age_both (a b d rho LO HI : Int) (h : isSpan a b) (hd : elOk d rho) (hLO : elLo d rho = LO) (hHI : elHi d rho = HI) (ha : a ≠ -2305843009213693952) (hb : b ≠ 2305843009213693952) (w : World) : Calls Try.prog 15 #[spanV a b, .int .i64 d, .int .i64 rho] w fun e w' => e = .returned (.tuple #[spanV (bnd (a + LO)) (bnd (b + HI)), .int .i64 0]) ∧ Below w.heap.size w w' := by
  have h0 := ((Held.start w).push 34 #[.int .i64 a, .int .i64 b]).push 34 #[.int .i64 0, .int .i64 0]
  rw [World.size_alloc] at h0
  have hh := h0
  clear h0
  have hc := hh.cells
  simp only [Cells, and_true] at hc
  have HE := Lib.hid (checkE_yes h)
  have H3 := Lib.hid (show elE d rho = 0 by unfold elE; rw [if_pos hd])
  obtain ⟨t1, t2, -, -⟩ := el_isT d rho
  rw [hLO] at t1
  rw [hHI] at t2
  obtain ⟨d1, d2⟩ := isT_le t1
  obtain ⟨d3, d4⟩ := isT_le t2
  obtain ⟨a1, a2⟩ := isT_le h.1
  obtain ⟨b1, b2⟩ := isT_le h.2.1
  have n1 : IntKind.i64.wrap (a + LO) = a + LO := wrap_i64_id (by omega) (by omega)
  have n2 : IntKind.i64.wrap (b + HI) = b + HI := wrap_i64_id (by omega) (by omega)
  have HLO := Lib.hid hLO
  have HHI := Lib.hid hHI
  have g1 : (a != -2305843009213693952) = true := bne_iff_ne.mpr ha
  have g2 : (b != 2305843009213693952) = true := bne_iff_ne.mpr hb
  clear h hd t1 t2 hLO hHI
  unfold spanV
  go_enter Try.func15, Try.ntmps15
  go_wp2_with (first
    | (go_at_call 20; refine (ref_Check _ _ _).mono ?_; rintro e w1 ⟨rfl, hb⟩; rw [HE.out]; clear hc; have hh := (Held.below hh hb); have hc := hh.cells; simp only [Cells, and_true] at hc)
    | (go_at_call 13; refine (ref2_Elapsed _ _ _).mono ?_; rintro e w1 ⟨rfl, hb⟩; rw [HLO.out, HHI.out, H3.out]; clear hc; have hh := (Held.below hh hb); have hc := hh.cells; simp only [Cells, and_true] at hc; have h0 := hh.push 34 #[.int .i64 a, .int .i64 b]; have c0 := h0.cells; simp only [Cells, and_true] at c0; have h1 := hh.push 34 #[.int .i64 (bnd (a + LO)), .int .i64 b]; have c1 := h1.cells; simp only [Cells, and_true] at c1; have h2 := hh.push 34 #[.int .i64 (bnd (a + LO)), .int .i64 (bnd (b + HI))]; have c2 := h2.cells; simp only [Cells, and_true] at c2)
    | (go_at_call 21; refine (ref_Bound _ _).mono ?_; rintro e w' ⟨rfl, rfl⟩))
  have hr := h2.res (a := .int .i64 0) (b := .int .i64 0) (g := w.heap.size + 1) (t := 34) (.int .i64 (bnd (a + LO))) (.int .i64 (bnd (b + HI))) (by simp)
  refine bodyPost_ret (by simp [results, Try.results15, go_sem, hr.1, hr.2]; try rfl) rfl ?_
  exact ⟨rfl, (h2.1.setCell (Nat.le_add_right _ 1) _).setCell (Nat.le_add_right _ 1) _⟩

set_option maxHeartbeats 1000000 in
theorem ref2_Age_lo (a b d rho LO HI : Int) (h : isSpan a b) (hd : elOk d rho) (hLO : elLo d rho = LO) (hHI : elHi d rho = HI) (ha : a ≠ -2305843009213693952) (hb : b = 2305843009213693952) (w : World) : Calls Try.prog 15 #[spanV a b, .int .i64 d, .int .i64 rho] w fun e w' => e = .returned (.tuple #[spanV (bnd (a + LO)) 2305843009213693952, .int .i64 0]) ∧ Below w.heap.size w w' := by
  have h0 := ((Held.start w).push 34 #[.int .i64 a, .int .i64 b]).push 34 #[.int .i64 0, .int .i64 0]
  rw [World.size_alloc] at h0
  have hh := h0
  clear h0
  have hc := hh.cells
  simp only [Cells, and_true] at hc
  have HE := Lib.hid (checkE_yes h)
  have H3 := Lib.hid (show elE d rho = 0 by unfold elE; rw [if_pos hd])
  obtain ⟨t1, t2, -, -⟩ := el_isT d rho
  rw [hLO] at t1
  rw [hHI] at t2
  obtain ⟨d1, d2⟩ := isT_le t1
  obtain ⟨d3, d4⟩ := isT_le t2
  obtain ⟨a1, a2⟩ := isT_le h.1
  obtain ⟨b1, b2⟩ := isT_le h.2.1
  have n1 : IntKind.i64.wrap (a + LO) = a + LO := wrap_i64_id (by omega) (by omega)
  have n2 : IntKind.i64.wrap (b + HI) = b + HI := wrap_i64_id (by omega) (by omega)
  have HLO := Lib.hid hLO
  have HHI := Lib.hid hHI
  have g1 : (a != -2305843009213693952) = true := bne_iff_ne.mpr ha
  subst hb
  clear h hd t1 t2 hLO hHI
  unfold spanV
  go_enter Try.func15, Try.ntmps15
  go_wp2_with (first
    | (go_at_call 20; refine (ref_Check _ _ _).mono ?_; rintro e w1 ⟨rfl, hb⟩; rw [HE.out]; clear hc; have hh := (Held.below hh hb); have hc := hh.cells; simp only [Cells, and_true] at hc)
    | (go_at_call 13; refine (ref2_Elapsed _ _ _).mono ?_; rintro e w1 ⟨rfl, hb⟩; rw [HLO.out, HHI.out, H3.out]; clear hc; have hh := (Held.below hh hb); have hc := hh.cells; simp only [Cells, and_true] at hc; have h0 := hh.push 34 #[.int .i64 a, .int .i64 2305843009213693952]; have c0 := h0.cells; simp only [Cells, and_true] at c0; have h1 := hh.push 34 #[.int .i64 (bnd (a + LO)), .int .i64 2305843009213693952]; have c1 := h1.cells; simp only [Cells, and_true] at c1)
    | (go_at_call 21; refine (ref_Bound _ _).mono ?_; rintro e w' ⟨rfl, rfl⟩))
  have hr := h1.res (a := .int .i64 0) (b := .int .i64 0) (g := w.heap.size + 1) (t := 34) (.int .i64 (bnd (a + LO))) (.int .i64 2305843009213693952) (by simp)
  refine bodyPost_ret (by simp [results, Try.results15, go_sem, hr.1, hr.2]; try rfl) rfl ?_
  exact ⟨rfl, (h1.1.setCell (Nat.le_add_right _ 1) _).setCell (Nat.le_add_right _ 1) _⟩

set_option maxHeartbeats 1000000 in
theorem ref2_Age_hi (a b d rho LO HI : Int) (h : isSpan a b) (hd : elOk d rho) (hLO : elLo d rho = LO) (hHI : elHi d rho = HI) (ha : a = -2305843009213693952) (hb : b ≠ 2305843009213693952) (w : World) : Calls Try.prog 15 #[spanV a b, .int .i64 d, .int .i64 rho] w fun e w' => e = .returned (.tuple #[spanV (-2305843009213693952) (bnd (b + HI)), .int .i64 0]) ∧ Below w.heap.size w w' := by
  have h0 := ((Held.start w).push 34 #[.int .i64 a, .int .i64 b]).push 34 #[.int .i64 0, .int .i64 0]
  rw [World.size_alloc] at h0
  have hh := h0
  clear h0
  have hc := hh.cells
  simp only [Cells, and_true] at hc
  have HE := Lib.hid (checkE_yes h)
  have H3 := Lib.hid (show elE d rho = 0 by unfold elE; rw [if_pos hd])
  obtain ⟨t1, t2, -, -⟩ := el_isT d rho
  rw [hLO] at t1
  rw [hHI] at t2
  obtain ⟨d1, d2⟩ := isT_le t1
  obtain ⟨d3, d4⟩ := isT_le t2
  obtain ⟨a1, a2⟩ := isT_le h.1
  obtain ⟨b1, b2⟩ := isT_le h.2.1
  have n1 : IntKind.i64.wrap (a + LO) = a + LO := wrap_i64_id (by omega) (by omega)
  have n2 : IntKind.i64.wrap (b + HI) = b + HI := wrap_i64_id (by omega) (by omega)
  have HLO := Lib.hid hLO
  have HHI := Lib.hid hHI
  subst ha
  have g2 : (b != 2305843009213693952) = true := bne_iff_ne.mpr hb
  clear h hd t1 t2 hLO hHI
  unfold spanV
  go_enter Try.func15, Try.ntmps15
  go_wp2_with (first
    | (go_at_call 20; refine (ref_Check _ _ _).mono ?_; rintro e w1 ⟨rfl, hb⟩; rw [HE.out]; clear hc; have hh := (Held.below hh hb); have hc := hh.cells; simp only [Cells, and_true] at hc)
    | (go_at_call 13; refine (ref2_Elapsed _ _ _).mono ?_; rintro e w1 ⟨rfl, hb⟩; rw [HLO.out, HHI.out, H3.out]; clear hc; have hh := (Held.below hh hb); have hc := hh.cells; simp only [Cells, and_true] at hc; have h0 := hh.push 34 #[.int .i64 (-2305843009213693952), .int .i64 b]; have c0 := h0.cells; simp only [Cells, and_true] at c0; have h1 := hh.push 34 #[.int .i64 (-2305843009213693952), .int .i64 (bnd (b + HI))]; have c1 := h1.cells; simp only [Cells, and_true] at c1)
    | (go_at_call 21; refine (ref_Bound _ _).mono ?_; rintro e w' ⟨rfl, rfl⟩))
  have hr := h1.res (a := .int .i64 0) (b := .int .i64 0) (g := w.heap.size + 1) (t := 34) (.int .i64 (-2305843009213693952)) (.int .i64 (bnd (b + HI))) (by simp)
  refine bodyPost_ret (by simp [results, Try.results15, go_sem, hr.1, hr.2]; try rfl) rfl ?_
  exact ⟨rfl, (h1.1.setCell (Nat.le_add_right _ 1) _).setCell (Nat.le_add_right _ 1) _⟩

set_option maxHeartbeats 1000000 in
theorem ref2_Age_none (a b d rho LO HI : Int) (h : isSpan a b) (hd : elOk d rho) (hLO : elLo d rho = LO) (hHI : elHi d rho = HI) (ha : a = -2305843009213693952) (hb : b = 2305843009213693952) (w : World) : Calls Try.prog 15 #[spanV a b, .int .i64 d, .int .i64 rho] w fun e w' => e = .returned (.tuple #[spanV (-2305843009213693952) 2305843009213693952, .int .i64 0]) ∧ Below w.heap.size w w' := by
  have h0 := ((Held.start w).push 34 #[.int .i64 a, .int .i64 b]).push 34 #[.int .i64 0, .int .i64 0]
  rw [World.size_alloc] at h0
  have hh := h0
  clear h0
  have hc := hh.cells
  simp only [Cells, and_true] at hc
  have HE := Lib.hid (checkE_yes h)
  have H3 := Lib.hid (show elE d rho = 0 by unfold elE; rw [if_pos hd])
  obtain ⟨t1, t2, -, -⟩ := el_isT d rho
  rw [hLO] at t1
  rw [hHI] at t2
  obtain ⟨d1, d2⟩ := isT_le t1
  obtain ⟨d3, d4⟩ := isT_le t2
  obtain ⟨a1, a2⟩ := isT_le h.1
  obtain ⟨b1, b2⟩ := isT_le h.2.1
  have n1 : IntKind.i64.wrap (a + LO) = a + LO := wrap_i64_id (by omega) (by omega)
  have n2 : IntKind.i64.wrap (b + HI) = b + HI := wrap_i64_id (by omega) (by omega)
  have HLO := Lib.hid hLO
  have HHI := Lib.hid hHI
  subst ha
  subst hb
  clear h hd t1 t2 hLO hHI
  unfold spanV
  go_enter Try.func15, Try.ntmps15
  go_wp2_with (first
    | (go_at_call 20; refine (ref_Check _ _ _).mono ?_; rintro e w1 ⟨rfl, hb⟩; rw [HE.out]; clear hc; have hh := (Held.below hh hb); have hc := hh.cells; simp only [Cells, and_true] at hc)
    | (go_at_call 13; refine (ref2_Elapsed _ _ _).mono ?_; rintro e w1 ⟨rfl, hb⟩; rw [HLO.out, HHI.out, H3.out]; clear hc; have hh := (Held.below hh hb); have hc := hh.cells; simp only [Cells, and_true] at hc; have h0 := hh.push 34 #[.int .i64 (-2305843009213693952), .int .i64 2305843009213693952]; have c0 := h0.cells; simp only [Cells, and_true] at c0)
    | (go_at_call 21; refine (ref_Bound _ _).mono ?_; rintro e w' ⟨rfl, rfl⟩))
  have hr := h0.res (a := .int .i64 0) (b := .int .i64 0) (g := w.heap.size + 1) (t := 34) (.int .i64 (-2305843009213693952)) (.int .i64 2305843009213693952) (by simp)
  refine bodyPost_ret (by simp [results, Try.results15, go_sem, hr.1, hr.2]; try rfl) rfl ?_
  exact ⟨rfl, (h0.1.setCell (Nat.le_add_right _ 1) _).setCell (Nat.le_add_right _ 1) _⟩

theorem osc_Age (a b d rho : Int) (w : World) : Calls Try.prog 14 #[spanV a b, .int .i64 d, .int .i64 rho] w fun e w' => e = .returned (.tuple #[ageV a b d rho, .int .i64 (ageE a b d rho)]) ∧ Below w.heap.size w w' := by
  unfold ageV ageE
  by_cases h : isSpan a b
  · by_cases hd : elOk d rho
    · have h3 : isSpan a b ∧ elOk d rho := ⟨h, hd⟩
      rw [if_pos h3, if_pos h, if_pos hd]
      exact osc_Age_yes a b d rho h hd w
    · rw [if_neg (fun h => hd h.2), if_pos h, if_neg hd]; exact osc_Age_no2 a b d rho h hd w
  · rw [if_neg (fun h' => h h'.1), if_neg h]; exact osc_Age_no1 a b d rho h w

theorem ref2_Age (a b d rho : Int) (w : World) : Calls Try.prog 15 #[spanV a b, .int .i64 d, .int .i64 rho] w fun e w' => e = .returned (.tuple #[ageV a b d rho, .int .i64 (ageE a b d rho)]) ∧ Below w.heap.size w w' := by
  unfold ageV ageE
  by_cases h : isSpan a b
  · by_cases hd : elOk d rho
    · have h3 : isSpan a b ∧ elOk d rho := ⟨h, hd⟩
      rw [if_pos h3, if_pos h, if_pos hd]
      unfold ageLo ageHi shiftLo shiftHi
      by_cases ha : a = -2305843009213693952 <;> by_cases hb : b = 2305843009213693952
      · rw [if_pos ha, if_pos hb, ha, hb]; have := ref2_Age_none a b d rho _ _ h hd rfl rfl ha hb w; rw [ha, hb] at this; exact this
      · rw [if_pos ha, if_neg hb, ha]; have := ref2_Age_hi a b d rho _ _ h hd rfl rfl ha hb w; rw [ha] at this; exact this
      · rw [if_neg ha, if_pos hb, hb]; have := ref2_Age_lo a b d rho _ _ h hd rfl rfl ha hb w; rw [hb] at this; exact this
      · rw [if_neg ha, if_neg hb]; exact ref2_Age_both a b d rho _ _ h hd rfl rfl ha hb w
    · rw [if_neg (fun h => hd h.2), if_pos h, if_neg hd]; exact ref2_Age_no2 a b d rho h hd w
  · rw [if_neg (fun h' => h h'.1), if_neg h]; exact ref2_Age_no1 a b d rho h w

end Go.Proofs.Ytgahmboecbfplaa
