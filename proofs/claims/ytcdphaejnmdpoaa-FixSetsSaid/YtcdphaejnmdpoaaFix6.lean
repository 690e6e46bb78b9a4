/- Layer 1: spans are moved; the document's own cutting. -/
import Derived.Test.YtcdphaejnmdpoaaFix4
namespace Go.Proofs.Ytcdphaejnmdpoaa
set_option linter.unusedVariables false
set_option linter.unusedSimpArgs false
open Go.RowKit
attribute [local go_sem] max2_mm min2_mm max_two min_two


set_option maxHeartbeats 1000000 in
theorem ref_Shift_both (a b d : Int) (h : isSpan a b) (hd : isT d) (ha : a ≠ -2305843009213693952) (hb : b ≠ 2305843009213693952) (w : World) : Calls Try.prog 27 #[spanV a b, .int .i64 d] w fun e w' => e = .returned (.tuple #[spanV (bnd (a + d)) (bnd (b + d)), .int .i64 0]) ∧ Below w.heap.size w w' := by
  have h0 := ((Held.start w).push 40 #[.int .i64 a, .int .i64 b]).push 40 #[.int .i64 0, .int .i64 0]
  rw [World.size_alloc] at h0
  have H0 := Lib.hid h0
  have HE := Lib.hid (checkE_yes h)
  have hdd := decide_eq_true hd
  obtain ⟨d1, d2⟩ := isT_le hd
  obtain ⟨a1, a2⟩ := isT_le h.1
  obtain ⟨b1, b2⟩ := isT_le h.2.1
  have n1 : IntKind.i64.wrap (a + d) = a + d := wrap_i64_id (by omega) (by omega)
  have n2 : IntKind.i64.wrap (b + d) = b + d := wrap_i64_id (by omega) (by omega)
  have g1 : (a != -2305843009213693952) = true := bne_iff_ne.mpr ha
  have g2 : (b != 2305843009213693952) = true := bne_iff_ne.mpr hb
  clear h h0 hd
  unfold spanV
  go_enter Try.func27, Try.ntmps27
  go_wp2_with (first
    | (go_at_call 29; refine (ref_Check _ _ _).mono ?_; rintro e w1 ⟨rfl, hb⟩; rw [HE.out]; have hh := H0.out.below hb; have hc := hh.cells; simp only [Cells, and_true] at hc; have h0 := hh.push 40 #[.int .i64 a, .int .i64 b]; have c0 := h0.cells; simp only [Cells, and_true] at c0; have h1 := hh.push 40 #[.int .i64 (bnd (a + d)), .int .i64 b]; have c1 := h1.cells; simp only [Cells, and_true] at c1; have h2 := hh.push 40 #[.int .i64 (bnd (a + d)), .int .i64 (bnd (b + d))]; have c2 := h2.cells; simp only [Cells, and_true] at c2)
    | (go_at_call 35; refine (ref_Is _ _).mono ?_; rintro e w' ⟨rfl, rfl⟩)
    | (go_at_call 36; refine (ref_Bound _ _).mono ?_; rintro e w' ⟨rfl, rfl⟩))
  have hr := h2.res (a := .int .i64 0) (b := .int .i64 0) (g := w.heap.size + 1) (t := 40) (.int .i64 (bnd (a + d))) (.int .i64 (bnd (b + d))) (by simp)
  refine bodyPost_ret (by simp [results, Try.results27, go_sem, hr.1, hr.2]; try rfl) rfl ?_
  exact ⟨rfl, (h2.1.setCell (Nat.le_add_right _ 1) _).setCell (Nat.le_add_right _ 1) _⟩

set_option maxHeartbeats 1000000 in
theorem ref_Shift_lo (a b d : Int) (h : isSpan a b) (hd : isT d) (ha : a ≠ -2305843009213693952) (hb : b = 2305843009213693952) (w : World) : Calls Try.prog 27 #[spanV a b, .int .i64 d] w fun e w' => e = .returned (.tuple #[spanV (bnd (a + d)) b, .int .i64 0]) ∧ Below w.heap.size w w' := by
  have h0 := ((Held.start w).push 40 #[.int .i64 a, .int .i64 b]).push 40 #[.int .i64 0, .int .i64 0]
  rw [World.size_alloc] at h0
  have H0 := Lib.hid h0
  have HE := Lib.hid (checkE_yes h)
  have hdd := decide_eq_true hd
  obtain ⟨d1, d2⟩ := isT_le hd
  obtain ⟨a1, a2⟩ := isT_le h.1
  obtain ⟨b1, b2⟩ := isT_le h.2.1
  have n1 : IntKind.i64.wrap (a + d) = a + d := wrap_i64_id (by omega) (by omega)
  have n2 : IntKind.i64.wrap (b + d) = b + d := wrap_i64_id (by omega) (by omega)
  have g1 : (a != -2305843009213693952) = true := bne_iff_ne.mpr ha
  subst hb
  clear h h0 hd
  unfold spanV
  go_enter Try.func27, Try.ntmps27
  go_wp2_with (first
    | (go_at_call 29; refine (ref_Check _ _ _).mono ?_; rintro e w1 ⟨rfl, hb⟩; rw [HE.out]; have hh := H0.out.below hb; have hc := hh.cells; simp only [Cells, and_true] at hc; have h0 := hh.push 40 #[.int .i64 a, .int .i64 2305843009213693952]; have c0 := h0.cells; simp only [Cells, and_true] at c0; have h1 := hh.push 40 #[.int .i64 (bnd (a + d)), .int .i64 2305843009213693952]; have c1 := h1.cells; simp only [Cells, and_true] at c1)
    | (go_at_call 35; refine (ref_Is _ _).mono ?_; rintro e w' ⟨rfl, rfl⟩)
    | (go_at_call 36; refine (ref_Bound _ _).mono ?_; rintro e w' ⟨rfl, rfl⟩))
  have hr := h1.res (a := .int .i64 0) (b := .int .i64 0) (g := w.heap.size + 1) (t := 40) (.int .i64 (bnd (a + d))) (.int .i64 2305843009213693952) (by simp)
  refine bodyPost_ret (by simp [results, Try.results27, go_sem, hr.1, hr.2]; try rfl) rfl ?_
  exact ⟨rfl, (h1.1.setCell (Nat.le_add_right _ 1) _).setCell (Nat.le_add_right _ 1) _⟩

set_option maxHeartbeats 1000000 in
theorem ref_Shift_hi (a b d : Int) (h : isSpan a b) (hd : isT d) (ha : a = -2305843009213693952) (hb : b ≠ 2305843009213693952) (w : World) : Calls Try.prog 27 #[spanV a b, .int .i64 d] w fun e w' => e = .returned (.tuple #[spanV a (bnd (b + d)), .int .i64 0]) ∧ Below w.heap.size w w' := by
  have h0 := ((Held.start w).push 40 #[.int .i64 a, .int .i64 b]).push 40 #[.int .i64 0, .int .i64 0]
  rw [World.size_alloc] at h0
  have H0 := Lib.hid h0
  have HE := Lib.hid (checkE_yes h)
  have hdd := decide_eq_true hd
  obtain ⟨d1, d2⟩ := isT_le hd
  obtain ⟨a1, a2⟩ := isT_le h.1
  obtain ⟨b1, b2⟩ := isT_le h.2.1
  have n1 : IntKind.i64.wrap (a + d) = a + d := wrap_i64_id (by omega) (by omega)
  have n2 : IntKind.i64.wrap (b + d) = b + d := wrap_i64_id (by omega) (by omega)
  subst ha
  have g2 : (b != 2305843009213693952) = true := bne_iff_ne.mpr hb
  clear h h0 hd
  unfold spanV
  go_enter Try.func27, Try.ntmps27
  go_wp2_with (first
    | (go_at_call 29; refine (ref_Check _ _ _).mono ?_; rintro e w1 ⟨rfl, hb⟩; rw [HE.out]; have hh := H0.out.below hb; have hc := hh.cells; simp only [Cells, and_true] at hc; have h0 := hh.push 40 #[.int .i64 (-2305843009213693952), .int .i64 b]; have c0 := h0.cells; simp only [Cells, and_true] at c0; have h1 := hh.push 40 #[.int .i64 (-2305843009213693952), .int .i64 (bnd (b + d))]; have c1 := h1.cells; simp only [Cells, and_true] at c1)
    | (go_at_call 35; refine (ref_Is _ _).mono ?_; rintro e w' ⟨rfl, rfl⟩)
    | (go_at_call 36; refine (ref_Bound _ _).mono ?_; rintro e w' ⟨rfl, rfl⟩))
  have hr := h1.res (a := .int .i64 0) (b := .int .i64 0) (g := w.heap.size + 1) (t := 40) (.int .i64 (-2305843009213693952)) (.int .i64 (bnd (b + d))) (by simp)
  refine bodyPost_ret (by simp [results, Try.results27, go_sem, hr.1, hr.2]; try rfl) rfl ?_
  exact ⟨rfl, (h1.1.setCell (Nat.le_add_right _ 1) _).setCell (Nat.le_add_right _ 1) _⟩

set_option maxHeartbeats 1000000 in
theorem ref_Shift_none (a b d : Int) (h : isSpan a b) (hd : isT d) (ha : a = -2305843009213693952) (hb : b = 2305843009213693952) (w : World) : Calls Try.prog 27 #[spanV a b, .int .i64 d] w fun e w' => e = .returned (.tuple #[spanV a b, .int .i64 0]) ∧ Below w.heap.size w w' := by
  have h0 := ((Held.start w).push 40 #[.int .i64 a, .int .i64 b]).push 40 #[.int .i64 0, .int .i64 0]
  rw [World.size_alloc] at h0
  have H0 := Lib.hid h0
  have HE := Lib.hid (checkE_yes h)
  have hdd := decide_eq_true hd
  obtain ⟨d1, d2⟩ := isT_le hd
  obtain ⟨a1, a2⟩ := isT_le h.1
  obtain ⟨b1, b2⟩ := isT_le h.2.1
  have n1 : IntKind.i64.wrap (a + d) = a + d := wrap_i64_id (by omega) (by omega)
  have n2 : IntKind.i64.wrap (b + d) = b + d := wrap_i64_id (by omega) (by omega)
  subst ha
  subst hb
  clear h h0 hd
  unfold spanV
  go_enter Try.func27, Try.ntmps27
  go_wp2_with (first
    | (go_at_call 29; refine (ref_Check _ _ _).mono ?_; rintro e w1 ⟨rfl, hb⟩; rw [HE.out]; have hh := H0.out.below hb; have hc := hh.cells; simp only [Cells, and_true] at hc; have h0 := hh.push 40 #[.int .i64 (-2305843009213693952), .int .i64 2305843009213693952]; have c0 := h0.cells; simp only [Cells, and_true] at c0)
    | (go_at_call 35; refine (ref_Is _ _).mono ?_; rintro e w' ⟨rfl, rfl⟩)
    | (go_at_call 36; refine (ref_Bound _ _).mono ?_; rintro e w' ⟨rfl, rfl⟩))
  have hr := h0.res (a := .int .i64 0) (b := .int .i64 0) (g := w.heap.size + 1) (t := 40) (.int .i64 (-2305843009213693952)) (.int .i64 2305843009213693952) (by simp)
  refine bodyPost_ret (by simp [results, Try.results27, go_sem, hr.1, hr.2]; try rfl) rfl ?_
  exact ⟨rfl, (h0.1.setCell (Nat.le_add_right _ 1) _).setCell (Nat.le_add_right _ 1) _⟩

theorem ref_Shift (a b d : Int) (w : World) : Calls Try.prog 27 #[spanV a b, .int .i64 d] w fun e w' => e = .returned (.tuple #[shiftV a b d, .int .i64 (shiftE a b d)]) ∧ Below w.heap.size w w' := by
  unfold shiftV shiftE
  by_cases h : isSpan a b
  · rw [if_pos h, if_pos h]
    by_cases hd : isT d
    · rw [if_pos hd, if_pos hd]
      obtain ⟨a1, a2⟩ := isT_le h.1
      obtain ⟨b1, b2⟩ := isT_le h.2.1
      unfold shiftLo shiftHi
      by_cases ha : a = -2305843009213693952 <;> by_cases hb : b = 2305843009213693952
      · rw [if_pos ha, if_pos hb]; exact ref_Shift_none a b d h hd ha hb w
      · rw [if_pos ha, if_neg hb]; exact ref_Shift_hi a b d h hd ha hb w
      · rw [if_neg ha, if_pos hb]; exact ref_Shift_lo a b d h hd ha hb w
      · rw [if_neg ha, if_neg hb]; exact ref_Shift_both a b d h hd ha hb w
    · rw [if_neg hd, if_neg hd]; exact ref_Shift_no2 a b d h hd w
  · rw [if_neg h, if_neg h]; exact ref_Shift_no1 a b d h w

set_option maxHeartbeats 1000000 in
theorem ref_Meet (a b c d : Int) (w : World) : Calls Try.prog 23 #[spanV a b, spanV c d] w fun e w' => e = .returned (.tuple #[meetV a b c d, .int .i64 (meetE a b c d)]) ∧ Below w.heap.size w w' := by
  have h0 := ((Two2.start (t := 40) w (.int .i64 c) (.int .i64 d) (.int .i64 a) (.int .i64 b)).push 40 #[.int .i64 0, .int .i64 0])
  rw [World.size_alloc, World.size_alloc] at h0
  have H0 := Lib.hid h0
  clear h0
  unfold meetV meetE
  by_cases h1 : isSpan a b
  · have HE1 := Lib.hid (checkE_yes h1)
    by_cases h2 : isSpan c d
    · have HE2 := Lib.hid (checkE_yes h2)
      rw [if_pos (show isSpan a b ∧ isSpan c d from ⟨h1, h2⟩), if_pos (show isSpan a b ∧ isSpan c d from ⟨h1, h2⟩)]
      have hm : isSpan (max a c) (min b d) ↔ ¬ (min b d < max a c) := by unfold isSpan isT at *; omega
      by_cases hm' : isSpan (max a c) (min b d)
      · rw [if_pos hm', if_pos hm']
        have hlt := decide_eq_false (hm.1 hm')
        clear h1 h2 hm hm'
        unfold spanV
        go_enter Try.func23, Try.ntmps23
        go_wp2_with (go_at_call 29; refine (ref_Check _ _ _).mono ?_; rintro e w1 ⟨rfl, hb⟩; (first | rw [HE1.out] | rw [HE2.out]); (first | (have hh := hh.below hb) | (have hh := H0.out.below hb)); have hc := hh.cells; simp only [Cells, and_true] at hc; have hx := hh.push 40 #[.int .i64 (max a c), .int .i64 (min b d)]; have c1 := hx.cells; simp only [Cells, and_true] at c1)
        have hr := hx.res (a := .int .i64 0) (b := .int .i64 0) (g := w.heap.size + 1 + 1) (t := 40) (.int .i64 (max a c)) (.int .i64 (min b d)) (by simp)
        refine bodyPost_ret (by simp [results, Try.results23, go_sem, hr.1, hr.2]; try rfl) rfl ?_
        exact ⟨rfl, (hx.1.setCell (Nat.le_add_right _ 2) _).setCell (Nat.le_add_right _ 2) _⟩
      · rw [if_neg hm', if_neg hm']
        have hlt := decide_eq_true (Decidable.not_not.1 (fun h => hm' (hm.2 h)))
        clear h1 h2 hm hm'
        unfold spanV
        go_enter Try.func23, Try.ntmps23
        go_wp2_with (go_at_call 29; refine (ref_Check _ _ _).mono ?_; rintro e w1 ⟨rfl, hb⟩; (first | rw [HE1.out] | rw [HE2.out]); (first | (have hh := hh.below hb) | (have hh := H0.out.below hb)); have hc := hh.cells; simp only [Cells, and_true] at hc; have hx := hh.push 40 #[.int .i64 (max a c), .int .i64 (min b d)]; have c1 := hx.cells; simp only [Cells, and_true] at c1)
        have hr := hx.res (a := .int .i64 0) (b := .int .i64 0) (g := w.heap.size + 1 + 1) (t := 40) (.int .i64 0) (.int .i64 0) (by simp)
        refine bodyPost_ret (by simp [results, Try.results23, go_sem, hr.1, hr.2]; try rfl) rfl ?_
        exact ⟨rfl, (hx.1.setCell (Nat.le_add_right _ 2) _).setCell (Nat.le_add_right _ 2) _⟩
    · have HE2 := Lib.hid (checkE_no h2)
      rw [if_neg (fun h => h2 h.2), if_neg (fun h => h2 h.2)]
      clear h1 h2
      unfold spanV
      go_enter Try.func23, Try.ntmps23
      go_wp2_with (go_at_call 29; refine (ref_Check _ _ _).mono ?_; rintro e w1 ⟨rfl, hb⟩; (first | rw [HE1.out] | rw [HE2.out]); (first | (have hh := hh.below hb) | (have hh := H0.out.below hb)); have hc := hh.cells; simp only [Cells, and_true] at hc; have hx := hh.push 40 #[.int .i64 (max a c), .int .i64 (min b d)]; have c1 := hx.cells; simp only [Cells, and_true] at c1)
      have hr := hh.res (a := .int .i64 0) (b := .int .i64 0) (g := w.heap.size + 1 + 1) (t := 40) (.int .i64 0) (.int .i64 0) (by simp)
      refine bodyPost_ret (by simp [results, Try.results23, go_sem, hr.1, hr.2]; try rfl) rfl ?_
      exact ⟨rfl, (hh.1.setCell (Nat.le_add_right _ 2) _).setCell (Nat.le_add_right _ 2) _⟩
  · have HE1 := Lib.hid (checkE_no h1)
    rw [if_neg (fun h => h1 h.1), if_neg (fun h => h1 h.1)]
    clear h1
    unfold spanV
    go_enter Try.func23, Try.ntmps23
    go_wp2_with (go_at_call 29; refine (ref_Check _ _ _).mono ?_; rintro e w1 ⟨rfl, hb⟩; rw [HE1.out]; (first | (have hh := hh.below hb) | (have hh := H0.out.below hb)); have hc := hh.cells; simp only [Cells, and_true] at hc; have hx := hh.push 40 #[.int .i64 (max a c), .int .i64 (min b d)]; have c1 := hx.cells; simp only [Cells, and_true] at c1)
    have hr := hh.res (a := .int .i64 0) (b := .int .i64 0) (g := w.heap.size + 1 + 1) (t := 40) (.int .i64 0) (.int .i64 0) (by simp)
    refine bodyPost_ret (by simp [results, Try.results23, go_sem, hr.1, hr.2]; try rfl) rfl ?_
    exact ⟨rfl, (hh.1.setCell (Nat.le_add_right _ 2) _).setCell (Nat.le_add_right _ 2) _⟩

set_option maxHeartbeats 1000000 in
theorem ref_Cover (a b c d : Int) (w : World) : Calls Try.prog 25 #[spanV a b, spanV c d] w fun e w' => e = .returned (.tuple #[coverV a b c d, .int .i64 (coverE a b c d)]) ∧ Below w.heap.size w w' := by
  have h0 := ((Two2.start (t := 40) w (.int .i64 c) (.int .i64 d) (.int .i64 a) (.int .i64 b)).push 40 #[.int .i64 0, .int .i64 0])
  rw [World.size_alloc, World.size_alloc] at h0
  have H0 := Lib.hid h0
  clear h0
  unfold coverV coverE
  by_cases h1 : isSpan a b
  · have HE1 := Lib.hid (checkE_yes h1)
    by_cases h2 : isSpan c d
    · have HE2 := Lib.hid (checkE_yes h2)
      rw [if_pos (show isSpan a b ∧ isSpan c d from ⟨h1, h2⟩), if_pos (show isSpan a b ∧ isSpan c d from ⟨h1, h2⟩)]
      clear h1 h2
      unfold spanV
      go_enter Try.func25, Try.ntmps25
      go_wp2_with (go_at_call 29; refine (ref_Check _ _ _).mono ?_; rintro e w1 ⟨rfl, hb⟩; (first | rw [HE1.out] | rw [HE2.out]); (first | (have hh := hh.below hb) | (have hh := H0.out.below hb)); have hc := hh.cells; simp only [Cells, and_true] at hc)
      have hr := hh.res (a := .int .i64 0) (b := .int .i64 0) (g := w.heap.size + 1 + 1) (t := 40) (.int .i64 (min a c)) (.int .i64 (max b d)) (by simp)
      refine bodyPost_ret (by simp [results, Try.results25, go_sem, hr.1, hr.2]; try rfl) rfl ?_
      exact ⟨rfl, (hh.1.setCell (Nat.le_add_right _ 2) _).setCell (Nat.le_add_right _ 2) _⟩
    · have HE2 := Lib.hid (checkE_no h2)
      rw [if_neg (fun h => h2 h.2), if_neg (fun h => h2 h.2)]
      clear h1 h2
      unfold spanV
      go_enter Try.func25, Try.ntmps25
      go_wp2_with (go_at_call 29; refine (ref_Check _ _ _).mono ?_; rintro e w1 ⟨rfl, hb⟩; (first | rw [HE1.out] | rw [HE2.out]); (first | (have hh := hh.below hb) | (have hh := H0.out.below hb)); have hc := hh.cells; simp only [Cells, and_true] at hc)
      have hr := hh.res (a := .int .i64 0) (b := .int .i64 0) (g := w.heap.size + 1 + 1) (t := 40) (.int .i64 0) (.int .i64 0) (by simp)
      refine bodyPost_ret (by simp [results, Try.results25, go_sem, hr.1, hr.2]; try rfl) rfl ?_
      exact ⟨rfl, (hh.1.setCell (Nat.le_add_right _ 2) _).setCell (Nat.le_add_right _ 2) _⟩
  · have HE1 := Lib.hid (checkE_no h1)
    rw [if_neg (fun h => h1 h.1), if_neg (fun h => h1 h.1)]
    clear h1
    unfold spanV
    go_enter Try.func25, Try.ntmps25
    go_wp2_with (go_at_call 29; refine (ref_Check _ _ _).mono ?_; rintro e w1 ⟨rfl, hb⟩; rw [HE1.out]; (first | (have hh := hh.below hb) | (have hh := H0.out.below hb)); have hc := hh.cells; simp only [Cells, and_true] at hc)
    have hr := hh.res (a := .int .i64 0) (b := .int .i64 0) (g := w.heap.size + 1 + 1) (t := 40) (.int .i64 0) (.int .i64 0) (by simp)
    refine bodyPost_ret (by simp [results, Try.results25, go_sem, hr.1, hr.2]; try rfl) rfl ?_
    exact ⟨rfl, (hh.1.setCell (Nat.le_add_right _ 2) _).setCell (Nat.le_add_right _ 2) _⟩

theorem law_has (a b t : Int) (w : World) : Calls Try.prog 30 #[spanV a b, .int .i64 t] w fun e w' => e = .returned (.bool (decide (a ≤ t ∧ t ≤ b))) ∧ Below w.heap.size w w' := by
  unfold spanV
  go_enter Try.func30, Try.ntmps30
  go_wp2_with fail
  all_goals
    go_ret
    exact ⟨ret1b (by grind), (Below.refl _ _).alloc (Nat.le_refl _) _⟩

end Go.Proofs.Ytcdphaejnmdpoaa
