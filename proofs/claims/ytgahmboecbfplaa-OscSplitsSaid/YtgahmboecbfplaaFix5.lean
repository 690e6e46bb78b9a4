/- Layer 1: spans are moved; the document's own cutting. -/
import Derived.Test.YtgahmboecbfplaaFix4
namespace Go.Proofs.Ytgahmboecbfplaa
set_option linter.unusedVariables false
set_option linter.unusedSimpArgs false
open Go.RowKit
attribute [local go_sem] max2_mm min2_mm max_two min_two


set_option maxHeartbeats 1000000 in
theorem fix_Shift_both (a b d : Int) (h : isSpan a b) (hd : isT d) (ha : -2305843009213693952 < a) (hb : b < 2305843009213693952) (w : World) : Calls Try.prog 19 #[spanV a b, .int .i64 d] w fun e w' => e = .returned (.tuple #[spanV (bnd (a + d)) (bnd (b + d)), .int .i64 0]) ∧ Below w.heap.size w w' := by
  have h0 := ((Held.start w).push 34 #[.int .i64 a, .int .i64 b]).push 34 #[.int .i64 0, .int .i64 0]
  rw [World.size_alloc] at h0
  have H0 := Lib.hid h0
  have HE := Lib.hid (checkE_yes h)
  have hdd := decide_eq_true hd
  obtain ⟨d1, d2⟩ := isT_le hd
  obtain ⟨a1, a2⟩ := isT_le h.1
  obtain ⟨b1, b2⟩ := isT_le h.2.1
  have n1 : IntKind.i64.wrap (a + d) = a + d := wrap_i64_id (by omega) (by omega)
  have n2 : IntKind.i64.wrap (b + d) = b + d := wrap_i64_id (by omega) (by omega)
  have g1 : decide (-2305843009213693952 < a) = true := decide_eq_true ha
  have g2 : decide (b < 2305843009213693952) = true := decide_eq_true hb
  clear h h0 hd
  unfold spanV
  go_enter Try.func19, Try.ntmps19
  go_wp2_with (first
    | (go_at_call 18; refine (fix_Check _ _ _).mono ?_; rintro e w1 ⟨rfl, hb⟩; rw [HE.out]; have hh := H0.out.below hb; have hc := hh.cells; simp only [Cells, and_true] at hc; have h0 := hh.put w.heap.size 0 (.int .i64 (bnd (a + d))) (Nat.le_refl _); simp only [List.map_cons, List.map_nil, Nat.succ_ne_self, Nat.add_eq_left, Nat.one_ne_zero, if_false, if_true] at h0; have c0 := h0.cells; simp only [Cells, and_true] at c0; have h1 := h0.put w.heap.size 1 (.int .i64 (bnd (b + d))) (Nat.le_refl _); simp only [List.map_cons, List.map_nil, Nat.succ_ne_self, Nat.add_eq_left, Nat.one_ne_zero, if_false, if_true] at h1; have c1 := h1.cells; simp only [Cells, and_true] at c1)
    | (go_at_call 22; refine (fix_is _ _).mono ?_; rintro e w' ⟨rfl, rfl⟩)
    | (go_at_call 25; refine (fix_bound _ _).mono ?_; rintro e w' ⟨rfl, rfl⟩))
  have hr := h1.res (a := .int .i64 0) (b := .int .i64 0) (g := w.heap.size + 1) (t := 34) (.int .i64 (bnd (a + d))) (.int .i64 (bnd (b + d))) (by simp)
  refine bodyPost_ret (by simp [results, Try.results19, go_sem, hr.1, hr.2]; try rfl) rfl ?_
  exact ⟨rfl, (h1.1.setCell (Nat.le_add_right _ 1) _).setCell (Nat.le_add_right _ 1) _⟩

set_option maxHeartbeats 1000000 in
theorem fix_Shift_lo (a b d : Int) (h : isSpan a b) (hd : isT d) (ha : -2305843009213693952 < a) (hb : b = 2305843009213693952) (w : World) : Calls Try.prog 19 #[spanV a b, .int .i64 d] w fun e w' => e = .returned (.tuple #[spanV (bnd (a + d)) b, .int .i64 0]) ∧ Below w.heap.size w w' := by
  have h0 := ((Held.start w).push 34 #[.int .i64 a, .int .i64 b]).push 34 #[.int .i64 0, .int .i64 0]
  rw [World.size_alloc] at h0
  have H0 := Lib.hid h0
  have HE := Lib.hid (checkE_yes h)
  have hdd := decide_eq_true hd
  obtain ⟨d1, d2⟩ := isT_le hd
  obtain ⟨a1, a2⟩ := isT_le h.1
  obtain ⟨b1, b2⟩ := isT_le h.2.1
  have n1 : IntKind.i64.wrap (a + d) = a + d := wrap_i64_id (by omega) (by omega)
  have n2 : IntKind.i64.wrap (b + d) = b + d := wrap_i64_id (by omega) (by omega)
  have g1 : decide (-2305843009213693952 < a) = true := decide_eq_true ha
  subst hb
  clear h h0 hd
  unfold spanV
  go_enter Try.func19, Try.ntmps19
  go_wp2_with (first
    | (go_at_call 18; refine (fix_Check _ _ _).mono ?_; rintro e w1 ⟨rfl, hb⟩; rw [HE.out]; have hh := H0.out.below hb; have hc := hh.cells; simp only [Cells, and_true] at hc; have h0 := hh.put w.heap.size 0 (.int .i64 (bnd (a + d))) (Nat.le_refl _); simp only [List.map_cons, List.map_nil, Nat.succ_ne_self, Nat.add_eq_left, Nat.one_ne_zero, if_false, if_true] at h0; have c0 := h0.cells; simp only [Cells, and_true] at c0)
    | (go_at_call 22; refine (fix_is _ _).mono ?_; rintro e w' ⟨rfl, rfl⟩)
    | (go_at_call 25; refine (fix_bound _ _).mono ?_; rintro e w' ⟨rfl, rfl⟩))
  have hr := h0.res (a := .int .i64 0) (b := .int .i64 0) (g := w.heap.size + 1) (t := 34) (.int .i64 (bnd (a + d))) (.int .i64 2305843009213693952) (by simp)
  refine bodyPost_ret (by simp [results, Try.results19, go_sem, hr.1, hr.2]; try rfl) rfl ?_
  exact ⟨rfl, (h0.1.setCell (Nat.le_add_right _ 1) _).setCell (Nat.le_add_right _ 1) _⟩

set_option maxHeartbeats 1000000 in
theorem fix_Shift_hi (a b d : Int) (h : isSpan a b) (hd : isT d) (ha : a = -2305843009213693952) (hb : b < 2305843009213693952) (w : World) : Calls Try.prog 19 #[spanV a b, .int .i64 d] w fun e w' => e = .returned (.tuple #[spanV a (bnd (b + d)), .int .i64 0]) ∧ Below w.heap.size w w' := by
  have h0 := ((Held.start w).push 34 #[.int .i64 a, .int .i64 b]).push 34 #[.int .i64 0, .int .i64 0]
  rw [World.size_alloc] at h0
  have H0 := Lib.hid h0
  have HE := Lib.hid (checkE_yes h)
  have hdd := decide_eq_true hd
  obtain ⟨d1, d2⟩ := isT_le hd
  obtain ⟨a1, a2⟩ := isT_le h.1
  obtain ⟨b1, b2⟩ := isT_le h.2.1
  have n1 : IntKind.i64.wrap (a + d) = a + d := wrap_i64_id (by omega) (by omega)
  have n2 : IntKind.i64.wrap (b + d) = b + d := wrap_i64_id (by omega) (by omega)
  subst ha
  have g2 : decide (b < 2305843009213693952) = true := decide_eq_true hb
  clear h h0 hd
  unfold spanV
  go_enter Try.func19, Try.ntmps19
  go_wp2_with (first
    | (go_at_call 18; refine (fix_Check _ _ _).mono ?_; rintro e w1 ⟨rfl, hb⟩; rw [HE.out]; have hh := H0.out.below hb; have hc := hh.cells; simp only [Cells, and_true] at hc; have h0 := hh.put w.heap.size 1 (.int .i64 (bnd (b + d))) (Nat.le_refl _); simp only [List.map_cons, List.map_nil, Nat.succ_ne_self, Nat.add_eq_left, Nat.one_ne_zero, if_false, if_true] at h0; have c0 := h0.cells; simp only [Cells, and_true] at c0)
    | (go_at_call 22; refine (fix_is _ _).mono ?_; rintro e w' ⟨rfl, rfl⟩)
    | (go_at_call 25; refine (fix_bound _ _).mono ?_; rintro e w' ⟨rfl, rfl⟩))
  have hr := h0.res (a := .int .i64 0) (b := .int .i64 0) (g := w.heap.size + 1) (t := 34) (.int .i64 (-2305843009213693952)) (.int .i64 (bnd (b + d))) (by simp)
  refine bodyPost_ret (by simp [results, Try.results19, go_sem, hr.1, hr.2]; try rfl) rfl ?_
  exact ⟨rfl, (h0.1.setCell (Nat.le_add_right _ 1) _).setCell (Nat.le_add_right _ 1) _⟩

set_option maxHeartbeats 1000000 in
theorem fix_Shift_none (a b d : Int) (h : isSpan a b) (hd : isT d) (ha : a = -2305843009213693952) (hb : b = 2305843009213693952) (w : World) : Calls Try.prog 19 #[spanV a b, .int .i64 d] w fun e w' => e = .returned (.tuple #[spanV a b, .int .i64 0]) ∧ Below w.heap.size w w' := by
  have h0 := ((Held.start w).push 34 #[.int .i64 a, .int .i64 b]).push 34 #[.int .i64 0, .int .i64 0]
  rw [World.size_alloc] at h0
  have H0 := Lib.hid h0
  have HE := Lib.hid (checkE_yes h)
  have hdd := decide_eq_true hd
  obtain ⟨d1, d2⟩ := isT_le hd
  obtain ⟨a1, a2⟩ := isT_le h.1
  obtain ⟨b1, b2⟩ := isT_le h.2.1
  have n1 : IntKind.i64.wrap (a + d) = a + d := wrap_i64_id (by omega) (by omega)
  have n2 : IntKind.i64.wrap (b + d) = b + d := wrap_i64_id (by omega) (by omega)
  subst ha
  subst hb
  clear h h0 hd
  unfold spanV
  go_enter Try.func19, Try.ntmps19
  go_wp2_with (first
    | (go_at_call 18; refine (fix_Check _ _ _).mono ?_; rintro e w1 ⟨rfl, hb⟩; rw [HE.out]; have hh := H0.out.below hb; have hc := hh.cells; simp only [Cells, and_true] at hc)
    | (go_at_call 22; refine (fix_is _ _).mono ?_; rintro e w' ⟨rfl, rfl⟩)
    | (go_at_call 25; refine (fix_bound _ _).mono ?_; rintro e w' ⟨rfl, rfl⟩))
  have hr := hh.res (a := .int .i64 0) (b := .int .i64 0) (g := w.heap.size + 1) (t := 34) (.int .i64 (-2305843009213693952)) (.int .i64 2305843009213693952) (by simp)
  refine bodyPost_ret (by simp [results, Try.results19, go_sem, hr.1, hr.2]; try rfl) rfl ?_
  exact ⟨rfl, (hh.1.setCell (Nat.le_add_right _ 1) _).setCell (Nat.le_add_right _ 1) _⟩

theorem fix_Shift (a b d : Int) (w : World) : Calls Try.prog 19 #[spanV a b, .int .i64 d] w fun e w' => e = .returned (.tuple #[shiftV a b d, .int .i64 (shiftE a b d)]) ∧ Below w.heap.size w w' := by
  unfold shiftV shiftE
  by_cases h : isSpan a b
  · rw [if_pos h, if_pos h]
    by_cases hd : isT d
    · rw [if_pos hd, if_pos hd]
      obtain ⟨a1, a2⟩ := isT_le h.1
      obtain ⟨b1, b2⟩ := isT_le h.2.1
      unfold shiftLo shiftHi
      by_cases ha : a = -2305843009213693952 <;> by_cases hb : b = 2305843009213693952
      · rw [if_pos ha, if_pos hb]; exact fix_Shift_none a b d h hd ha hb w
      · rw [if_pos ha, if_neg hb]; exact fix_Shift_hi a b d h hd ha (by omega) w
      · rw [if_neg ha, if_pos hb]; exact fix_Shift_lo a b d h hd (by omega) hb w
      · rw [if_neg ha, if_neg hb]; exact fix_Shift_both a b d h hd (by omega) (by omega) w
    · rw [if_neg hd, if_neg hd]; exact fix_Shift_no2 a b d h hd w
  · rw [if_neg h, if_neg h]; exact fix_Shift_no1 a b d h w

end Go.Proofs.Ytgahmboecbfplaa
