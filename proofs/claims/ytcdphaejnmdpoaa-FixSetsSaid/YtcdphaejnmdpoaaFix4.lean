/- Layer 1: spans. -/
import Derived.Test.YtcdphaejnmdpoaaFix3
import Derived.Test.YtcdphaejnmdpoaaHeld
import Derived.Deep.RegionHeld3
import Derived.Deep.RegionWith
namespace Go.Proofs.Ytcdphaejnmdpoaa
set_option linter.unusedVariables false
set_option linter.unusedSimpArgs false
open Go.RowKit
attribute [local go_sem] max2_mm min2_mm max_two min_two

def twoE (a b c d : Int) : Int := max (checkE a b) (checkE c d)
set_option maxHeartbeats 1000000 in
theorem fix_two (a b c d : Int) (w : World) : Calls Try.prog 38 #[spanV a b, spanV c d] w fun e w' => e = .returned (.int .i64 (twoE a b c d)) ∧ Below w.heap.size w w' := by
  unfold spanV
  go_enter Try.func38, Try.ntmps38
  go_wp2_with fail
  have hq := (Two2.start (t := 40) w (.int .i64 c) (.int .i64 d) (.int .i64 a) (.int .i64 b)).both
  generalize ((w.alloc (.cells #[.int .i64 a, .int .i64 b] 40)).alloc (.cells #[.int .i64 c, .int .i64 d] 40)) = W at *
  obtain ⟨g, hg⟩ : ∃ g, w.heap.size = g := ⟨_, rfl⟩
  obtain ⟨g', hg'⟩ : ∃ g', g + 1 = g' := ⟨_, rfl⟩
  rw [hg] at hq ⊢
  rw [hg'] at hq ⊢
  clear hg hg'
  have ht := hq.1
  have hck : ∀ (a b : Int) (w : World), Calls Try.prog 28 #[.agg #[.int .i64 a, .int .i64 b]] w fun e w' => e = .returned (.int .i64 (checkE a b)) ∧ Below w.heap.size w w' := fix_Check
  go_region_held3 (fun w' => Two2 w w' g' g 40 (.int .i64 c) (.int .i64 d) (.int .i64 a) (.int .i64 b) ∧ w'.cell? ⟨g', 0, none⟩ = some (.int .i64 c) ∧ w'.cell? ⟨g', 1, none⟩ = some (.int .i64 d) ∧ w'.cell? ⟨g, 0, none⟩ = some (.int .i64 a) ∧ w'.cell? ⟨g, 1, none⟩ = some (.int .i64 b)) (first | assumption | exact Two2.both (by assumption) | exact Two2.both (Two2.drew (by assumption)))
    (first | (go_at_call 28; refine (hck _ _ _).mono ?_; rintro e w' ⟨rfl, hb⟩; have hq := Two2.more_both (w0 := w) (g1 := g') (g2 := g) (t := 40) (a := .int .i64 c) (b := .int .i64 d) (c := .int .i64 a) (d := .int .i64 b) (by assumption) hb; have ht := hq.1))
  go_wp2_with fail
  go_ret
  exact ⟨rfl, ht.1⟩

theorem checkE_yes {a b : Int} (h : isSpan a b) : checkE a b = 0 := by unfold checkE; rw [if_pos h]
theorem checkE_no {a b : Int} (h : ¬ isSpan a b) : checkE a b = 3 := by unfold checkE; rw [if_neg h]
theorem twoE_yes {a b c d : Int} (h : isSpan a b ∧ isSpan c d) : twoE a b c d = 0 := by unfold twoE; rw [checkE_yes h.1, checkE_yes h.2]; rfl
theorem twoE_no {a b c d : Int} (h : ¬ (isSpan a b ∧ isSpan c d)) : twoE a b c d = 3 := by
  unfold twoE checkE
  by_cases h1 : isSpan a b <;> by_cases h2 : isSpan c d <;> simp_all <;> omega
def meetV (a b c d : Int) : Value := if isSpan a b ∧ isSpan c d then if isSpan (max a c) (min b d) then spanV (max a c) (min b d) else spanV 0 0 else spanV 0 0
def meetE (a b c d : Int) : Int := if isSpan a b ∧ isSpan c d then if isSpan (max a c) (min b d) then 0 else 5 else 3
def coverV (a b c d : Int) : Value := if isSpan a b ∧ isSpan c d then spanV (min a c) (max b d) else spanV 0 0
def coverE (a b c d : Int) : Int := if isSpan a b ∧ isSpan c d then 0 else 3
def shiftV (a b d : Int) : Value := if isSpan a b then if isT d then spanV (shiftLo a d) (shiftHi b d) else spanV 0 0 else spanV 0 0
def shiftE (a b d : Int) : Int := if isSpan a b then if isT d then 0 else 2 else 3

set_option maxHeartbeats 1000000 in
theorem fix_Meet (a b c d : Int) (w : World) : Calls Try.prog 22 #[spanV a b, spanV c d] w fun e w' => e = .returned (.tuple #[meetV a b c d, .int .i64 (meetE a b c d)]) ∧ Below w.heap.size w w' := by
  have h0 := ((Two2.start (t := 40) w (.int .i64 c) (.int .i64 d) (.int .i64 a) (.int .i64 b)).push 40 #[.int .i64 0, .int .i64 0])
  rw [World.size_alloc, World.size_alloc] at h0
  have H0 := Lib.hid h0
  clear h0
  by_cases h : isSpan a b ∧ isSpan c d
  · unfold meetV meetE
    rw [if_pos h, if_pos h]
    have HE := Lib.hid (twoE_yes h)
    clear h
    by_cases hm : isSpan (max a c) (min b d)
    · rw [if_pos hm, if_pos hm]
      have HM := Lib.hid (checkE_yes hm)
      clear hm
      unfold spanV
      go_enter Try.func22, Try.ntmps22
      go_wp2_with (first
        | (go_at_call 38; refine (fix_two _ _ _ _ _).mono ?_; rintro e w1 ⟨rfl, hb⟩; rw [HE.out]; have hh := H0.out.below hb; have hc := hh.cells; simp only [Cells, and_true] at hc)
        | (go_at_call 28; refine (fix_Check _ _ _).mono ?_; rintro e w2 ⟨rfl, hb2⟩; rw [HM.out]; have hh := (Held.push hh 40 #[.int .i64 (max a c), .int .i64 (min b d)]).below hb2; have hc := hh.cells; simp only [Cells, and_true] at hc))
      have hr := hh.res (a := .int .i64 0) (b := .int .i64 0) (g := w.heap.size + 1 + 1) (t := 40) (.int .i64 (max a c)) (.int .i64 (min b d)) (by simp)
      refine bodyPost_ret (by simp [results, Try.results22, go_sem, hr.1, hr.2]; try rfl) rfl ?_
      exact ⟨rfl, (hh.1.setCell (Nat.le_add_right _ 2) _).setCell (Nat.le_add_right _ 2) _⟩
    · rw [if_neg hm, if_neg hm]
      have HM := Lib.hid (checkE_no hm)
      clear hm
      unfold spanV
      go_enter Try.func22, Try.ntmps22
      go_wp2_with (first
        | (go_at_call 38; refine (fix_two _ _ _ _ _).mono ?_; rintro e w1 ⟨rfl, hb⟩; rw [HE.out]; have hh := H0.out.below hb; have hc := hh.cells; simp only [Cells, and_true] at hc)
        | (go_at_call 28; refine (fix_Check _ _ _).mono ?_; rintro e w2 ⟨rfl, hb2⟩; rw [HM.out]; have hh := (Held.push hh 40 #[.int .i64 (max a c), .int .i64 (min b d)]).below hb2; have hc := hh.cells; simp only [Cells, and_true] at hc))
      have hr := hh.res (a := .int .i64 0) (b := .int .i64 0) (g := w.heap.size + 1 + 1) (t := 40) (.int .i64 0) (.int .i64 0) (by simp)
      refine bodyPost_ret (by simp [results, Try.results22, go_sem, hr.1, hr.2]; try rfl) rfl ?_
      exact ⟨rfl, (hh.1.setCell (Nat.le_add_right _ 2) _).setCell (Nat.le_add_right _ 2) _⟩
  · unfold meetV meetE
    rw [if_neg h, if_neg h]
    have HE := Lib.hid (twoE_no h)
    clear h
    unfold spanV
    go_enter Try.func22, Try.ntmps22
    go_wp2_with (go_at_call 38; refine (fix_two _ _ _ _ _).mono ?_; rintro e w1 ⟨rfl, hb⟩; rw [HE.out]; have hh := H0.out.below hb; have hc := hh.cells; simp only [Cells, and_true] at hc)
    have hr := hh.res (a := .int .i64 0) (b := .int .i64 0) (g := w.heap.size + 1 + 1) (t := 40) (.int .i64 0) (.int .i64 0) (by simp)
    refine bodyPost_ret (by simp [results, Try.results22, go_sem, hr.1, hr.2]; try rfl) rfl ?_
    exact ⟨rfl, (hh.1.setCell (Nat.le_add_right _ 2) _).setCell (Nat.le_add_right _ 2) _⟩

set_option maxHeartbeats 1000000 in
theorem fix_Cover (a b c d : Int) (w : World) : Calls Try.prog 24 #[spanV a b, spanV c d] w fun e w' => e = .returned (.tuple #[coverV a b c d, .int .i64 (coverE a b c d)]) ∧ Below w.heap.size w w' := by
  have h0 := ((Two2.start (t := 40) w (.int .i64 c) (.int .i64 d) (.int .i64 a) (.int .i64 b)).push 40 #[.int .i64 0, .int .i64 0])
  rw [World.size_alloc, World.size_alloc] at h0
  have H0 := Lib.hid h0
  clear h0
  by_cases h : isSpan a b ∧ isSpan c d
  · unfold coverV coverE
    rw [if_pos h, if_pos h]
    have HE := Lib.hid (twoE_yes h)
    clear h
    unfold spanV
    go_enter Try.func24, Try.ntmps24
    go_wp2_with (go_at_call 38; refine (fix_two _ _ _ _ _).mono ?_; rintro e w1 ⟨rfl, hb⟩; rw [HE.out]; have hh := H0.out.below hb; have hc := hh.cells; simp only [Cells, and_true] at hc)
    have hr := hh.res (a := .int .i64 0) (b := .int .i64 0) (g := w.heap.size + 1 + 1) (t := 40) (.int .i64 (min a c)) (.int .i64 (max b d)) (by simp)
    refine bodyPost_ret (by simp [results, Try.results24, go_sem, hr.1, hr.2]; try rfl) rfl ?_
    exact ⟨rfl, (hh.1.setCell (Nat.le_add_right _ 2) _).setCell (Nat.le_add_right _ 2) _⟩
  · unfold coverV coverE
    rw [if_neg h, if_neg h]
    have HE := Lib.hid (twoE_no h)
    clear h
    unfold spanV
    go_enter Try.func24, Try.ntmps24
    go_wp2_with (go_at_call 38; refine (fix_two _ _ _ _ _).mono ?_; rintro e w1 ⟨rfl, hb⟩; rw [HE.out]; have hh := H0.out.below hb; have hc := hh.cells; simp only [Cells, and_true] at hc)
    have hr := hh.res (a := .int .i64 0) (b := .int .i64 0) (g := w.heap.size + 1 + 1) (t := 40) (.int .i64 0) (.int .i64 0) (by simp)
    refine bodyPost_ret (by simp [results, Try.results24, go_sem, hr.1, hr.2]; try rfl) rfl ?_
    exact ⟨rfl, (hh.1.setCell (Nat.le_add_right _ 2) _).setCell (Nat.le_add_right _ 2) _⟩

set_option maxHeartbeats 1000000 in
theorem fix_Shift_no1 (a b d : Int) (h : ¬ isSpan a b) (w : World) : Calls Try.prog 26 #[spanV a b, .int .i64 d] w fun e w' => e = .returned (.tuple #[spanV 0 0, .int .i64 3]) ∧ Below w.heap.size w w' := by
  have h0 := ((Held.start w).push 40 #[.int .i64 a, .int .i64 b]).push 40 #[.int .i64 0, .int .i64 0]
  rw [World.size_alloc] at h0
  have H0 := Lib.hid h0
  have HE := Lib.hid (checkE_no h)
  clear h h0
  unfold spanV
  go_enter Try.func26, Try.ntmps26
  go_wp2_with (go_at_call 28; refine (fix_Check _ _ _).mono ?_; rintro e w1 ⟨rfl, hb⟩; rw [HE.out]; have hh := H0.out.below hb; have hc := hh.cells; simp only [Cells, and_true] at hc)
  have hr := hh.res (a := .int .i64 0) (b := .int .i64 0) (g := w.heap.size + 1) (t := 40) (.int .i64 0) (.int .i64 0) (by simp)
  refine bodyPost_ret (by simp [results, Try.results26, go_sem, hr.1, hr.2]; try rfl) rfl ?_
  exact ⟨rfl, (hh.1.setCell (Nat.le_add_right _ 1) _).setCell (Nat.le_add_right _ 1) _⟩
set_option maxHeartbeats 1000000 in
theorem fix_Shift_no2 (a b d : Int) (h : isSpan a b) (hd : ¬ isT d) (w : World) : Calls Try.prog 26 #[spanV a b, .int .i64 d] w fun e w' => e = .returned (.tuple #[spanV 0 0, .int .i64 2]) ∧ Below w.heap.size w w' := by
  have h0 := ((Held.start w).push 40 #[.int .i64 a, .int .i64 b]).push 40 #[.int .i64 0, .int .i64 0]
  rw [World.size_alloc] at h0
  have H0 := Lib.hid h0
  have HE := Lib.hid (checkE_yes h)
  have hdd := decide_eq_false hd
  clear h h0 hd
  unfold spanV
  go_enter Try.func26, Try.ntmps26
  go_wp2_with (first
    | (go_at_call 28; refine (fix_Check _ _ _).mono ?_; rintro e w1 ⟨rfl, hb⟩; rw [HE.out]; have hh := H0.out.below hb; have hc := hh.cells; simp only [Cells, and_true] at hc)
    | (go_at_call 31; refine (fix_is _ _).mono ?_; rintro e w' ⟨rfl, rfl⟩))
  have hr := hh.res (a := .int .i64 0) (b := .int .i64 0) (g := w.heap.size + 1) (t := 40) (.int .i64 0) (.int .i64 0) (by simp)
  refine bodyPost_ret (by simp [results, Try.results26, go_sem, hr.1, hr.2]; try rfl) rfl ?_
  exact ⟨rfl, (hh.1.setCell (Nat.le_add_right _ 1) _).setCell (Nat.le_add_right _ 1) _⟩

set_option maxHeartbeats 1000000 in
theorem ref_Shift_no1 (a b d : Int) (h : ¬ isSpan a b) (w : World) : Calls Try.prog 27 #[spanV a b, .int .i64 d] w fun e w' => e = .returned (.tuple #[spanV 0 0, .int .i64 3]) ∧ Below w.heap.size w w' := by
  have h0 := ((Held.start w).push 40 #[.int .i64 a, .int .i64 b]).push 40 #[.int .i64 0, .int .i64 0]
  rw [World.size_alloc] at h0
  have H0 := Lib.hid h0
  have HE := Lib.hid (checkE_no h)
  clear h h0
  unfold spanV
  go_enter Try.func27, Try.ntmps27
  go_wp2_with (go_at_call 29; refine (ref_Check _ _ _).mono ?_; rintro e w1 ⟨rfl, hb⟩; rw [HE.out]; have hh := H0.out.below hb; have hc := hh.cells; simp only [Cells, and_true] at hc)
  have hr := hh.res (a := .int .i64 0) (b := .int .i64 0) (g := w.heap.size + 1) (t := 40) (.int .i64 0) (.int .i64 0) (by simp)
  refine bodyPost_ret (by simp [results, Try.results27, go_sem, hr.1, hr.2]; try rfl) rfl ?_
  exact ⟨rfl, (hh.1.setCell (Nat.le_add_right _ 1) _).setCell (Nat.le_add_right _ 1) _⟩
set_option maxHeartbeats 1000000 in
theorem ref_Shift_no2 (a b d : Int) (h : isSpan a b) (hd : ¬ isT d) (w : World) : Calls Try.prog 27 #[spanV a b, .int .i64 d] w fun e w' => e = .returned (.tuple #[spanV 0 0, .int .i64 2]) ∧ Below w.heap.size w w' := by
  have h0 := ((Held.start w).push 40 #[.int .i64 a, .int .i64 b]).push 40 #[.int .i64 0, .int .i64 0]
  rw [World.size_alloc] at h0
  have H0 := Lib.hid h0
  have HE := Lib.hid (checkE_yes h)
  have hdd := decide_eq_false hd
  clear h h0 hd
  unfold spanV
  go_enter Try.func27, Try.ntmps27
  go_wp2_with (first
    | (go_at_call 29; refine (ref_Check _ _ _).mono ?_; rintro e w1 ⟨rfl, hb⟩; rw [HE.out]; have hh := H0.out.below hb; have hc := hh.cells; simp only [Cells, and_true] at hc)
    | (go_at_call 35; refine (ref_Is _ _).mono ?_; rintro e w' ⟨rfl, rfl⟩))
  have hr := hh.res (a := .int .i64 0) (b := .int .i64 0) (g := w.heap.size + 1) (t := 40) (.int .i64 0) (.int .i64 0) (by simp)
  refine bodyPost_ret (by simp [results, Try.results27, go_sem, hr.1, hr.2]; try rfl) rfl ?_
  exact ⟨rfl, (hh.1.setCell (Nat.le_add_right _ 1) _).setCell (Nat.le_add_right _ 1) _⟩

end Go.Proofs.Ytcdphaejnmdpoaa
