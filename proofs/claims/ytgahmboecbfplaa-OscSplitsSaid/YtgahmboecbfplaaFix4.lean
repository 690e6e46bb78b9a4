/- Layer 1: spans. -/
import Derived.Test.YtgahmboecbfplaaFix3
import Derived.Test.YtgahmboecbfplaaHeld
import Derived.Deep.RegionHeld3
import Derived.Deep.RegionWith
namespace Go.Proofs.Ytgahmboecbfplaa
set_option linter.unusedVariables false
set_option linter.unusedSimpArgs false
open Go.RowKit
attribute [local go_sem] max2_mm min2_mm max_two min_two

def twoE (a b c d : Int) : Int := max (checkE a b) (checkE c d)
theorem checkE_yes {a b : Int} (h : isSpan a b) : checkE a b = 0 := by unfold checkE; rw [if_pos h]
theorem checkE_no {a b : Int} (h : ¬ isSpan a b) : checkE a b = 3 := by unfold checkE; rw [if_neg h]
theorem twoE_yes {a b c d : Int} (h : isSpan a b ∧ isSpan c d) : twoE a b c d = 0 := by unfold twoE; rw [checkE_yes h.1, checkE_yes h.2]; rfl
theorem twoE_no {a b c d : Int} (h : ¬ (isSpan a b ∧ isSpan c d)) : twoE a b c d = 3 := by
  unfold twoE checkE
  by_cases h1 : isSpan a b <;> by_cases h2 : isSpan c d <;> simp_all <;> omega
def meetV (a b c d : Int) : Value := if isSpan a b ∧ isSpan c d then if isSpan (max a c) (min b d) then spanV (max a c) (min b d) else spanV 0 0 else spanV 0 0
def meetE (a b c d : Int) : Int := if isSpan a b ∧ isSpan c d then if isSpan (max a c) (min b d) then 0 else 5 else 3
def coverV (a b c d : Int) : Value := if isSpan a b ∧ isSpan c d then spanV (min a c) (max b d) else spanV 0 0
def coverE (a b c d : Int) : Int := if isSpan a b ∧ isSpan c d then 0 else 3
def shiftV (a b d : Int) : Value := if isSpan a b then if isT d then spanV (shiftLo a d) (shiftHi b d) else spanV 0 0 else spanV 0 0
def shiftE (a b d : Int) : Int := if isSpan a b then if isT d then 0 else 2 else 3

set_option maxHeartbeats 1000000 in
theorem fix_Shift_no1 (a b d : Int) (h : ¬ isSpan a b) (w : World) : Calls Try.prog 19 #[spanV a b, .int .i64 d] w fun e w' => e = .returned (.tuple #[spanV 0 0, .int .i64 3]) ∧ Below w.heap.size w w' := by
  have h0 := ((Held.start w).push 34 #[.int .i64 a, .int .i64 b]).push 34 #[.int .i64 0, .int .i64 0]
  rw [World.size_alloc] at h0
  have H0 := Lib.hid h0
  have HE := Lib.hid (checkE_no h)
  clear h h0
  unfold spanV
  go_enter Try.func19, Try.ntmps19
  go_wp2_with (go_at_call 18; refine (fix_Check _ _ _).mono ?_; rintro e w1 ⟨rfl, hb⟩; rw [HE.out]; have hh := H0.out.below hb; have hc := hh.cells; simp only [Cells, and_true] at hc)
  have hr := hh.res (a := .int .i64 0) (b := .int .i64 0) (g := w.heap.size + 1) (t := 34) (.int .i64 0) (.int .i64 0) (by simp)
  refine bodyPost_ret (by simp [results, Try.results19, go_sem, hr.1, hr.2]; try rfl) rfl ?_
  exact ⟨rfl, (hh.1.setCell (Nat.le_add_right _ 1) _).setCell (Nat.le_add_right _ 1) _⟩
set_option maxHeartbeats 1000000 in
theorem fix_Shift_no2 (a b d : Int) (h : isSpan a b) (hd : ¬ isT d) (w : World) : Calls Try.prog 19 #[spanV a b, .int .i64 d] w fun e w' => e = .returned (.tuple #[spanV 0 0, .int .i64 2]) ∧ Below w.heap.size w w' := by
  have h0 := ((Held.start w).push 34 #[.int .i64 a, .int .i64 b]).push 34 #[.int .i64 0, .int .i64 0]
  rw [World.size_alloc] at h0
  have H0 := Lib.hid h0
  have HE := Lib.hid (checkE_yes h)
  have hdd := decide_eq_false hd
  clear h h0 hd
  unfold spanV
  go_enter Try.func19, Try.ntmps19
  go_wp2_with (first
    | (go_at_call 18; refine (fix_Check _ _ _).mono ?_; rintro e w1 ⟨rfl, hb⟩; rw [HE.out]; have hh := H0.out.below hb; have hc := hh.cells; simp only [Cells, and_true] at hc)
    | (go_at_call 22; refine (fix_is _ _).mono ?_; rintro e w' ⟨rfl, rfl⟩))
  have hr := hh.res (a := .int .i64 0) (b := .int .i64 0) (g := w.heap.size + 1) (t := 34) (.int .i64 0) (.int .i64 0) (by simp)
  refine bodyPost_ret (by simp [results, Try.results19, go_sem, hr.1, hr.2]; try rfl) rfl ?_
  exact ⟨rfl, (hh.1.setCell (Nat.le_add_right _ 1) _).setCell (Nat.le_add_right _ 1) _⟩

end Go.Proofs.Ytgahmboecbfplaa
