/- Layer 1: times. -/
import Derived.Test.YtcdphaejnmdpoaaK
import Derived.Test.YtcdphaejnmdpoaaShelf
import Derived.Test.YtcdphaejnmdpoaaFixP
import Derived.Test.YtcdphaejnmdpoaaFixD
import Derived.Laws.BitsAllLaws
namespace Go.Proofs.Ytcdphaejnmdpoaa
set_option linter.unusedVariables false
set_option linter.unusedSimpArgs false
open Go.RowKit
attribute [local go_sem] max2_mm min2_mm max_two min_two

theorem isT_le {t : Int} (h : isT t) : (-2305843009213693952 ≤ t) ∧ t ≤ 2305843009213693952 := h

theorem fix_is (t : Int) (w : World) : Calls Try.prog 31 #[.int .i64 t] w fun e w' => e = .returned (.bool (decide (isT t))) ∧ w = w' := by
  go_enter Try.func31, Try.ntmps31
  go_wp2_with fail
  all_goals (go_ret; exact ⟨ret1b (by simp only [isT]; grind), rfl⟩)
theorem ref_Is (t : Int) (w : World) : Calls Try.prog 35 #[.int .i64 t] w fun e w' => e = .returned (.bool (decide (isT t))) ∧ w = w' := by
  go_enter Try.func35, Try.ntmps35
  go_wp2_with fail
  all_goals (go_ret; exact ⟨ret1b (by simp only [isT]; grind), rfl⟩)
theorem fix_bound (t : Int) (w : World) : Calls Try.prog 34 #[.int .i64 t] w fun e w' => e = .returned (.int .i64 (bnd t)) ∧ w = w' := by
  go_enter Try.func34, Try.ntmps34
  go_wp2_with fail
  go_ret
  exact ⟨rfl, rfl⟩
theorem ref_Bound (t : Int) (w : World) : Calls Try.prog 36 #[.int .i64 t] w fun e w' => e = .returned (.int .i64 (bnd t)) ∧ w = w' := by
  go_enter Try.func36, Try.ntmps36
  go_wp2_with fail
  go_ret
  exact ⟨rfl, rfl⟩

def sumV (a b : Int) : Int := if isT a ∧ isT b then bnd (a + b) else 0
def sumE (a b : Int) : Int := if isT a ∧ isT b then 0 else 2
theorem fix_Sum (a b : Int) (w : World) : Calls Try.prog 11 #[.int .i64 a, .int .i64 b] w fun e w' => e = .returned (.tuple #[.int .i64 (sumV a b), .int .i64 (sumE a b)]) ∧ w = w' := by
  have hl : isT a → isT b → IntKind.i64.wrap (a + b) = a + b := fun h h' => by unfold isT at h h'; exact wrap_i64_id (by omega) (by omega)
  by_cases ha : isT a <;> by_cases hb : isT b <;> simp only [ha, hb, true_implies, false_implies] at hl <;> (first | have hda := decide_eq_false ha | have hda := decide_eq_true ha) <;> (first | have hdb := decide_eq_false hb | have hdb := decide_eq_true hb)
  all_goals
    go_enter Try.func11, Try.ntmps11
    go_wp2_with (first | (go_at_call 31; refine (fix_is _ _).mono ?_; rintro e w' ⟨rfl, rfl⟩) | (go_at_call 34; refine (fix_bound _ _).mono ?_; rintro e w' ⟨rfl, rfl⟩))
    go_ret2
    exact ⟨ret2i (by simp_all [sumV]) (by simp_all [sumE]), rfl⟩
theorem ref_Sum (a b : Int) (w : World) : Calls Try.prog 12 #[.int .i64 a, .int .i64 b] w fun e w' => e = .returned (.tuple #[.int .i64 (sumV a b), .int .i64 (sumE a b)]) ∧ w = w' := by
  have hl : isT a → isT b → IntKind.i64.wrap (a + b) = a + b := fun h h' => by unfold isT at h h'; exact wrap_i64_id (by omega) (by omega)
  by_cases ha : isT a <;> by_cases hb : isT b <;> simp only [ha, hb, true_implies, false_implies] at hl <;> (first | have hda := decide_eq_false ha | have hda := decide_eq_true ha) <;> (first | have hdb := decide_eq_false hb | have hdb := decide_eq_true hb)
  all_goals
    go_enter Try.func12, Try.ntmps12
    go_wp2_with (first | (go_at_call 35; refine (ref_Is _ _).mono ?_; rintro e w' ⟨rfl, rfl⟩) | (go_at_call 36; refine (ref_Bound _ _).mono ?_; rintro e w' ⟨rfl, rfl⟩))
    go_ret2
    exact ⟨ret2i (by simp_all [sumV]) (by simp_all [sumE]), rfl⟩

end Go.Proofs.Ytcdphaejnmdpoaa
