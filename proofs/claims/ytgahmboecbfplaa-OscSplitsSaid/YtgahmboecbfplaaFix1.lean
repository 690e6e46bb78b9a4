/- Layer 1: times. -/
import Derived.Test.YtgahmboecbfplaaK
import Derived.Test.YtgahmboecbfplaaShelf
import Derived.Test.YtgahmboecbfplaaFixP
import Derived.Test.YtgahmboecbfplaaFixD
import Derived.Laws.BitsAllLaws
namespace Go.Proofs.Ytgahmboecbfplaa
set_option linter.unusedVariables false
set_option linter.unusedSimpArgs false
open Go.RowKit
attribute [local go_sem] max2_mm min2_mm max_two min_two

theorem isT_le {t : Int} (h : isT t) : (-2305843009213693952 ≤ t) ∧ t ≤ 2305843009213693952 := h

theorem fix_is (t : Int) (w : World) : Calls Try.prog 22 #[.int .i64 t] w fun e w' => e = .returned (.bool (decide (isT t))) ∧ w = w' := by
  go_enter Try.func22, Try.ntmps22
  go_wp2_with fail
  all_goals (go_ret; exact ⟨ret1b (by simp only [isT]; grind), rfl⟩)
theorem ref_Is (t : Int) (w : World) : Calls Try.prog 26 #[.int .i64 t] w fun e w' => e = .returned (.bool (decide (isT t))) ∧ w = w' := by
  go_enter Try.func26, Try.ntmps26
  go_wp2_with fail
  all_goals (go_ret; exact ⟨ret1b (by simp only [isT]; grind), rfl⟩)
theorem fix_bound (t : Int) (w : World) : Calls Try.prog 25 #[.int .i64 t] w fun e w' => e = .returned (.int .i64 (bnd t)) ∧ w = w' := by
  go_enter Try.func25, Try.ntmps25
  go_wp2_with fail
  go_ret
  exact ⟨rfl, rfl⟩
theorem ref_Bound (t : Int) (w : World) : Calls Try.prog 21 #[.int .i64 t] w fun e w' => e = .returned (.int .i64 (bnd t)) ∧ w = w' := by
  go_enter Try.func21, Try.ntmps21
  go_wp2_with fail
  go_ret
  exact ⟨rfl, rfl⟩

def sumV (a b : Int) : Int := if isT a ∧ isT b then bnd (a + b) else 0
def sumE (a b : Int) : Int := if isT a ∧ isT b then 0 else 2
end Go.Proofs.Ytgahmboecbfplaa
