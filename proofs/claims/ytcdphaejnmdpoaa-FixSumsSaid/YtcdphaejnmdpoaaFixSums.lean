/- The law FixSums: the walk. -/
import Derived.Test.YtcdphaejnmdpoaaFix3
namespace Go.Proofs.Ytcdphaejnmdpoaa
set_option linter.unusedVariables false
set_option linter.unusedSimpArgs false
open Go.RowKit
attribute [local go_sem] max2_mm min2_mm max_two min_two

set_option maxHeartbeats 1000000 in
theorem fixSums_walk (a : Int) (wa : (Lit.int .i64 a).wf = true) (b : Int) (wb : (Lit.int .i64 b).wf = true) (num : Int) (wn : (Lit.int .i64 num).wf = true) (den : Int) (wd : (Lit.int .i64 den).wf = true) (up : Bool) (w : World) :
    Calls Try.prog 4 #[.int .i64 a, .int .i64 b, .int .i64 num, .int .i64 den, .bool up] w fun e w' => e = .returned (.bool true) ∧ Below w.heap.size w w' := by
  clear wa wb wn wd
  go_enter Try.func4, Try.ntmps4
  go_wp2_with (first
    | (go_at_call 9; refine (awake_ok _).mono ?_; rintro e w0 ⟨rfl, b0⟩)
    | (go_at_call 11; refine (fix_Sum _ _ _).mono ?_; rintro e w1 ⟨rfl, rfl⟩)
    | (go_at_call 12; refine (ref_Sum _ _ _).mono ?_; rintro e w1 ⟨rfl, rfl⟩)
    | (go_at_call 10; refine (fix_Part _ _ _ _ _).mono ?_; rintro e w1 ⟨rfl, k1, rfl⟩)
    | (go_at_call 13; refine (ref_Part _ _ _ _ _).mono ?_; rintro e w1 ⟨rfl, k2, rfl⟩))
  go_ret
  exact ⟨rfl, below_then b0 b0.size (drew_below _ _)⟩
end Go.Proofs.Ytcdphaejnmdpoaa
