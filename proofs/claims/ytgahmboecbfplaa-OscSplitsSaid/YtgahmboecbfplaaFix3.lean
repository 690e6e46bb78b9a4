/- Layer 1: spans are checked; the calls that the document fixes. -/
import Derived.Test.YtgahmboecbfplaaFix2
import Derived.Test.YtgahmboecbfplaaFixPart
namespace Go.Proofs.Ytgahmboecbfplaa
set_option linter.unusedVariables false
set_option linter.unusedSimpArgs false
open Go.RowKit
attribute [local go_sem] max2_mm min2_mm max_two min_two

def spanV (lo hi : Int) : Value := .agg #[.int .i64 lo, .int .i64 hi]
def checkE (lo hi : Int) : Int := if isSpan lo hi then 0 else 3
theorem fix_Check (lo hi : Int) (w : World) : Calls Try.prog 18 #[spanV lo hi] w fun e w' => e = .returned (.int .i64 (checkE lo hi)) ∧ Below w.heap.size w w' := by
  unfold spanV checkE
  by_cases h1 : isT lo <;> by_cases h2 : isT hi <;> (first | have hda := decide_eq_false h1 | have hda := decide_eq_true h1) <;> (first | have hdb := decide_eq_false h2 | have hdb := decide_eq_true h2)
  all_goals
    simp only [isSpan, h1, h2, true_and, false_and, and_false, if_false]
    go_enter Try.func18, Try.ntmps18
    go_wp2_with (go_at_call 22; refine (fix_is _ _).mono ?_; rintro e w' ⟨rfl, rfl⟩)
    all_goals
      go_ret
      exact ⟨ret1i (by first | rfl | (split <;> omega)), (Below.refl _ _).alloc (Nat.le_refl _) _⟩
theorem ref_Check (lo hi : Int) (w : World) : Calls Try.prog 20 #[spanV lo hi] w fun e w' => e = .returned (.int .i64 (checkE lo hi)) ∧ Below w.heap.size w w' := by
  unfold spanV checkE
  by_cases h1 : isT lo <;> by_cases h2 : isT hi <;> (first | have hda := decide_eq_false h1 | have hda := decide_eq_true h1) <;> (first | have hdb := decide_eq_false h2 | have hdb := decide_eq_true h2)
  all_goals
    simp only [isSpan, h1, h2, true_and, false_and, and_false, if_false]
    go_enter Try.func20, Try.ntmps20
    go_wp2_with (go_at_call 26; refine (ref_Is _ _).mono ?_; rintro e w' ⟨rfl, rfl⟩)
    all_goals
      go_ret
      exact ⟨ret1i (by first | rfl | (split <;> omega)), (Below.refl _ _).alloc (Nat.le_refl _) _⟩

theorem drew_below (w : World) (n : Nat) : Below w.heap.size w (w.drewN n) := ⟨rfl, rfl, rfl, Nat.le_refl _, fun _ _ => rfl⟩

end Go.Proofs.Ytgahmboecbfplaa
