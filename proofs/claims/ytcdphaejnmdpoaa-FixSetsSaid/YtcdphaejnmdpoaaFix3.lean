/- Layer 1: spans are checked; the calls that the document fixes. -/
import Derived.Test.YtcdphaejnmdpoaaFix2
import Derived.Test.YtcdphaejnmdpoaaFixPart
namespace Go.Proofs.Ytcdphaejnmdpoaa
set_option linter.unusedVariables false
set_option linter.unusedSimpArgs false
open Go.RowKit
attribute [local go_sem] max2_mm min2_mm max_two min_two

def spanV (lo hi : Int) : Value := .agg #[.int .i64 lo, .int .i64 hi]
def checkE (lo hi : Int) : Int := if isSpan lo hi then 0 else 3
theorem fix_Check (lo hi : Int) (w : World) : Calls Try.prog 28 #[spanV lo hi] w fun e w' => e = .returned (.int .i64 (checkE lo hi)) ∧ Below w.heap.size w w' := by
  unfold spanV checkE
  by_cases h1 : isT lo <;> by_cases h2 : isT hi <;> (first | have hda := decide_eq_false h1 | have hda := decide_eq_true h1) <;> (first | have hdb := decide_eq_false h2 | have hdb := decide_eq_true h2)
  all_goals
    simp only [isSpan, h1, h2, true_and, false_and, and_false, if_false]
    go_enter Try.func28, Try.ntmps28
    go_wp2_with (go_at_call 31; refine (fix_is _ _).mono ?_; rintro e w' ⟨rfl, rfl⟩)
    all_goals
      go_ret
      exact ⟨ret1i (by first | rfl | (split <;> omega)), (Below.refl _ _).alloc (Nat.le_refl _) _⟩
theorem ref_Check (lo hi : Int) (w : World) : Calls Try.prog 29 #[spanV lo hi] w fun e w' => e = .returned (.int .i64 (checkE lo hi)) ∧ Below w.heap.size w w' := by
  unfold spanV checkE
  by_cases h1 : isT lo <;> by_cases h2 : isT hi <;> (first | have hda := decide_eq_false h1 | have hda := decide_eq_true h1) <;> (first | have hdb := decide_eq_false h2 | have hdb := decide_eq_true h2)
  all_goals
    simp only [isSpan, h1, h2, true_and, false_and, and_false, if_false]
    go_enter Try.func29, Try.ntmps29
    go_wp2_with (go_at_call 35; refine (ref_Is _ _).mono ?_; rintro e w' ⟨rfl, rfl⟩)
    all_goals
      go_ret
      exact ⟨ret1i (by first | rfl | (split <;> omega)), (Below.refl _ _).alloc (Nat.le_refl _) _⟩

theorem drew_below (w : World) (n : Nat) : Below w.heap.size w (w.drewN n) := ⟨rfl, rfl, rfl, Nat.le_refl _, fun _ _ => rfl⟩

theorem awake_ok (w : World) : Calls Try.prog 9 #[] w fun e w' => e = .returned (.bool true) ∧ Below w.heap.size w w' := by
  go_enter Try.func9, Try.ntmps9
  go_wp2_with (first
    | (go_at_call 10; refine (fix_Part _ _ _ _ _).mono ?_; rintro e w1 ⟨rfl, k1, rfl⟩; rw [show partV (-7) 1 2 false = -4 from by decide, show partE (-7) 1 2 = 0 from by decide])
    | (go_at_call 16; refine (fix_Unfold _ _ (by omega) (by omega) _).mono ?_; rintro e w2 ⟨rfl, b2⟩; rw [show unfV 4097 0 = .agg #[.int .i64 1, .int .i64 2] from rfl, show unfE 0 = 0 from by decide])
    | (go_at_call 18; refine (fix_Short _ _).mono ?_; rintro e w3 ⟨rfl, rfl⟩; rw [show shortV 17 = 2 from by decide, show okE 17 = 0 from by decide])
    | (go_at_call 28; refine (fix_Check 1 2 _).mono ?_; rintro e w4 ⟨rfl, b4⟩; rw [show checkE 1 2 = 0 from by decide]))
  go_ret
  have a := below_then (drew_below w k1) (Nat.le_refl _) b2
  exact ⟨rfl, below_then (a.alloc b2.size _) (by have := b2.size; simp; exact Nat.le_trans this (Nat.le_succ _)) b4⟩
end Go.Proofs.Ytcdphaejnmdpoaa
