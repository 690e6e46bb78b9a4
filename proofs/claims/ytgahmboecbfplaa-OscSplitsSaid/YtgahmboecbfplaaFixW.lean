/- The document's long division, bit by bit. -/
import Derived.Test.YtgahmboecbfplaaK
import Derived.Test.YtgahmboecbfplaaFixP
import Derived.Laws.BitsAllLaws
import Derived.Deep.LoopGhost
namespace Go.Proofs.Ytgahmboecbfplaa
set_option linter.unusedVariables false
set_option linter.unusedSimpArgs false
open Go.RowKit
attribute [local go_sem] max2_mm min2_mm max_two min_two

/-- One bit further. -/
theorem wide_step {a num den k A b q r x : Nat} (hd : 1 ≤ den) (hA : a / 2 ^ (k + 1) = A) (hb : a / 2 ^ k % 2 = b) (hq : q = min (A * num / den) 4611686018427387904) (hr : r = A * num % den) (hx : x = 2 * r + b * num) :
    a / 2 ^ k = 2 * A + b ∧ min (min (2 * q) 4611686018427387904 + x / den) 4611686018427387904 = min (a / 2 ^ k * num / den) 4611686018427387904 ∧ x % den = a / 2 ^ k * num % den := by
  have h1 : a / 2 ^ k = 2 * A + b := by
    rw [← hA, ← hb, Nat.pow_succ, ← Nat.div_div_eq_div_mul]
    omega
  have e := Nat.div_add_mod (A * num) den
  have hm : a / 2 ^ k * num = den * (2 * (A * num / den)) + x := by
    rw [h1, hx, hr, Nat.add_mul, Nat.mul_assoc]
    rw [Nat.mul_left_comm den 2]
    omega
  refine ⟨h1, ?_, ?_⟩
  · rw [hm, Nat.mul_add_div (by omega), hq]
    clear e hm hq hr hx
    generalize x / den = y
    generalize A * num / den = z
    omega
  · rw [hm, Nat.mul_add_mod]
theorem wide_bit (a k : Nat) (ha : a < 18446744073709551616) : bits .and .u64 ((a : Int) / 2 ^ k) 1 = ((a / 2 ^ k % 2 : Nat) : Int) := by
  rw [show (a : Int) / 2 ^ k = ((a / 2 ^ k : Nat) : Int) by rw [Int.natCast_ediv, Int.natCast_pow]; rfl, show (1 : Int) = ((1 : Nat) : Int) from rfl, u64_and_nat _ _ (by have := Nat.div_le_self a (2 ^ k); omega) (by omega), Nat.and_one_is_mod]

def WideRel (a num den : Nat) (m : Nat) (q r i : Value) : Prop :=
  m ≤ 62 ∧ i = .int .i64 ((m : Int) - 1) ∧ ∃ q' r' : Nat, q = .int .u64 q' ∧ r = .int .u64 r' ∧ q' = min (a / 2 ^ m * num / den) 4611686018427387904 ∧ r' = a / 2 ^ m * num % den

end Go.Proofs.Ytgahmboecbfplaa
