/- The document's long division, bit by bit. -/
import Derived.Test.YtcdphaejnmdpoaaK
import Derived.Test.YtcdphaejnmdpoaaFixP
import Derived.Laws.BitsAllLaws
import Derived.Deep.LoopGhost
namespace Go.Proofs.Ytcdphaejnmdpoaa
set_option linter.unusedVariables false
set_option linter.unusedSimpArgs false
open Go.RowKit
attribute [local go_sem] max2_mm min2_mm max_two min_two

/-- One bit further. -/
theorem wide_step {a num den k A b q r x : Nat} (hd : 1 ≤ den) (hA : a / 2 ^ (k + 1) = A) (hb : a / 2 ^ k % 2 = b) (hq : q = min (A * num / den) 4611686018427387904) (hr : r = A * num % den) (hx : x = 2 * r + b * num) :
    a / 2 ^ k = 2 * A + b ∧ min (min (2 * q) 4611686018427387904 + x / den) 4611686018427387904 = min (a / 2 ^ k * num / den) 4611686018427387904 ∧ x % den = a / 2 ^ k * num % den := by
  have h1 : a / 2 ^ k = 2 * A + b := by
    rw [← hA, ← hb, Nat.pow_succ, ← Nat.div_div_eq_div_mul]
    omega
  have e := Nat.div_add_mod (A * num) den
  have hm : a / 2 ^ k * num = den * (2 * (A * num / den)) + x := by
    rw [h1, hx, hr, Nat.add_mul, Nat.mul_assoc]
    rw [Nat.mul_left_comm den 2]
    omega
  refine ⟨h1, ?_, ?_⟩
  · rw [hm, Nat.mul_add_div (by omega), hq]
    clear e hm hq hr hx
    generalize x / den = y
    generalize A * num / den = z
    omega
  · rw [hm, Nat.mul_add_mod]
theorem wide_bit (a k : Nat) (ha : a < 18446744073709551616) : bits .and .u64 ((a : Int) / 2 ^ k) 1 = ((a / 2 ^ k % 2 : Nat) : Int) := by
  rw [show (a : Int) / 2 ^ k = ((a / 2 ^ k : Nat) : Int) by rw [Int.natCast_ediv, Int.natCast_pow]; rfl, show (1 : Int) = ((1 : Nat) : Int) from rfl, u64_and_nat _ _ (by have := Nat.div_le_self a (2 ^ k); omega) (by omega), Nat.and_one_is_mod]

def WideRel (a num den : Nat) (m : Nat) (q r i : Value) : Prop :=
  m ≤ 62 ∧ i = .int .i64 ((m : Int) - 1) ∧ ∃ q' r' : Nat, q = .int .u64 q' ∧ r = .int .u64 r' ∧ q' = min (a / 2 ^ m * num / den) 4611686018427387904 ∧ r' = a / 2 ^ m * num % den

set_option maxHeartbeats 1000000 in
theorem ref_wide (a num den : Nat) (ha : a ≤ 2305843009213693952) (hn : num ≤ 2147483648) (hd : 1 ≤ den) (hd2 : den ≤ 2147483648) (w : World) :
    Calls Try.prog 37 #[.int .u64 a, .int .u64 num, .int .u64 den] w fun e w' => e = .returned (.tuple #[.int .u64 ((min (a * num / den) 4611686018427387904 : Nat) : Int), .bool (decide (0 < a * num % den))]) ∧ w = w' := by
  have h0 : ((den : Int) == 0) = false := beq_eq_false_iff_ne.mpr (by omega)
  go_enter Try.func37, Try.ntmps37
  go_wp2_with fail
  go_loopg [8, 9, 10] 62 (fun m q r i wr => WideRel a num den m q r i ∧ wr = w)
  case atStart =>
    have : a / 2 ^ 62 = 0 := Nat.div_eq_of_lt (by omega)
    exact ⟨⟨by omega, rfl, 0, 0, rfl, rfl, by rw [this]; simp, by rw [this]; simp⟩, rfl⟩
  case round =>
    obtain ⟨⟨hm, rfl, q, r, rfl, rfl, hq, hr⟩, rfl⟩ := hrel
    have HQ := Lib.hid hq
    have HR := Lib.hid hr
    have hrl : r < den := by rw [hr]; exact Nat.mod_lt _ (by omega)
    have hql : q ≤ 4611686018427387904 := by rw [hq]; omega
    clear hq hr
    rcases gk with _ | k
    · go_wp2_with fail
      go_ret2
      have hq := HQ.out
      have hr := HR.out
      rw [Nat.pow_zero, Nat.div_one] at hq hr
      exact ⟨by rw [hq, hr]; simp, rfl⟩
    · obtain ⟨b, hb⟩ : ∃ b, a / 2 ^ k % 2 = b := ⟨_, rfl⟩
      have hbit := wide_bit a k (by omega)
      rw [hb] at hbit
      obtain ⟨x, hx⟩ : ∃ x, x = 2 * r + b * num := ⟨_, rfl⟩
      have hb1 : b < 2 := by rw [← hb]; exact Nat.mod_lt _ (by omega)
      have hst := wide_step hd rfl hb HQ.out HR.out hx
      have hk : ((k + 1 : Nat) : Int) - 1 = (k : Int) := by omega
      have HB := Lib.hid hb
      have HST := Lib.hid hst
      clear hb hst
      have hxd : x / den ≤ x := Nat.div_le_self _ _
      generalize hy : x / den = y at *
      generalize hz : x % den = z at *
      have hx2 : (x : Int) / (den : Int) = (y : Int) := by rw [← Int.natCast_ediv, hy]
      have hx3 : (x : Int) % (den : Int) = (z : Int) := by rw [← Int.natCast_emod, hz]
      have hx4 : x < 8589934592 := by
        rw [hx]
        have : b * num ≤ 1 * num := Nat.mul_le_mul_right _ (by omega)
        omega
      rw [hk]
      rcases (show b = 0 ∨ b = 1 by omega) with rfl | rfl
      · have hx5 : (2 * (r : Int)) = (x : Int) := by omega
        clear hx
        go_wp2_with fail
        go_roundg k
        case measure => omega
        case rel => exact ⟨⟨by omega, rfl, min (min (2 * q) 4611686018427387904 + y) 4611686018427387904, z, congrArg _ (by omega), congrArg _ hx3, HST.out.2.1, HST.out.2.2⟩, rfl⟩
      · have hx5 : (2 * (r : Int)) + (num : Int) = (x : Int) := by omega
        clear hx
        go_wp2_with fail
        go_roundg k
        case measure => omega
        case rel => exact ⟨⟨by omega, rfl, min (min (2 * q) 4611686018427387904 + y) 4611686018427387904, z, congrArg _ (by omega), congrArg _ hx3, HST.out.2.1, HST.out.2.2⟩, rfl⟩

end Go.Proofs.Ytcdphaejnmdpoaa
