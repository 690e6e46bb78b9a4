/- The law FixRounds: the walk and the plain law. -/
import Derived.Test.YtcdphaejnmdpoaaFix3
namespace Go.Proofs.Ytcdphaejnmdpoaa
set_option linter.unusedVariables false
set_option linter.unusedSimpArgs false
open Go.RowKit
attribute [local go_sem] max2_mm min2_mm max_two min_two

theorem bnd_neg (x : Int) : bnd (-x) = -bnd x := by unfold bnd; omega
theorem partS_turn (a num den : Int) : partS (-a) num den true = -partS a num den false := by
  unfold partS
  rw [if_pos rfl, if_neg (by decide), Int.neg_mul, Int.neg_neg, bnd_neg]
theorem partS_whole {a den : Int} (ha : isT a) (hd : 0 < den) : partS a den den false = a := by
  unfold partS
  rw [if_neg (by decide), Int.mul_ediv_cancel a (by omega), bnd_id ha]
theorem partS_none (a den : Int) : partS a 0 den true = 0 := by
  unfold partS
  rw [if_pos rfl, Int.mul_zero]
  simp [bnd]
  omega
theorem partS_near (a num : Int) {den : Int} (hd : 0 < den) : 0 ≤ partS a num den true - partS a num den false ∧ partS a num den true - partS a num den false ≤ 1 := by
  unfold partS
  rw [if_pos rfl, if_neg (by decide), div_neg hd]
  unfold bnd
  split <;> omega
theorem partS_isT (a num den : Int) (up : Bool) : isT (partS a num den up) := bnd_isT _
theorem isT_neg {a : Int} (h : isT a) : isT (-a) := by unfold isT at h ⊢; omega

set_option maxRecDepth 100000 in
set_option maxHeartbeats 1000000 in
theorem fixRounds_no (a : Int) (num : Int) (den : Int) (h : ¬ partOk a num den) (w : World) :
    Calls Try.prog 3 #[.int .i64 a, .int .i64 num, .int .i64 den] w fun e w' => e = .returned (.bool true) ∧ Below w.heap.size w w' := by
  have HV : ∀ up, Hid (partV a num den up = 0) := fun up => Lib.hid (by unfold partV; rw [if_neg h])
  have HE := Lib.hid (show partE a num den = 2 by unfold partE; rw [if_neg h])
  clear h
  go_enter Try.func3, Try.ntmps3
  go_wp2_with (first
    | (go_at_call 9; refine (awake_ok _).mono ?_; rintro e w0 ⟨rfl, b0⟩)
    | (go_at_call 10; refine (fix_Part _ _ _ _ _).mono ?_; rintro e w1 ⟨rfl, k1, rfl⟩; rw [(HV _).out, HE.out]))
  go_ret
  exact ⟨rfl, below_then b0 b0.size (drew_below _ _)⟩
set_option maxRecDepth 100000 in
set_option maxHeartbeats 1000000 in
theorem fixRounds_yes (a : Int) (num : Int) (den : Int) (h : partOk a num den) (w : World) :
    Calls Try.prog 3 #[.int .i64 a, .int .i64 num, .int .i64 den] w fun e w' => e = .returned (.bool true) ∧ Below w.heap.size w w' := by
  obtain ⟨lo, hlo⟩ : ∃ x, partS a num den false = x := ⟨_, rfl⟩
  obtain ⟨hi, hhi⟩ : ∃ x, partS a num den true = x := ⟨_, rfl⟩
  have e1 : partV a num den false = lo := by unfold partV; rw [if_pos h, hlo]
  have e2 : partV a num den true = hi := by unfold partV; rw [if_pos h, hhi]
  have e3 : partV (-a) num den true = -lo := by unfold partV; rw [if_pos ⟨isT_neg h.1, h.2⟩, partS_turn, hlo]
  have e4 : partV a den den false = a := by
    have := h.2
    unfold partV; rw [if_pos ⟨h.1, by omega, by omega, by omega, by omega⟩, partS_whole h.1 (by omega)]
  have e5 : partV a 0 den true = 0 := by
    have := h.2
    unfold partV; rw [if_pos ⟨h.1, by omega, by omega, by omega, by omega⟩, partS_none]
  have g1 : partE a num den = 0 := by unfold partE; rw [if_pos h]
  have g3 : partE (-a) num den = 0 := by unfold partE; rw [if_pos ⟨isT_neg h.1, h.2⟩]
  have g4 : partE a den den = 0 := by
    have := h.2
    unfold partE; rw [if_pos ⟨h.1, by omega, by omega, by omega, by omega⟩]
  have g5 : partE a 0 den = 0 := by
    have := h.2
    unfold partE; rw [if_pos ⟨h.1, by omega, by omega, by omega, by omega⟩]
  obtain ⟨n1, n2⟩ := partS_near a num (den := den) (by have := h.2; omega)
  obtain ⟨b1, b2⟩ := isT_le (partS_isT a num den false)
  obtain ⟨b3, b4⟩ := isT_le (partS_isT a num den true)
  obtain ⟨b5, b6⟩ := isT_le h.1
  rw [hlo] at n1 n2 b1 b2
  rw [hhi] at n1 n2 b3 b4
  have E1 := Lib.hid e1
  have E2 := Lib.hid e2
  have E3 := Lib.hid e3
  have E4 := Lib.hid e4
  have E5 := Lib.hid e5
  have G1 := Lib.hid g1
  have G3 := Lib.hid g3
  have G4 := Lib.hid g4
  have G5 := Lib.hid g5
  clear e1 e2 e3 e4 e5 g1 g3 g4 g5 h hlo hhi
  go_enter Try.func3, Try.ntmps3
  go_wp2_with (first
    | (go_at_call 9; refine (awake_ok _).mono ?_; rintro e w0 ⟨rfl, c0⟩)
    | (go_at_call 10; refine (fix_Part _ _ _ _ _).mono ?_; rintro e w1 ⟨rfl, k1, rfl⟩; first | rw [E1.out, G1.out] | rw [E2.out, G1.out] | rw [E3.out, G3.out] | rw [E4.out, G4.out] | rw [E5.out, G5.out]))
  go_ret
  exact ⟨rfl, below_then c0 c0.size (drew_below _ _)⟩
theorem fixRounds_walk (a : Int) (wa : (Lit.int .i64 a).wf = true) (num : Int) (wn : (Lit.int .i64 num).wf = true) (den : Int) (wd : (Lit.int .i64 den).wf = true) (w : World) :
    Calls Try.prog 3 #[.int .i64 a, .int .i64 num, .int .i64 den] w fun e w' => e = .returned (.bool true) ∧ Below w.heap.size w w' := by
  by_cases h : partOk a num den
  · exact fixRounds_yes a num den h w
  · exact fixRounds_no a num den h w
end Go.Proofs.Ytcdphaejnmdpoaa
