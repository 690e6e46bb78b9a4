/- Layer 19: the law DanceSafe. -/
import Derived.Test.YtnooajlijekhdaaDoorDan6
namespace Go.Proofs.YtnooajlijekhdaaDoor
set_option linter.unusedVariables false
set_option linter.unusedSimpArgs false
open Go.RowKit

theorem testV_eq (own sent heard : Int) (h : Hd) (au al : Bool) : testV own sent heard h au al =
    (if tB0 heard h then 0 else 1) + (if tB1 sent h then 0 else 2) + (if tB2 h then 0 else 4) + (if tB3 h then 0 else 8) + (if tB4 h then 0 else 16) + (if tB5 h then 0 else 32) + (if tB6 own h then 0 else 64) + (if au then 0 else 128) + (if al then 0 else 256) := by
  show sumUp [tB0 heard h, tB1 sent h, tB2 h, tB3 h, tB4 h, tB5 h, tB6 own h, au, al] 9 = _
  simp only [sumUp]
  show 0 + (if tB0 heard h then 0 else 2 ^ 0) + (if tB1 sent h then 0 else 2 ^ 1) + (if tB2 h then 0 else 2 ^ 2) + (if tB3 h then 0 else 2 ^ 3) + (if tB4 h then 0 else 2 ^ 4) + (if tB5 h then 0 else 2 ^ 5) + (if tB6 own h then 0 else 2 ^ 6) + (if au then 0 else 2 ^ 7) + (if al then 0 else 2 ^ 8) = _
  simp
theorem testV_parts (own sent heard : Int) (h : Hd) : 0 ≤ testV own sent heard h true true ∧ testV own sent heard h true true ≤ 127 ∧ testV own sent heard h false true = testV own sent heard h true true + 128 ∧ testV own sent heard h true false = testV own sent heard h true true + 256 := by
  simp only [testV_eq]
  cases tB0 heard h <;> cases tB1 sent h <;> cases tB2 h <;> cases tB3 h <;> cases tB4 h <;> cases tB5 h <;> cases tB6 own h <;> decide
theorem testV_zero (own sent heard : Int) (h : Hd) (hz : testV own sent heard h true true = 0) : tB0 heard h = true ∧ tB1 sent h = true ∧ tB2 h = true ∧ tB3 h = true ∧ tB4 h = true ∧ tB6 own h = true := by
  rw [testV_eq] at hz
  revert hz
  cases tB0 heard h <;> cases tB1 sent h <;> cases tB2 h <;> cases tB3 h <;> cases tB4 h <;> cases tB5 h <;> cases tB6 own h <;> decide
/-- What passes all tests. -/
theorem safe_facts (own sent heard : Int) (h : Hd) (hz : testV own sent heard h true true = 0) : ¬ h.str < 1 ∧ ¬ 15 < h.str ∧ (h.leap == 3) = false ∧ 8 * h.rdel + 16 * h.rdisp < 1572864 ∧ (1 < h.str → (h.rid == own) = false) ∧ (h.tx == 0) = false ∧ (h.tx == heard) = false ∧ ((h.mode != 5) = true → (h.org != sent) = false) := by
  obtain ⟨h0, h1, h2, h3, h4, h6⟩ := testV_zero own sent heard h hz
  have h0 := of_decide_eq_true h0
  have h1 := of_decide_eq_true h1
  have h2 := of_decide_eq_true h2
  have h3 := of_decide_eq_true h3
  have h4 := of_decide_eq_true h4
  have h6 := of_decide_eq_true h6
  refine ⟨by omega, by omega, beq_eq_false_iff_ne.mpr h3.1, h4, fun g => beq_eq_false_iff_ne.mpr (by omega), beq_eq_false_iff_ne.mpr h2.1, beq_eq_false_iff_ne.mpr (by omega), fun g => ?_⟩
  have g := bne_iff_ne.1 g
  have : h.org = sent := by omega
  simp [this]
theorem tmod_six (a : Int) : ((a.tmod 6) + 6).tmod 6 = a % 6 ∧ -6 < a.tmod 6 ∧ a.tmod 6 < 6 := by
  have e0 := Int.emod_nonneg a (show (6 : Int) ≠ 0 by omega)
  have e1 := Int.emod_lt_of_pos a (show (0 : Int) < 6 by omega)
  rcases Int.lt_or_le a 0 with h | h
  · obtain ⟨y, rfl⟩ : ∃ y, a = -y := ⟨-a, by omega⟩
    rw [Int.neg_tmod, Int.tmod_eq_emod_of_nonneg (show 0 ≤ y by omega), Int.tmod_eq_emod_of_nonneg (by omega)]
    omega
  · rw [Int.tmod_eq_emod_of_nonneg h, Int.tmod_eq_emod_of_nonneg (by omega)]
    omega
theorem or_one64 (t : Int) (h0 : 0 ≤ t) (h1 : t ≤ 18446744073709551615) : bits .or .u64 t 1 = t / 2 * 2 + 1 := by
  obtain ⟨n, rfl⟩ := Int.eq_ofNat_of_zero_le h0
  rw [u64_or _ _ (by omega) (by omega) (by omega) (by omega)]
  show ((n ||| 1 : Nat) : Int) = _
  rw [Lib.or_one_nat]
  omega
section
variable {T HR : Int}
theorem var_ok (t1 : 1 ≤ T) (t2 : T ≤ 18446744073709551615) (hn : T ≠ HR) : testV 7 9 HR ⟨0, 4, 4, 2, 0, 0, 0, 0, 0, (T - 1), 9, 1, T⟩ true true = 0 := by
  have d : (T - 1 - T) % 18446744073709551616 = 18446744073709551615 := by omega
  rw [testV_eq]
  have b0 : tB0 HR ⟨0, 4, 4, 2, 0, 0, 0, 0, 0, (T - 1), 9, 1, T⟩ = true := by first | rfl | exact decide_eq_true (by simp only; omega)
  have b1 : tB1 9 ⟨0, 4, 4, 2, 0, 0, 0, 0, 0, (T - 1), 9, 1, T⟩ = true := by first | rfl | exact decide_eq_true (by simp only; omega)
  have b2 : tB2 ⟨0, 4, 4, 2, 0, 0, 0, 0, 0, (T - 1), 9, 1, T⟩ = true := by first | rfl | exact decide_eq_true (by simp only; omega)
  have b3 : tB3 ⟨0, 4, 4, 2, 0, 0, 0, 0, 0, (T - 1), 9, 1, T⟩ = true := by first | rfl | exact decide_eq_true (by simp only; omega)
  have b4 : tB4 ⟨0, 4, 4, 2, 0, 0, 0, 0, 0, (T - 1), 9, 1, T⟩ = true := by first | rfl | exact decide_eq_true (by simp only; omega)
  have b5 : tB5 ⟨0, 4, 4, 2, 0, 0, 0, 0, 0, (T - 1), 9, 1, T⟩ = true := by first | rfl | exact decide_eq_true (by simp only; omega)
  have b6 : tB6 7 ⟨0, 4, 4, 2, 0, 0, 0, 0, 0, (T - 1), 9, 1, T⟩ = true := by first | rfl | exact decide_eq_true (by simp only; omega)
  rw [b0, b1, b2, b3, b4, b5, b6]
  rfl
theorem var_0 (t1 : 1 ≤ T) (t2 : T ≤ 18446744073709551615) (hn : T ≠ HR) : testV 7 9 T ⟨0, 4, 4, 2, 0, 0, 0, 0, 0, (T - 1), 9, 1, T⟩ true true = 1 := by
  have d : (T - 1 - T) % 18446744073709551616 = 18446744073709551615 := by omega
  rw [testV_eq]
  have b0 : tB0 T ⟨0, 4, 4, 2, 0, 0, 0, 0, 0, (T - 1), 9, 1, T⟩ = false := by first | rfl | exact decide_eq_false (by simp only; omega)
  have b1 : tB1 9 ⟨0, 4, 4, 2, 0, 0, 0, 0, 0, (T - 1), 9, 1, T⟩ = true := by first | rfl | exact decide_eq_true (by simp only; omega)
  have b2 : tB2 ⟨0, 4, 4, 2, 0, 0, 0, 0, 0, (T - 1), 9, 1, T⟩ = true := by first | rfl | exact decide_eq_true (by simp only; omega)
  have b3 : tB3 ⟨0, 4, 4, 2, 0, 0, 0, 0, 0, (T - 1), 9, 1, T⟩ = true := by first | rfl | exact decide_eq_true (by simp only; omega)
  have b4 : tB4 ⟨0, 4, 4, 2, 0, 0, 0, 0, 0, (T - 1), 9, 1, T⟩ = true := by first | rfl | exact decide_eq_true (by simp only; omega)
  have b5 : tB5 ⟨0, 4, 4, 2, 0, 0, 0, 0, 0, (T - 1), 9, 1, T⟩ = true := by first | rfl | exact decide_eq_true (by simp only; omega)
  have b6 : tB6 7 ⟨0, 4, 4, 2, 0, 0, 0, 0, 0, (T - 1), 9, 1, T⟩ = true := by first | rfl | exact decide_eq_true (by simp only; omega)
  rw [b0, b1, b2, b3, b4, b5, b6]
  rfl
theorem var_1 (t1 : 1 ≤ T) (t2 : T ≤ 18446744073709551615) (hn : T ≠ HR) : testV 7 10 HR ⟨0, 4, 4, 2, 0, 0, 0, 0, 0, (T - 1), 9, 1, T⟩ true true = 2 := by
  have d : (T - 1 - T) % 18446744073709551616 = 18446744073709551615 := by omega
  rw [testV_eq]
  have b0 : tB0 HR ⟨0, 4, 4, 2, 0, 0, 0, 0, 0, (T - 1), 9, 1, T⟩ = true := by first | rfl | exact decide_eq_true (by simp only; omega)
  have b1 : tB1 10 ⟨0, 4, 4, 2, 0, 0, 0, 0, 0, (T - 1), 9, 1, T⟩ = false := by first | rfl | exact decide_eq_false (by simp only; omega)
  have b2 : tB2 ⟨0, 4, 4, 2, 0, 0, 0, 0, 0, (T - 1), 9, 1, T⟩ = true := by first | rfl | exact decide_eq_true (by simp only; omega)
  have b3 : tB3 ⟨0, 4, 4, 2, 0, 0, 0, 0, 0, (T - 1), 9, 1, T⟩ = true := by first | rfl | exact decide_eq_true (by simp only; omega)
  have b4 : tB4 ⟨0, 4, 4, 2, 0, 0, 0, 0, 0, (T - 1), 9, 1, T⟩ = true := by first | rfl | exact decide_eq_true (by simp only; omega)
  have b5 : tB5 ⟨0, 4, 4, 2, 0, 0, 0, 0, 0, (T - 1), 9, 1, T⟩ = true := by first | rfl | exact decide_eq_true (by simp only; omega)
  have b6 : tB6 7 ⟨0, 4, 4, 2, 0, 0, 0, 0, 0, (T - 1), 9, 1, T⟩ = true := by first | rfl | exact decide_eq_true (by simp only; omega)
  rw [b0, b1, b2, b3, b4, b5, b6]
  rfl
theorem var_2 (t1 : 1 ≤ T) (t2 : T ≤ 18446744073709551615) (hn : T ≠ HR) : testV 7 9 HR ⟨0, 4, 4, 2, 0, 0, 0, 0, 0, (T - 1), 9, 0, T⟩ true true = 4 := by
  have d : (T - 1 - T) % 18446744073709551616 = 18446744073709551615 := by omega
  rw [testV_eq]
  have b0 : tB0 HR ⟨0, 4, 4, 2, 0, 0, 0, 0, 0, (T - 1), 9, 0, T⟩ = true := by first | rfl | exact decide_eq_true (by simp only; omega)
  have b1 : tB1 9 ⟨0, 4, 4, 2, 0, 0, 0, 0, 0, (T - 1), 9, 0, T⟩ = true := by first | rfl | exact decide_eq_true (by simp only; omega)
  have b2 : tB2 ⟨0, 4, 4, 2, 0, 0, 0, 0, 0, (T - 1), 9, 0, T⟩ = false := by first | rfl | exact decide_eq_false (by simp only; omega)
  have b3 : tB3 ⟨0, 4, 4, 2, 0, 0, 0, 0, 0, (T - 1), 9, 0, T⟩ = true := by first | rfl | exact decide_eq_true (by simp only; omega)
  have b4 : tB4 ⟨0, 4, 4, 2, 0, 0, 0, 0, 0, (T - 1), 9, 0, T⟩ = true := by first | rfl | exact decide_eq_true (by simp only; omega)
  have b5 : tB5 ⟨0, 4, 4, 2, 0, 0, 0, 0, 0, (T - 1), 9, 0, T⟩ = true := by first | rfl | exact decide_eq_true (by simp only; omega)
  have b6 : tB6 7 ⟨0, 4, 4, 2, 0, 0, 0, 0, 0, (T - 1), 9, 0, T⟩ = true := by first | rfl | exact decide_eq_true (by simp only; omega)
  rw [b0, b1, b2, b3, b4, b5, b6]
  rfl
theorem var_3 (t1 : 1 ≤ T) (t2 : T ≤ 18446744073709551615) (hn : T ≠ HR) : testV 7 9 HR ⟨0, 4, 4, 16, 0, 0, 0, 0, 0, (T - 1), 9, 1, T⟩ true true = 8 := by
  have d : (T - 1 - T) % 18446744073709551616 = 18446744073709551615 := by omega
  rw [testV_eq]
  have b0 : tB0 HR ⟨0, 4, 4, 16, 0, 0, 0, 0, 0, (T - 1), 9, 1, T⟩ = true := by first | rfl | exact decide_eq_true (by simp only; omega)
  have b1 : tB1 9 ⟨0, 4, 4, 16, 0, 0, 0, 0, 0, (T - 1), 9, 1, T⟩ = true := by first | rfl | exact decide_eq_true (by simp only; omega)
  have b2 : tB2 ⟨0, 4, 4, 16, 0, 0, 0, 0, 0, (T - 1), 9, 1, T⟩ = true := by first | rfl | exact decide_eq_true (by simp only; omega)
  have b3 : tB3 ⟨0, 4, 4, 16, 0, 0, 0, 0, 0, (T - 1), 9, 1, T⟩ = false := by first | rfl | exact decide_eq_false (by simp only; omega)
  have b4 : tB4 ⟨0, 4, 4, 16, 0, 0, 0, 0, 0, (T - 1), 9, 1, T⟩ = true := by first | rfl | exact decide_eq_true (by simp only; omega)
  have b5 : tB5 ⟨0, 4, 4, 16, 0, 0, 0, 0, 0, (T - 1), 9, 1, T⟩ = true := by first | rfl | exact decide_eq_true (by simp only; omega)
  have b6 : tB6 7 ⟨0, 4, 4, 16, 0, 0, 0, 0, 0, (T - 1), 9, 1, T⟩ = true := by first | rfl | exact decide_eq_true (by simp only; omega)
  rw [b0, b1, b2, b3, b4, b5, b6]
  rfl
theorem var_4 (t1 : 1 ≤ T) (t2 : T ≤ 18446744073709551615) (hn : T ≠ HR) : testV 7 9 HR ⟨0, 4, 4, 2, 0, 0, 0, 98304, 0, (T - 1), 9, 1, T⟩ true true = 16 := by
  have d : (T - 1 - T) % 18446744073709551616 = 18446744073709551615 := by omega
  rw [testV_eq]
  have b0 : tB0 HR ⟨0, 4, 4, 2, 0, 0, 0, 98304, 0, (T - 1), 9, 1, T⟩ = true := by first | rfl | exact decide_eq_true (by simp only; omega)
  have b1 : tB1 9 ⟨0, 4, 4, 2, 0, 0, 0, 98304, 0, (T - 1), 9, 1, T⟩ = true := by first | rfl | exact decide_eq_true (by simp only; omega)
  have b2 : tB2 ⟨0, 4, 4, 2, 0, 0, 0, 98304, 0, (T - 1), 9, 1, T⟩ = true := by first | rfl | exact decide_eq_true (by simp only; omega)
  have b3 : tB3 ⟨0, 4, 4, 2, 0, 0, 0, 98304, 0, (T - 1), 9, 1, T⟩ = true := by first | rfl | exact decide_eq_true (by simp only; omega)
  have b4 : tB4 ⟨0, 4, 4, 2, 0, 0, 0, 98304, 0, (T - 1), 9, 1, T⟩ = false := by first | rfl | exact decide_eq_false (by simp only; omega)
  have b5 : tB5 ⟨0, 4, 4, 2, 0, 0, 0, 98304, 0, (T - 1), 9, 1, T⟩ = true := by first | rfl | exact decide_eq_true (by simp only; omega)
  have b6 : tB6 7 ⟨0, 4, 4, 2, 0, 0, 0, 98304, 0, (T - 1), 9, 1, T⟩ = true := by first | rfl | exact decide_eq_true (by simp only; omega)
  rw [b0, b1, b2, b3, b4, b5, b6]
  rfl
theorem var_5 (t1 : 1 ≤ T) (t2 : T ≤ 18446744073709551615) (hn : T ≠ HR) : testV 7 9 HR ⟨0, 4, 4, 2, 0, 0, 0, 0, 7, (T - 1), 9, 1, T⟩ true true = 64 := by
  have d : (T - 1 - T) % 18446744073709551616 = 18446744073709551615 := by omega
  rw [testV_eq]
  have b0 : tB0 HR ⟨0, 4, 4, 2, 0, 0, 0, 0, 7, (T - 1), 9, 1, T⟩ = true := by first | rfl | exact decide_eq_true (by simp only; omega)
  have b1 : tB1 9 ⟨0, 4, 4, 2, 0, 0, 0, 0, 7, (T - 1), 9, 1, T⟩ = true := by first | rfl | exact decide_eq_true (by simp only; omega)
  have b2 : tB2 ⟨0, 4, 4, 2, 0, 0, 0, 0, 7, (T - 1), 9, 1, T⟩ = true := by first | rfl | exact decide_eq_true (by simp only; omega)
  have b3 : tB3 ⟨0, 4, 4, 2, 0, 0, 0, 0, 7, (T - 1), 9, 1, T⟩ = true := by first | rfl | exact decide_eq_true (by simp only; omega)
  have b4 : tB4 ⟨0, 4, 4, 2, 0, 0, 0, 0, 7, (T - 1), 9, 1, T⟩ = true := by first | rfl | exact decide_eq_true (by simp only; omega)
  have b5 : tB5 ⟨0, 4, 4, 2, 0, 0, 0, 0, 7, (T - 1), 9, 1, T⟩ = true := by first | rfl | exact decide_eq_true (by simp only; omega)
  have b6 : tB6 7 ⟨0, 4, 4, 2, 0, 0, 0, 0, 7, (T - 1), 9, 1, T⟩ = false := by first | rfl | exact decide_eq_false (by simp only; omega)
  rw [b0, b1, b2, b3, b4, b5, b6]
  rfl
end

set_option maxRecDepth 100000 in
set_option maxHeartbeats 4000000 in
theorem danceSafe_at (own sent heard : Int) (h : Hd) (ho : h.Ok) (turn : Int) (htn : -9223372036854775808 ≤ turn ∧ turn ≤ 9223372036854775807) (w : World) :
    Calls Tryd.prog 4 #[memV own sent heard, h.v, .int .i64 turn] w fun e w' => e = .returned (.bool true) ∧ Below w.heap.size w w' := by
  obtain ⟨leap, ver, mode, str, poll, prec, rdel, rdisp, rid, rf, org, rcv, tx⟩ := h
  obtain ⟨d0, d1, p0, p1, i0, i1, r0, r1, t0, t1⟩ := ho
  simp only at d0 d1 p0 p1 i0 i1 r0 r1 t0 t1
  obtain ⟨m0, m1, m2, m3⟩ := testV_parts own sent heard ⟨leap, ver, mode, str, poll, prec, rdel, rdisp, rid, rf, org, rcv, tx⟩
  have hz := safe_facts own sent heard ⟨leap, ver, mode, str, poll, prec, rdel, rdisp, rid, rf, org, rcv, tx⟩
  simp only at hz
  obtain ⟨n, hn⟩ : ∃ n, testV own sent heard ⟨leap, ver, mode, str, poll, prec, rdel, rdisp, rid, rf, org, rcv, tx⟩ true true = n := ⟨_, rfl⟩
  rw [hn] at m0 m1 m2 m3 hz
  have HN1 := Lib.hid hn
  have HN2 := Lib.hid m2
  have HN3 := Lib.hid m3
  have HZ := Lib.hid hz
  clear hn m2 m3 hz
  have hh := ((Held.start w).push 33 #[.int .u32 own, .int .u64 sent, .int .u64 heard]).push 35 #[.int .i64 leap, .int .i64 ver, .int .i64 mode, .int .i64 str, .int .i64 poll, .int .i64 prec, .int .u32 rdel, .int .u32 rdisp, .int .u32 rid, .int .u64 rf, .int .u64 org, .int .u64 rcv, .int .u64 tx]
  rw [World.size_alloc] at hh
  have hc := hh.cells
  simp only [Cells, and_true] at hc
  unfold Hd.v memV
  simp only [Hd.cells]
  go_enter Tryd.func4, Tryd.ntmps4
  go_upto_region 5 with (first
    | (go_at_call 7; refine (awake_ok _).mono ?_; rintro e w1 ⟨rfl, hb⟩; clear hc; have hh1 := Held.below hh hb; have hc1 := hh1.cells; simp only [Cells, and_true] at hc1; have hh := hh1.push 36 #[.int .u32 own, .int .u64 sent, .int .u64 heard]; clear hh1; obtain ⟨g7, hg7⟩ : ∃ g, w1.heap.size = g := ⟨_, rfl⟩; rw [hg7] at hh; have hc := hh.cells; simp only [Cells, and_true] at hc)
    | (go_at_call 10; refine (dance_TestsX _ _ _ _ _ _ _ _ _ _ _ _ _ _ _ _ (ok_by (by omega)) _ _ _).mono ?_; rintro e w1 ⟨rfl, hb⟩; rw [HN1.out]; clear hc hc1; have hh := Held.below hh hb; have hc := hh.cells; simp only [Cells, and_true] at hc))
  have q4 : IntKind.i64.wrap ((16 * rdel).tdiv 2) = 8 * rdel := by
    have : (16 * rdel).tdiv 2 = 8 * rdel := by rw [Int.tdiv_eq_ediv_of_nonneg (by omega)]; omega
    rw [this]
    exact wrap_i64_id (by omega) (by omega)
  go_quiet (first | (go_at_call 11; refine Calls.quiet_of_same (fix_LongQ _ ⟨by omega, by omega⟩ _)))
  have hhq := hh.drewN nq
  have HHQ := Lib.hid hhq
  go_upto_region 6 with (fail)
  go_cut [88] (fun s wc => s = .bool false ∧ Held w wc [(g7, 36, #[.int .u32 own, .int .u64 sent, .int .u64 heard]), (w.heap.size + 1, 35, #[.int .i64 leap, .int .i64 ver, .int .i64 mode, .int .i64 str, .int .i64 poll, .int .i64 prec, .int .u32 rdel, .int .u32 rdisp, .int .u32 rid, .int .u64 rf, .int .u64 org, .int .u64 rcv, .int .u64 tx]), (w.heap.size, 33, #[.int .u32 own, .int .u64 sent, .int .u64 heard])])
  case first =>
    rcases hn0 : (n == 0) with _ | _
    · go_wp2_with fail
      go_meet
      case rel => exact ⟨rfl, HHQ.out⟩
    · obtain ⟨z0, z1, z2, z3, z4, z5, z6, z7⟩ := HZ.out (beq_iff_eq.1 hn0)
      have z8 : ¬ (1572864 ≤ 8 * rdel + 16 * rdisp) := by omega
      by_cases s1 : 1 < str
      · have z9 := z4 s1
        rcases hm : (mode != 5) with _ | _
        · clear z4 z7
          go_wp2_with fail
          go_meet
          case rel => exact ⟨by first | rfl | (rw [decide_eq_false (show ¬ str < 1 by omega), decide_eq_false (show ¬ 15 < str by omega)]; rfl), HHQ.out⟩
        · have z10 := z7 hm
          clear z4 z7
          go_wp2_with fail
          go_meet
          case rel => exact ⟨by first | rfl | (rw [decide_eq_false (show ¬ str < 1 by omega), decide_eq_false (show ¬ 15 < str by omega)]; rfl), HHQ.out⟩
      · rcases hm : (mode != 5) with _ | _
        · clear z4 z7
          go_wp2_with fail
          go_meet
          case rel => exact ⟨by first | rfl | (rw [decide_eq_false (show ¬ str < 1 by omega), decide_eq_false (show ¬ 15 < str by omega)]; rfl), HHQ.out⟩
        · have z10 := z7 hm
          clear z4 z7
          go_wp2_with fail
          go_meet
          case rel => exact ⟨by first | rfl | (rw [decide_eq_false (show ¬ str < 1 by omega), decide_eq_false (show ¬ 15 < str by omega)]; rfl), HHQ.out⟩
  case rest =>
    obtain ⟨rfl, hh⟩ := hcut
    clear hc HHQ hhq
    have hc := hh.cells
    simp only [Cells, and_true] at hc
    clear HZ
    have htx := or_one64 tx t0 t1
    obtain ⟨T, hT⟩ : ∃ T, tx / 2 * 2 + 1 = T := ⟨_, rfl⟩
    have T1 : 1 ≤ T := by omega
    have T2 : T ≤ 18446744073709551615 := by omega
    rw [hT] at htx
    have hT3 : IntKind.u64.wrap (T - 1) = T - 1 := by
      have : IntKind.u64.wrap (T - 1) = (T - 1) % 18446744073709551616 := by simp [IntKind.wrap, IntKind.bits, IntKind.signed]
      rw [this]; omega
    obtain ⟨HR, hHR⟩ : ∃ HR, IntKind.u64.wrap (T + 1) = HR := ⟨_, rfl⟩
    have hne : T ≠ HR := by
      have : IntKind.u64.wrap (T + 1) = (T + 1) % 18446744073709551616 := by simp [IntKind.wrap, IntKind.bits, IntKind.signed]
      rw [← hHR, this]; omega
    have V0 := Lib.hid (var_ok T1 T2 hne)
    have V1 := Lib.hid (var_0 T1 T2 hne)
    have V2 := Lib.hid (var_1 T1 T2 hne)
    have V3 := Lib.hid (var_2 T1 T2 hne)
    have V4 := Lib.hid (var_3 T1 T2 hne)
    have V5 := Lib.hid (var_4 T1 T2 hne)
    have V6 := Lib.hid (var_5 T1 T2 hne)
    clear hT hne
    go_upto_region 16 with (first
      | (go_at_call 10; refine (dance_TestsX _ _ _ _ _ _ _ _ _ _ _ _ _ _ _ _ (ok_by (by omega)) _ _ _).mono ?_; rintro e w1 ⟨rfl, hb⟩; (first | rw [HN2.out] | rw [HN3.out]); clear hc; have hh := Held.below hh hb; have hc := hh.cells; simp only [Cells, and_true] at hc)
      | (go_at_call 12; refine (law_good _).mono ?_; rintro e w1 ⟨rfl, hb⟩; clear hc; have hh1 := Held.below hh hb; have hge : w.heap.size ≤ w1.heap.size := hh1.2.1; have hx := hh1.push 35 #[.int .i64 0, .int .i64 4, .int .i64 4, .int .i64 2, .int .i64 0, .int .i64 0, .int .u32 0, .int .u32 0, .int .u32 0, .int .u64 (T - 1), .int .u64 9, .int .u64 1, .int .u64 T]; have hx0 := hh1.push 35 #[.int .i64 0, .int .i64 4, .int .i64 4, .int .i64 2, .int .i64 0, .int .i64 0, .int .u32 0, .int .u32 0, .int .u32 0, .int .u64 4, .int .u64 9, .int .u64 1, .int .u64 5]; obtain ⟨g10, hg10⟩ : ∃ g, w1.heap.size = g := ⟨_, rfl⟩; have hc1 := hx0.cells; simp only [Cells, and_true, hg10] at hc1; rw [hg10] at hge; clear hx0; have hy := hx.push 36 #[.int .u32 7, .int .u64 9, .int .u64 HR]; simp only [World.size_alloc, hg10] at hy; clear hx)
      | (go_at_call 10; refine (dance_TestsX _ _ _ _ _ _ _ _ _ _ _ _ _ _ _ _ (ok_by (by omega)) _ _ _).mono ?_; rintro e w1 ⟨rfl, hb⟩; rw [V0.out]; clear hc1; have hh := Held.below hy hb; have hc := hh.cells; simp only [Cells, and_true] at hc))
    have HHB := Lib.hid (Held.of hh.1)
    clear hh hy
    obtain ⟨s1, s2, s3⟩ := tmod_six turn
    have s4 := Int.emod_nonneg turn (show (6 : Int) ≠ 0 by omega)
    have s5 := Int.emod_lt_of_pos turn (show (0 : Int) < 6 by omega)
    obtain ⟨r, hr⟩ : ∃ r, turn.tmod 6 = r := ⟨_, rfl⟩
    obtain ⟨k, hk⟩ : ∃ k, turn % 6 = k := ⟨_, rfl⟩
    rw [hr] at s1 s2 s3
    rw [hk] at s1 s4 s5
    have s6 : IntKind.i64.wrap r = r := wrap_i64_id (by omega) (by omega)
    have s7 : IntKind.i64.wrap (r + 6) = r + 6 := wrap_i64_id (by omega) (by omega)
    clear hk
    obtain rfl | rfl | rfl | rfl | rfl | rfl : k = 0 ∨ k = 1 ∨ k = 2 ∨ k = 3 ∨ k = 4 ∨ k = 5 := by omega
    all_goals
      go_wp2_with (go_at_call 10; refine (dance_TestsX _ _ _ _ _ _ _ _ _ _ _ _ _ _ _ _ (ok_by (by omega)) _ _ _).mono ?_; rintro e w1 ⟨rfl, hb⟩; (first | rw [V1.out] | rw [V2.out] | rw [V3.out] | rw [V4.out] | rw [V5.out] | rw [V6.out]); have hfin := Held.below (Held.setCell HHB.out (by first | exact hge | exact Nat.le_succ_of_le hge) (fun x hx => by cases hx) _) hb)
      go_ret
      exact ⟨rfl, hfin.1⟩
theorem open_mem {H : Type} {enc : TypeId × Value → H} {W : World} {base : Nat} {v : Value} {d : DataW H} {p : List MemPlace} {ts : List TypeId} {ds : List (DataW H)}
    (hok : Value.okWide Tryd.prog W .any base 33 v) (h : DataW.Trod enc Tryd.prog W 0 (fun _ => true) true 33 v d p)
    (hsz : (DataW.weightsEach Tryd.prog ts ds).all (· ≤ reachBytes) = true) {j : Nat} (hj : ts[j]? = some 33) (hd : ds[j]? = some d) :
    ∃ own sent heard : Int, v = memV own sent heard := by
  obtain ⟨v0, v1, v2, y0, y1, y2, n, rfl, rfl, rfl, h0, h1, h2⟩ := Joins.open_agg3 Tryd.underlying33 (by kernel_rfl) (by kernel_rfl) hok h
  obtain ⟨a, ha, -⟩ := DataW.trod_int Tryd.underlying30 h0
  obtain ⟨b, hb, -⟩ := DataW.trod_int Tryd.underlying31 h1
  obtain ⟨c, hc, -⟩ := DataW.trod_int Tryd.underlying31 h2
  simp only [List.cons.injEq, and_true] at ha hb hc
  exact ⟨a, b, c, by rw [ha, hb, hc]; rfl⟩
theorem danceSafe_walk (x y : Value) (turn : Int) (wt : (Lit.int .i64 turn).wf = true) (w : World) (hx : ∃ own sent heard : Int, x = memV own sent heard) (hy : ∃ h : Hd, y = h.v ∧ h.Ok) :
    Calls Tryd.prog 4 #[x, y, .int .i64 turn] w fun e w' => e = .returned (.bool true) ∧ Below w.heap.size w w' := by
  obtain ⟨own, sent, heard, rfl⟩ := hx
  obtain ⟨h, rfl, ho⟩ := hy
  exact danceSafe_at own sent heard h ho turn (bounds_i64 wt) w
end Go.Proofs.YtnooajlijekhdaaDoor
