/- Layer 1: fractions. -/
import Derived.Test.YtgahmboecbfplaaFix1
import Derived.Test.YtgahmboecbfplaaFixW
namespace Go.Proofs.Ytgahmboecbfplaa
set_option linter.unusedVariables false
set_option linter.unusedSimpArgs false
open Go.RowKit
attribute [local go_sem] max2_mm min2_mm max_two min_two

def partOk (a num den : Int) : Prop := isT a ∧ 0 ≤ num ∧ num ≤ 2147483648 ∧ 1 ≤ den ∧ den ≤ 2147483648
instance (a num den : Int) : Decidable (partOk a num den) := inferInstanceAs (Decidable (_ ∧ _ ∧ _ ∧ _ ∧ _))
def partV (a num den : Int) (up : Bool) : Int := if partOk a num den then partS a num den up else 0
def partE (a num den : Int) : Int := if partOk a num den then 0 else 2

theorem part_in {a : Int} {m n d X q0 r0 : Nat} {up : Bool} (hm : max a (-a) = m) (hd : 1 ≤ d) (hX : m * n = X) (hq : X / d = q0) (hr : X % d = r0) :
    partQ a ((q0 : Int)) (decide (0 < (r0 : Int))) up = partS a n d up := by
  rw [← partQ_eq (a := a) (num := (n : Int)) (den := (d : Int)) (by omega) (by omega), hm, ← Int.natCast_mul, hX, ← Int.natCast_ediv, ← Int.natCast_emod, hq, hr]
theorem part_min {a : Int} {m n d X q0 r0 : Nat} {up : Bool} (hm : max a (-a) = m) (hd : 1 ≤ d) (hX : m * n = X) (hq : X / d = q0) (hr : X % d = r0) (c : Int) (hc : 2305843009213693952 ≤ c) :
    partQ a (min (q0 : Int) c) (decide (0 < (r0 : Int))) up = partS a n d up := by
  rw [← part_in hm hd hX hq hr]
  by_cases h : (q0 : Int) ≤ c
  · rw [Int.min_eq_left h]
  · exact partQ_far (by omega) (by omega)
theorem part_out {a : Int} {m n d X hi : Nat} {up : Bool} (hm : max a (-a) = m) (hd : 1 ≤ d) (hX : m * n = X) (hh : X / 18446744073709551616 = hi) (hlt : d ≤ hi) :
    partQ a 2305843009213693952 false up = partS a n d up := by
  rw [← part_in hm hd hX rfl rfl]
  refine partQ_far (by omega) ?_
  have h1 : 18446744073709551616 ≤ X / d := by
    rw [Nat.le_div_iff_mul_le (by omega)]
    have : d ≤ X / 18446744073709551616 := by omega
    have := (Nat.le_div_iff_mul_le (by omega)).1 this
    omega
  omega

theorem fix_PartNo (a num den : Int) (up : Bool) (h : ¬ partOk a num den) (w : World) : Calls Try.prog 17 #[.int .i64 a, .int .i64 num, .int .i64 den, .bool up] w fun e w' => e = .returned (.tuple #[.int .i64 0, .int .i64 2]) ∧ ∃ n, w' = w.drewN n := by
  by_cases ha : isT a
  · have hx : num < 0 ∨ 2147483648 < num ∨ den < 1 ∨ 2147483648 < den := by simp only [partOk, ha, true_and] at h; omega
    have hda := decide_eq_true ha
    clear h
    go_enter Try.func17, Try.ntmps17
    go_wp2_with (go_at_call 22; refine (fix_is _ _).mono ?_; rintro e w' ⟨rfl, rfl⟩)
    all_goals (go_ret2; exact ⟨rfl, 0, rfl⟩)
  · have hda := decide_eq_false ha
    clear h
    go_enter Try.func17, Try.ntmps17
    go_wp2_with (go_at_call 22; refine (fix_is _ _).mono ?_; rintro e w' ⟨rfl, rfl⟩)
    go_ret2
    exact ⟨rfl, 0, rfl⟩
theorem fix_PartIn (a : Int) (m n d X hi lo : Nat) (up c : Bool) (w : World) (ha : isT a) (hn : n ≤ 2147483648) (hd : 1 ≤ d) (hd2 : d ≤ 2147483648) (hm : max a (-a) = m) (hX : m * n = X)
    (hc : (up == decide (0 < a)) = c) (hlt : hi < d) (hhi : X / 18446744073709551616 = hi) (hlo : X % 18446744073709551616 = lo) :
    Calls Try.prog 17 #[.int .i64 a, .int .i64 n, .int .i64 d, .bool up] w fun e w' => e = .returned (.tuple #[.int .i64 (partS a n d up), .int .i64 0]) ∧ ∃ n, w' = w.drewN n := by
  have hda := decide_eq_true ha
  obtain ⟨ha1, ha2⟩ := isT_le ha
  have hneg : IntKind.i64.wrap (-a) = -a := wrap_i64_id (by omega) (by omega)
  obtain ⟨q0, hq⟩ : ∃ q, X / d = q := ⟨_, rfl⟩
  obtain ⟨r0, hr⟩ : ∃ q, X % d = q := ⟨_, rfl⟩
  have hX2 : hi * 18446744073709551616 + lo = X := by omega
  have HS := Lib.hid (part_min (up := up) hm hd hX hq hr 2305843009213693952 (by omega))
  have HX := Lib.hid hX
  have HQ := Lib.hid hq
  have HR := Lib.hid hr
  have HX2 := Lib.hid hX2
  have HLO := Lib.hid hlo
  have HHI := Lib.hid hhi
  have hm2 : m ≤ 2305843009213693952 := by omega
  have hq2 : IntKind.u64.wrap (min (q0 : Int) 2305843009213693952) = min (q0 : Int) 2305843009213693952 := wrap_u64_id (by omega) (by omega)
  clear hX hq hr hX2 hlo hhi ha
  go_enter Try.func17, Try.ntmps17
  go_wp2_with (first
    | (go_at_call 22; refine (fix_is _ _).mono ?_; rintro e w' ⟨rfl, rfl⟩)
    | (go_at_call 25; refine (fix_bound _ _).mono ?_; rintro e w' ⟨rfl, rfl⟩)
    | (go_at_call 23; refine (Try.bits_Mul64 m n (by omega) (by omega) _).mono ?_; rintro e w' ⟨rfl, rfl⟩; rw [HX.out, HHI.out, HLO.out])
    | (go_at_call 24; refine (div64 hi lo d (by omega) (by omega) (by omega) (by rw [← HLO.out]; exact Nat.mod_lt _ (by decide)) _).mono ?_; rintro e w' ⟨rfl, k, rfl⟩; rw [HX2.out, HQ.out, HR.out]))
  all_goals
    go_ret2
    refine ⟨ret2i ?_ rfl, k, rfl⟩
    have hs := HS.out
    rw [← hs]
    clear hs
    unfold partQ
    congr 1
    grind

theorem fix_PartOut (a : Int) (m n d X hi lo : Nat) (up : Bool) (w : World) (ha : isT a) (hn : n ≤ 2147483648) (hd : 1 ≤ d) (hd2 : d ≤ 2147483648) (hm : max a (-a) = m) (hX : m * n = X)
    (hlt : d ≤ hi) (hhi : X / 18446744073709551616 = hi) (hlo : X % 18446744073709551616 = lo) :
    Calls Try.prog 17 #[.int .i64 a, .int .i64 n, .int .i64 d, .bool up] w fun e w' => e = .returned (.tuple #[.int .i64 (partS a n d up), .int .i64 0]) ∧ ∃ n, w' = w.drewN n := by
  have hda := decide_eq_true ha
  obtain ⟨ha1, ha2⟩ := isT_le ha
  have hneg : IntKind.i64.wrap (-a) = -a := wrap_i64_id (by omega) (by omega)
  have HS := Lib.hid (part_out (up := up) hm hd hX hhi hlt)
  have HX := Lib.hid hX
  have HLO := Lib.hid hlo
  have HHI := Lib.hid hhi
  have hm2 : m ≤ 2305843009213693952 := by omega
  clear hX hlo hhi ha
  go_enter Try.func17, Try.ntmps17
  go_wp2_with (first
    | (go_at_call 22; refine (fix_is _ _).mono ?_; rintro e w' ⟨rfl, rfl⟩)
    | (go_at_call 25; refine (fix_bound _ _).mono ?_; rintro e w' ⟨rfl, rfl⟩)
    | (go_at_call 23; refine (Try.bits_Mul64 m n (by omega) (by omega) _).mono ?_; rintro e w' ⟨rfl, rfl⟩; rw [HX.out, HHI.out, HLO.out]))
  all_goals
    go_ret2
    refine ⟨ret2i ?_ rfl, 0, rfl⟩
    have hs := HS.out
    rw [← hs]
    clear hs
    unfold partQ
    congr 1
    grind

theorem fix_Part (a num den : Int) (up : Bool) (w : World) : Calls Try.prog 17 #[.int .i64 a, .int .i64 num, .int .i64 den, .bool up] w fun e w' => e = .returned (.tuple #[.int .i64 (partV a num den up), .int .i64 (partE a num den)]) ∧ ∃ n, w' = w.drewN n := by
  unfold partV partE
  by_cases h : partOk a num den
  · rw [if_pos h, if_pos h]
    obtain ⟨ha, h1, h2, h3, h4⟩ := h
    obtain ⟨n, rfl⟩ := Int.eq_ofNat_of_zero_le h1
    obtain ⟨d, rfl⟩ := Int.eq_ofNat_of_zero_le (show 0 ≤ den by omega)
    obtain ⟨m, hm⟩ := Int.eq_ofNat_of_zero_le (show 0 ≤ max a (-a) by omega)
    rcases Nat.lt_or_ge (m * n / 18446744073709551616) d with hlt | hge
    · exact fix_PartIn a m n d _ _ _ up _ w ha (by omega) (by omega) (by omega) hm rfl rfl hlt rfl rfl
    · exact fix_PartOut a m n d _ _ _ up w ha (by omega) (by omega) (by omega) hm rfl hge rfl rfl
  · rw [if_neg h, if_neg h]
    exact fix_PartNo a num den up h w
end Go.Proofs.Ytgahmboecbfplaa
