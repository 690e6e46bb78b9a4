/- math/bits.Div64 at a small divisor. -/
import Derived.Test.YtgahmboecbfplaaK
import Derived.Test.YtgahmboecbfplaaShelf
import Derived.Test.YtgahmboecbfplaaFixP
import Derived.Test.YtgahmboecbfplaaFixDP
import Derived.Laws.BitsAllLaws
namespace Go.Proofs.Ytgahmboecbfplaa
set_option linter.unusedVariables false
set_option linter.unusedSimpArgs false
open Go.RowKit
attribute [local go_sem] max2_mm min2_mm max_two min_two

set_option maxRecDepth 100000 in
set_option maxHeartbeats 1000000 in
theorem div64_low (lo d : Nat) (hd : 1 ≤ d) (hd2 : d ≤ 2147483648) (hlo : lo < 18446744073709551616) (w : World) :
    Calls Try.prog 24 #[.int .u64 0, .int .u64 lo, .int .u64 d] w fun e w' => e = .returned (.tuple #[.int .u64 ((lo / d : Nat) : Int), .int .u64 ((lo % d : Nat) : Int)]) ∧ ∃ n, w' = w.drewN n := by
  have h1 : ((d : Int) == 0) = false := beq_eq_false_iff_ne.mpr (by omega)
  have h2 : ¬ d ≤ 0 := by omega
  have h3 : d ≠ 0 := by omega
  have h4 := Nat.div_le_self lo d
  have H5 := Lib.hid (show IntKind.u64.wrap ((lo : Int) / (d : Int)) = ((lo / d : Nat) : Int) from by
    rw [← Int.natCast_ediv]
    generalize lo / d = z at *
    exact wrap_u64_id (by omega) (by omega))
  go_enter Try.func24, Try.ntmps24
  go_wp2_with fail
  go_quiet (fail)
  go_wp2
  go_ret2
  exact ⟨ret2i H5.out (by simp), _, rfl⟩

theorem dd_len (d : Nat) (hd : 1 ≤ d) (hd2 : d ≤ 2147483648) : ∃ L, Lib.bitLen d = L ∧ 1 ≤ L ∧ L ≤ 32 ∧ 2 ^ (L - 1) ≤ d ∧ d < 2 ^ L := by
  have h1 := Nat.log2_self_le (n := d) (by omega)
  have h2 := Nat.lt_log2_self (n := d)
  refine ⟨d.log2 + 1, ?_, by omega, ?_, by simpa using h1, h2⟩
  · rw [Lib.bitLen_shift d.log2 d h1 (by omega)]
    have : d / 2 ^ d.log2 = 1 := by
      have p : 0 < 2 ^ d.log2 := Nat.pow_pos (by omega)
      rw [Nat.pow_succ] at h2
      exact Nat.div_eq_of_lt_le (by omega) (by omega)
    rw [this]
    rfl
  · have : d.log2 < 32 := (Nat.log2_lt (by omega)).2 (by omega)
    omega

theorem cast_mul_pow (a k : Nat) : (a : Int) * 2 ^ k = ((a * 2 ^ k : Nat) : Int) := by rw [Int.natCast_mul, Int.natCast_pow]; rfl
theorem cast_div_pow (a k : Nat) : (a : Int) / 2 ^ k = ((a / 2 ^ k : Nat) : Int) := by rw [Int.natCast_ediv, Int.natCast_pow]; rfl
set_option maxRecDepth 100000 in
/-- What the walk meets, in numbers. -/
theorem dd_facts (hi lo d : Nat) (hd : 1 ≤ d) (hd2 : d ≤ 2147483648) (hlt : hi < d) (hlo : lo < 18446744073709551616) :
    ∃ L v x Z q1 r1 t q0 r0 : Nat, Lib.bitLen d = L ∧ 1 ≤ L ∧ L ≤ 32 ∧ 2147483648 ≤ v ∧ v < 4294967296 ∧ x < v * 4294967296 ∧ Z < 18446744073709551616 ∧ q1 < 4294967296 ∧ r1 < v ∧ t = r1 * 4294967296 + Z / 4294967296 ∧ q0 < 4294967296 ∧ r0 < v ∧ r1 ≤ x ∧ r0 ≤ t ∧
      IntKind.u64.wrap ((d : Int) * 2 ^ (64 - L)) = (v : Int) * 4294967296 ∧
      bits .and .u64 ((v : Int) * 4294967296) 4294967295 = 0 ∧
      bits .or .u64 (IntKind.u64.wrap ((hi : Int) * 2 ^ (64 - L))) ((lo : Int) / 2 ^ (64 - (64 - L))) = (x : Int) ∧
      IntKind.u64.wrap ((lo : Int) * 2 ^ (64 - L)) = (Z : Int) ∧
      bits .and .u64 (Z : Int) 4294967295 = (Z : Int) % 4294967296 ∧
      (x : Int) / (v : Int) = (q1 : Int) ∧ (q1 : Int) * (v : Int) = (x : Int) - (r1 : Int) ∧
      (t : Int) / (v : Int) = (q0 : Int) ∧ (q0 : Int) * (v : Int) = (t : Int) - (r0 : Int) ∧
      (hi * 18446744073709551616 + lo) / d = q1 * 4294967296 + q0 ∧ ((r0 : Int) * 4294967296 + (Z : Int) % 4294967296) / 2 ^ (64 - L) = (((hi * 18446744073709551616 + lo) % d : Nat) : Int) := by
  obtain ⟨L, hL, hL1, hL2, hL3, hL4⟩ := dd_len d hd hd2
  have hP : 0 < 2 ^ (64 - L) := Nat.pow_pos (by omega)
  have hQ : 0 < 2 ^ L := Nat.pow_pos (by omega)
  have hPQ : 2 ^ (64 - L) * 2 ^ L = 18446744073709551616 := by rw [← Nat.pow_add, show 64 - L + L = 64 by omega]
  have hv : d * 2 ^ (64 - L) = d * 2 ^ (32 - L) * 4294967296 := by
    rw [show 64 - L = (32 - L) + 32 by omega, Nat.pow_add, Nat.mul_assoc]
  have hv1 : 2147483648 ≤ d * 2 ^ (32 - L) := by
    have := Nat.mul_le_mul_right (2 ^ (32 - L)) hL3
    rw [← Nat.pow_add, show L - 1 + (32 - L) = 31 by omega] at this
    exact this
  have hv2 : d * 2 ^ (32 - L) < 4294967296 := by
    have := Nat.mul_lt_mul_of_pos_right hL4 (show 0 < 2 ^ (32 - L) from Nat.pow_pos (by omega))
    rw [← Nat.pow_add, show L + (32 - L) = 32 by omega] at this
    exact this
  have hhi : hi * 2 ^ (64 - L) < 18446744073709551616 := by
    have := Nat.mul_lt_mul_of_pos_right (show hi < 2 ^ L by omega) hP
    rw [Nat.mul_comm (2 ^ L), hPQ] at this
    exact this
  have hlq : lo / 2 ^ L < 2 ^ (64 - L) := by rw [Nat.div_lt_iff_lt_mul hQ, hPQ]; exact hlo
  have e1 := dd_one (hi := hi) (lo := lo) (S := 0) hPQ hQ rfl rfl
  have hxl := dd_lt hlt hlo hv hP e1
  generalize hv' : d * 2 ^ (32 - L) = v at *
  generalize hx : hi * 2 ^ (64 - L) + lo / 2 ^ L = x at *
  generalize hZ : lo * 2 ^ (64 - L) % 18446744073709551616 = Z at *
  have hZl : Z < 18446744073709551616 := by rw [← hZ]; exact Nat.mod_lt _ (by omega)
  have hx1 := Nat.div_add_mod x v
  have hr1 := Nat.mod_lt x (show 0 < v by omega)
  generalize hq1 : x / v = q1 at *
  generalize hr1' : x % v = r1 at *
  have hq1l : q1 < 4294967296 := by rw [← hq1]; exact (Nat.div_lt_iff_lt_mul (by omega)).2 (by rw [Nat.mul_comm]; exact hxl)
  obtain ⟨t, ht⟩ : ∃ t, r1 * 4294967296 + Z / 4294967296 = t := ⟨_, rfl⟩
  have ht1 := Nat.div_add_mod t v
  have hr0 := Nat.mod_lt t (show 0 < v by omega)
  generalize hq0 : t / v = q0 at *
  generalize hr0' : t % v = r0 at *
  have hq0l : q0 < 4294967296 := by
    rw [← hq0]
    refine (Nat.div_lt_iff_lt_mul (by omega)).2 ?_
    have : (r1 + 1) * 4294967296 ≤ v * 4294967296 := Nat.mul_le_mul_right _ (by omega)
    rw [Nat.mul_comm 4294967296 v]
    omega
  have hres := dd_two hP hv e1 hx1.symm ht.symm ht1.symm hr0
  refine ⟨L, v, x, Z, q1, r1, t, q0, r0, hL, hL1, hL2, hv1, hv2, hxl, hZl, hq1l, hr1, ht.symm, hq0l, hr0, by omega, by omega, ?_, ?_, ?_, ?_, ?_, ?_, ?_, ?_, ?_, hres.1, ?_⟩
  · rw [cast_mul_pow, hv]
    rw [wrap_u64_id (by omega) (by omega)]
    omega
  · rw [show ((v : Int) * 4294967296) = ((v * 4294967296 : Nat) : Int) by omega, show (4294967295 : Int) = ((4294967295 : Nat) : Int) from rfl, u64_and_nat _ _ (by omega) (by omega)]
    rw [show 4294967295 = 2 ^ 32 - 1 from rfl, Nat.and_two_pow_sub_one_eq_mod]
    omega
  · rw [show 64 - (64 - L) = L by omega, cast_mul_pow, cast_div_pow, wrap_u64_id (by omega) (by omega), u64_or_nat _ _ hhi (by have := Nat.div_le_self lo (2 ^ L); omega)]
    rw [Nat.mul_comm hi, ← Nat.two_pow_add_eq_or_of_lt hlq, Nat.mul_comm _ hi, hx]
  · rw [cast_mul_pow, wrap_u64]
    omega
  · rw [show (4294967295 : Int) = ((4294967295 : Nat) : Int) from rfl, u64_and_nat _ _ (by omega) (by omega)]
    rw [show 4294967295 = 2 ^ 32 - 1 from rfl, Nat.and_two_pow_sub_one_eq_mod]
    omega
  · rw [← Int.natCast_ediv, hq1]
  · rw [← Int.natCast_mul, Nat.mul_comm]; omega
  · rw [← Int.natCast_ediv, hq0]
  · rw [← Int.natCast_mul, Nat.mul_comm]; omega
  · rw [show (r0 : Int) * 4294967296 + (Z : Int) % 4294967296 = ((r0 * 4294967296 + Z % 4294967296 : Nat) : Int) by omega, cast_div_pow, hres.2]

theorem dd_T {x q v r1 Z t : Nat} (f7 : (q : Int) * (v : Int) = (x : Int) - (r1 : Int)) (ht : t = r1 * 4294967296 + Z / 4294967296) (hr : r1 < v) (hrx : r1 ≤ x) (hv : v < 4294967296) (hZ : Z < 18446744073709551616) :
    IntKind.u64.wrap (IntKind.u64.wrap (IntKind.u64.wrap ((x : Int) * 4294967296) + (Z : Int) / 4294967296) - IntKind.u64.wrap ((q : Int) * ((v : Int) * 4294967296))) = (t : Int) := by
  rw [← Int.mul_assoc, f7, wrap_u64, wrap_u64, wrap_u64, wrap_u64]
  omega
theorem dd_R {t q v r0 Z : Nat} (f9 : (q : Int) * (v : Int) = (t : Int) - (r0 : Int)) (hr : r0 < v) (hrt : r0 ≤ t) (hv : v < 4294967296) (hZ : Z < 18446744073709551616) :
    IntKind.u64.wrap (IntKind.u64.wrap (IntKind.u64.wrap ((t : Int) * 4294967296) + (Z : Int) % 4294967296) - IntKind.u64.wrap ((q : Int) * ((v : Int) * 4294967296))) = (r0 : Int) * 4294967296 + (Z : Int) % 4294967296 := by
  rw [← Int.mul_assoc, f9, wrap_u64, wrap_u64, wrap_u64, wrap_u64]
  omega

theorem dd_Q {q1 q0 Q : Nat} (f : Q = q1 * 4294967296 + q0) (h1 : q1 < 4294967296) (h0 : q0 < 4294967296) : IntKind.u64.wrap (IntKind.u64.wrap ((q1 : Int) * 4294967296) + (q0 : Int)) = (Q : Int) := by
  rw [f, wrap_u64, wrap_u64]; omega
theorem dd_r {x r v q : Nat} (f : (q : Int) * (v : Int) = (x : Int) - (r : Int)) (h : r < 4294967296) (hx : r ≤ x) : IntKind.u64.wrap ((x : Int) - IntKind.u64.wrap ((q : Int) * (v : Int))) = (r : Int) := by
  rw [f, wrap_u64, wrap_u64]; omega
theorem dd_u (q : Nat) (h : q < 4294967296) : IntKind.u64.wrap (q : Int) = q := by rw [wrap_u64]; omega
theorem dd_g1 (q : Nat) (h : q < 4294967296) : decide ((4294967296 : Int) ≤ (q : Int)) = false := decide_eq_false_iff_not.mpr (by omega)
theorem dd_g2 (r : Nat) (h : r < 4294967296) : IntKind.u64.wrap (4294967296 * (r : Int)) = 4294967296 * (r : Int) := by
  rw [wrap_u64]; omega
theorem dd_g3 (r Z : Nat) (h : r < 4294967296) (hZ : Z < 18446744073709551616) : IntKind.u64.wrap (4294967296 * (r : Int) + (Z : Int) / 4294967296) = 4294967296 * (r : Int) + (Z : Int) / 4294967296 := by
  rw [wrap_u64]; omega
theorem dd_g4 (r Z : Nat) : decide (4294967296 * (r : Int) + (Z : Int) / 4294967296 < 0) = false := decide_eq_false_iff_not.mpr (by omega)
theorem dd_g5 (r Z : Nat) (h : r < 4294967296) : IntKind.u64.wrap (4294967296 * (r : Int) + (Z : Int) % 4294967296) = 4294967296 * (r : Int) + (Z : Int) % 4294967296 := by
  rw [wrap_u64]; omega
theorem dd_g6 (r Z : Nat) : decide (4294967296 * (r : Int) + (Z : Int) % 4294967296 < 0) = false := decide_eq_false_iff_not.mpr (by omega)

set_option maxRecDepth 100000 in
set_option maxHeartbeats 1000000 in
theorem div64_walk (hi lo d : Nat) (L v x Z q1 r1 t q0 r0 : Nat) (Q R : Int) (w : World) (hd : 1 ≤ d) (hd2 : d ≤ 2147483648) (hlt : hi < d) (h0 : 1 ≤ hi) (HLO : Hid (lo < 18446744073709551616))
    (HL : Hid (Lib.bitLen d = L)) (hL1 : 1 ≤ L) (hL2 : L ≤ 32) (hv1 : 2147483648 ≤ v) (u1 : IntKind.u64.wrap (q1 : Int) = (q1 : Int)) (u2 : IntKind.u64.wrap (q0 : Int) = (q0 : Int))
    (f1 : IntKind.u64.wrap ((d : Int) * 2 ^ (64 - L)) = (v : Int) * 4294967296)
    (f2 : bits .and .u64 ((v : Int) * 4294967296) 4294967295 = 0)
    (f3 : bits .or .u64 (IntKind.u64.wrap ((hi : Int) * 2 ^ (64 - L))) ((lo : Int) / 2 ^ (64 - (64 - L))) = (x : Int))
    (f4 : IntKind.u64.wrap ((lo : Int) * 2 ^ (64 - L)) = (Z : Int))
    (f5 : bits .and .u64 (Z : Int) 4294967295 = (Z : Int) % 4294967296)
    (f6 : (x : Int) / (v : Int) = (q1 : Int)) (f7 : IntKind.u64.wrap ((x : Int) - IntKind.u64.wrap ((q1 : Int) * (v : Int))) = (r1 : Int))
    (HT : Hid (IntKind.u64.wrap (IntKind.u64.wrap (IntKind.u64.wrap ((x : Int) * 4294967296) + (Z : Int) / 4294967296) - IntKind.u64.wrap ((q1 : Int) * ((v : Int) * 4294967296))) = (t : Int)))
    (F8 : Hid ((t : Int) / (v : Int) = (q0 : Int))) (F9 : Hid (IntKind.u64.wrap ((t : Int) - IntKind.u64.wrap ((q0 : Int) * (v : Int))) = (r0 : Int)))
    (HR : Hid (IntKind.u64.wrap (IntKind.u64.wrap (IntKind.u64.wrap ((t : Int) * 4294967296) + (Z : Int) % 4294967296) - IntKind.u64.wrap ((q0 : Int) * ((v : Int) * 4294967296))) = (r0 : Int) * 4294967296 + (Z : Int) % 4294967296))
    (F10 : Hid (IntKind.u64.wrap (IntKind.u64.wrap ((q1 : Int) * 4294967296) + (q0 : Int)) = Q)) (F11 : Hid (((r0 : Int) * 4294967296 + (Z : Int) % 4294967296) / 2 ^ (64 - L) = R))
    (G1 : Hid (decide ((4294967296 : Int) ≤ (q1 : Int)) = false)) (G2 : Hid (IntKind.u64.wrap (4294967296 * (r1 : Int)) = 4294967296 * (r1 : Int)))
    (G3 : Hid (IntKind.u64.wrap (4294967296 * (r1 : Int) + (Z : Int) / 4294967296) = 4294967296 * (r1 : Int) + (Z : Int) / 4294967296)) (G4 : Hid (decide (4294967296 * (r1 : Int) + (Z : Int) / 4294967296 < 0) = false))
    (K1 : Hid (decide ((4294967296 : Int) ≤ (q0 : Int)) = false)) (K2 : Hid (IntKind.u64.wrap (4294967296 * (r0 : Int)) = 4294967296 * (r0 : Int)))
    (K3 : Hid (IntKind.u64.wrap (4294967296 * (r0 : Int) + (Z : Int) % 4294967296) = 4294967296 * (r0 : Int) + (Z : Int) % 4294967296)) (K4 : Hid (decide (4294967296 * (r0 : Int) + (Z : Int) % 4294967296 < 0) = false)) :
    Calls Try.prog 24 #[.int .u64 hi, .int .u64 lo, .int .u64 d] w fun e w' => e = .returned (.tuple #[.int .u64 Q, .int .u64 R]) ∧ ∃ n, w' = w.drewN n := by
  have h1 : ((d : Int) == 0) = false := beq_eq_false_iff_ne.mpr (by omega)
  have h3 : ((hi : Int) == 0) = false := beq_eq_false_iff_ne.mpr (by omega)
  have h2 : (hi : Int) < d := by omega
  go_enter Try.func24, Try.ntmps24
  go_wp2_with (go_at_call 27; refine (Try.bits_LeadingZeros64 _ _ (by omega) (by omega)).mono ?_; rintro e w' ⟨rfl, rfl⟩; rw [Int.toNat_natCast, HL.out])
  clear f1 f2 f3 f4 f5 f6 f7 h1 h2 h3 hd hd2 hlt h0
  have g1 := G1.out
  have g2 := G2.out
  have g3 := G3.out
  have g4 := G4.out
  go_loop [15, 16] (fun a b => a = .int .u64 q1 ∧ b = .int .u64 r1) (fun _ _ => 0)
  case atStart => exact ⟨rfl, rfl⟩
  case round =>
    obtain ⟨rfl, rfl⟩ := hrel
    have hT := HT.out
    have f8 := F8.out
    have f9 := F9.out
    go_wp2_with fail
    clear g1 g2 g3 g4 hT f8 f9
    have k1 := K1.out
    have k2 := K2.out
    have k3 := K3.out
    have k4 := K4.out
    go_loop [16, 18] (fun a b => a = .int .u64 r0 ∧ b = .int .u64 q0) (fun _ _ => 0)
    case atStart => exact ⟨rfl, rfl⟩
    case round =>
      obtain ⟨rfl, rfl⟩ := hrel
      have hR := HR.out
      go_wp2_with fail
      go_ret2
      exact ⟨ret2i F10.out F11.out, 0, rfl⟩

theorem div64_high (hi lo d : Nat) (hd : 1 ≤ d) (hd2 : d ≤ 2147483648) (hlt : hi < d) (h0 : 1 ≤ hi) (hlo : lo < 18446744073709551616) (w : World) :
    Calls Try.prog 24 #[.int .u64 hi, .int .u64 lo, .int .u64 d] w fun e w' => e = .returned (.tuple #[.int .u64 (((hi * 18446744073709551616 + lo) / d : Nat) : Int), .int .u64 (((hi * 18446744073709551616 + lo) % d : Nat) : Int)]) ∧ ∃ n, w' = w.drewN n := by
  obtain ⟨L, v, x, Z, q1, r1, t, q0, r0, hL, hL1, hL2, hv1, hv2, hxl, hZl, hq1, hr1, ht, hq0, hr0, hrx, hrt, f1, f2, f3, f4, f5, f6, f7, f8, f9, f10, f11⟩ := dd_facts hi lo d hd hd2 hlt hlo
  have hT := dd_T f7 ht hr1 hrx hv2 hZl
  have hR := dd_R f9 hr0 hrt hv2 hZl
  have e7 := dd_r f7 (Nat.lt_trans hr1 hv2) hrx
  have e9 := dd_r f9 (Nat.lt_trans hr0 hv2) hrt
  refine div64_walk hi lo d L v x Z q1 r1 t q0 r0 _ _ w hd hd2 hlt h0 (Lib.hid hlo) (Lib.hid hL) hL1 hL2 hv1 (dd_u _ hq1) (dd_u _ hq0) f1 f2 f3 f4 f5 f6 e7 (Lib.hid hT) (Lib.hid f8) (Lib.hid e9) (Lib.hid hR) (Lib.hid (dd_Q f10 hq1 hq0)) (Lib.hid f11)
    (Lib.hid (dd_g1 _ hq1)) (Lib.hid (dd_g2 _ (Nat.lt_trans hr1 hv2))) (Lib.hid (dd_g3 _ _ (Nat.lt_trans hr1 hv2) hZl)) (Lib.hid (dd_g4 _ _)) (Lib.hid (dd_g1 _ hq0)) (Lib.hid (dd_g2 _ (Nat.lt_trans hr0 hv2))) (Lib.hid (dd_g5 _ _ (Nat.lt_trans hr0 hv2))) (Lib.hid (dd_g6 _ _))

/-- math/bits.Div64, at a small divisor that is above the high word. -/
theorem div64 (hi lo d : Nat) (hd : 1 ≤ d) (hd2 : d ≤ 2147483648) (hlt : hi < d) (hlo : lo < 18446744073709551616) (w : World) :
    Calls Try.prog 24 #[.int .u64 hi, .int .u64 lo, .int .u64 d] w fun e w' => e = .returned (.tuple #[.int .u64 (((hi * 18446744073709551616 + lo) / d : Nat) : Int), .int .u64 (((hi * 18446744073709551616 + lo) % d : Nat) : Int)]) ∧ ∃ n, w' = w.drewN n := by
  by_cases h : hi = 0
  · subst h
    have := div64_low lo d hd hd2 hlo w
    simpa using this
  · exact div64_high hi lo d hd hd2 hlt (by omega) hlo w

end Go.Proofs.Ytgahmboecbfplaa
