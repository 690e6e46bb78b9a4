/- The law FixBack: the walk and the plain law. -/
import Derived.Test.YtcdphaejnmdpoaaFix3
namespace Go.Proofs.Ytcdphaejnmdpoaa
set_option linter.unusedVariables false
set_option linter.unusedSimpArgs false
open Go.RowKit
attribute [local go_sem] max2_mm min2_mm max_two min_two

theorem tmod_near (x : Int) {d : Int} (hd : 0 < d) : -d < x.tmod d ∧ x.tmod d < d := by
  constructor
  · rcases Int.lt_or_le x 0 with h | h
    · obtain ⟨y, rfl⟩ : ∃ y, x = -y := ⟨-x, by omega⟩
      rw [Int.neg_tmod, Int.tmod_eq_emod_of_nonneg (by omega)]
      have := Int.emod_lt_of_pos y hd
      omega
    · rw [Int.tmod_eq_emod_of_nonneg h]
      have := Int.emod_nonneg x (show d ≠ 0 by omega)
      omega
  · rcases Int.lt_or_le x 0 with h | h
    · obtain ⟨y, rfl⟩ : ∃ y, x = -y := ⟨-x, by omega⟩
      rw [Int.neg_tmod, Int.tmod_eq_emod_of_nonneg (by omega)]
      have := Int.emod_nonneg y (show d ≠ 0 by omega)
      omega
    · rw [Int.tmod_eq_emod_of_nonneg h]
      exact Int.emod_lt_of_pos x hd
/-- Stamped and unfolded near by: the time itself. -/
theorem back_unf {t p o : Int} (h1 : -1152921504606846976 ≤ t) (h2 : t ≤ 1152921504606846976) (ho : -2251799813685248 < o) (ho2 : o < 2251799813685248) (hp : t - o = p) :
    isT t ∧ inPivot p ∧ unfT (stampS t) p = t ∧ unfHi (stampS t) p = t := by
  have e : unfT (stampS t) p = t := by unfold unfT stampS; omega
  refine ⟨⟨by omega, by omega⟩, ⟨by omega, by omega⟩, e, ?_⟩
  unfold unfHi
  rw [if_pos (by unfold stampS; omega), e]
theorem back_short {d : Int} (h1 : 0 ≤ d) (h2 : d < 34359738368) : isT d ∧ d ≤ 16 * shortS d ∧ 16 * shortS d < d + 16 ∧ 0 ≤ shortS d ∧ shortS d ≤ 4294967295 := by
  refine ⟨⟨by omega, by omega⟩, ?_⟩
  unfold shortS
  omega

theorem back_in (t : Int) (off : Int) (w : World) (h1 : -1152921504606846976 ≤ t) (h2 : t ≤ 1152921504606846976) :
    Calls Try.prog 6 #[.int .i64 t, .int .i64 off] w fun e w' => e = .returned (.bool true) ∧ Below w.heap.size w w' := by
  obtain ⟨ho1, ho2⟩ := tmod_near off (d := 2251799813685248) (by omega)
  obtain ⟨hd1, hd2⟩ := tmod_near t (d := 34359738368) (by omega)
  obtain ⟨o, ho⟩ : ∃ o, off.tmod 2251799813685248 = o := ⟨_, rfl⟩
  obtain ⟨d, hd⟩ : ∃ o, t.tmod 34359738368 = o := ⟨_, rfl⟩
  rw [ho] at ho1 ho2
  rw [hd] at hd1 hd2
  obtain ⟨p, hp⟩ : ∃ p, t - o = p := ⟨_, rfl⟩
  obtain ⟨g1, g2, g3, g4⟩ := back_unf h1 h2 ho1 ho2 hp
  have HST := Lib.hid (show stampV t = stampS t by unfold stampV; rw [if_pos g1])
  have HOK := Lib.hid (show okE t = 0 by unfold okE; rw [if_pos g1])
  have HUV := Lib.hid (show unfV (stampS t) p = .agg #[.int .i64 t, .int .i64 t] by unfold unfV; rw [if_pos g2, g3, g4])
  have HUE := Lib.hid (show unfE p = 0 by unfold unfE; rw [if_pos g2])
  have hs : 0 ≤ stampS t ∧ stampS t ≤ 18446744073709551615 := by unfold stampS; omega
  have HS := Lib.hid hs
  have hpb : -9223372036854775808 ≤ p ∧ p ≤ 9223372036854775807 := by omega
  have HP := Lib.hid hpb
  obtain ⟨s, hst⟩ : ∃ s, stampS t = s := ⟨_, rfl⟩
  rw [hst] at HST HUV HS
  clear hst g1 g2 g3 g4 hs hpb
  have hwo : IntKind.i64.wrap o = o := wrap_i64_id (by omega) (by omega)
  have hwd : IntKind.i64.wrap d = d := wrap_i64_id (by omega) (by omega)
  rcases Int.lt_or_le d 0 with hneg | hpos
  · obtain ⟨c, hc⟩ : ∃ c, -d = c := ⟨_, rfl⟩
    have hc0 : 0 ≤ c := by omega
    obtain ⟨k0, k1, k2, k3, k4⟩ := back_short hc0 (show c < 34359738368 by omega)
    have HSV := Lib.hid (show shortV c = shortS c by unfold shortV; rw [if_pos k0])
    have HSE := Lib.hid (show okE c = 0 by unfold okE; rw [if_pos k0])
    obtain ⟨x, hx⟩ : ∃ x, shortS c = x := ⟨_, rfl⟩
    rw [hx] at k1 k2 k3 k4 HSV
    clear hx k0
    go_enter Try.func6, Try.ntmps6
    go_wp2_with (first
      | (go_at_call 9; refine (awake_ok _).mono ?_; rintro e w0 ⟨rfl, b0⟩)
      | (go_at_call 14; refine (fix_Stamp _ _).mono ?_; rintro e w1 ⟨rfl, rfl⟩; rw [HST.out, HOK.out])
      | (go_at_call 18; refine (fix_Short _ _).mono ?_; rintro e w1 ⟨rfl, rfl⟩; rw [HSV.out, HSE.out])
      | (go_at_call 20; refine (fix_Long _ ⟨by omega, by omega⟩ _).mono ?_; rintro e w1 ⟨rfl, rfl⟩)
      | (go_at_call 16; refine (fix_Unfold _ _ HS.out HP.out _).mono ?_; rintro e w2 ⟨rfl, b2⟩; rw [HUV.out, HUE.out]))
    go_ret
    exact ⟨rfl, (below_then b0 b0.size b2).alloc (Nat.le_trans b0.size b2.size) _⟩
  · obtain ⟨c, hc⟩ : ∃ c, d = c := ⟨_, rfl⟩
    have hc0 : 0 ≤ c := by omega
    subst hc
    obtain ⟨k0, k1, k2, k3, k4⟩ := back_short hc0 (show d < 34359738368 by omega)
    have HSV := Lib.hid (show shortV d = shortS d by unfold shortV; rw [if_pos k0])
    have HSE := Lib.hid (show okE d = 0 by unfold okE; rw [if_pos k0])
    obtain ⟨x, hx⟩ : ∃ x, shortS d = x := ⟨_, rfl⟩
    rw [hx] at k1 k2 k3 k4 HSV
    clear hx k0
    go_enter Try.func6, Try.ntmps6
    go_wp2_with (first
      | (go_at_call 9; refine (awake_ok _).mono ?_; rintro e w0 ⟨rfl, b0⟩)
      | (go_at_call 14; refine (fix_Stamp _ _).mono ?_; rintro e w1 ⟨rfl, rfl⟩; rw [HST.out, HOK.out])
      | (go_at_call 18; refine (fix_Short _ _).mono ?_; rintro e w1 ⟨rfl, rfl⟩; rw [HSV.out, HSE.out])
      | (go_at_call 20; refine (fix_Long _ ⟨by omega, by omega⟩ _).mono ?_; rintro e w1 ⟨rfl, rfl⟩)
      | (go_at_call 16; refine (fix_Unfold _ _ HS.out HP.out _).mono ?_; rintro e w2 ⟨rfl, b2⟩; rw [HUV.out, HUE.out]))
    go_ret
    exact ⟨rfl, (below_then b0 b0.size b2).alloc (Nat.le_trans b0.size b2.size) _⟩
theorem fixBack_walk (t : Int) (wt : (Lit.int .i64 t).wf = true) (off : Int) (wo : (Lit.int .i64 off).wf = true) (w : World) :
    Calls Try.prog 6 #[.int .i64 t, .int .i64 off] w fun e w' => e = .returned (.bool true) ∧ Below w.heap.size w w' := by
  by_cases h1 : -1152921504606846976 ≤ t
  · by_cases h2 : t ≤ 1152921504606846976
    · exact back_in t off w h1 h2
    · clear wt wo
      go_enter Try.func6, Try.ntmps6
      go_wp2_with (go_at_call 9; refine (awake_ok _).mono ?_; rintro e w0 ⟨rfl, b0⟩)
      go_ret
      exact ⟨rfl, b0⟩
  · clear wt wo
    go_enter Try.func6, Try.ntmps6
    go_wp2_with (go_at_call 9; refine (awake_ok _).mono ?_; rintro e w0 ⟨rfl, b0⟩)
    go_ret
    exact ⟨rfl, b0⟩
end Go.Proofs.Ytcdphaejnmdpoaa
