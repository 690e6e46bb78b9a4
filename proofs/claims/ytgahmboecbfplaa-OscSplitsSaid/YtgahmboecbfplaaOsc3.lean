/- Layer 2: what a count says; spans are aged. -/
import Derived.Test.YtgahmboecbfplaaOsc2
import Derived.Test.YtgahmboecbfplaaFix5
import Derived.OwnWalk
namespace Go.Proofs.Ytgahmboecbfplaa
set_option linter.unusedVariables false
set_option linter.unusedSimpArgs false
open Go.RowKit
attribute [local go_sem] max2_mm min2_mm max_two min_two

def elOk (d rho : Int) : Prop := 0 ≤ d ∧ 0 ≤ rho ∧ rho ≤ 1000
instance (d rho : Int) : Decidable (elOk d rho) := inferInstanceAs (Decidable (_ ∧ _ ∧ _))
/-- The least and the most time that went by, at a count d. -/
def loT (d rho : Int) : Int := max (d - 1) 0 * 1000000 / (1000000 + rho)
def hiT (d rho : Int) : Int := -((-((d + 1) * 1000000)) / (1000000 - rho))
def elLo (d rho : Int) : Int := if elOk d rho then if d ≤ 1099511627776 then loT d rho else 0 else 0
def elHi (d rho : Int) : Int := if elOk d rho then if d ≤ 1099511627776 then hiT d rho else 2305843009213693952 else 0
def elE (d rho : Int) : Int := if elOk d rho then 0 else 2
theorem lo_bound {d rho : Int} (h : elOk d rho) (hd : d ≤ 1099511627776) : 0 ≤ loT d rho ∧ loT d rho ≤ 1099511627776 := by
  obtain ⟨h1, h2, h3⟩ := h
  unfold loT
  have hm : 0 < 1000000 + rho := by omega
  obtain ⟨e, e1, e2⟩ := div_parts (x := max (d - 1) 0 * 1000000) hm
  have hq : 0 ≤ max (d - 1) 0 * 1000000 / (1000000 + rho) := Int.ediv_nonneg (by omega) (by omega)
  refine ⟨hq, ?_⟩
  have : 1000000 * (max (d - 1) 0 * 1000000 / (1000000 + rho)) ≤ (1000000 + rho) * (max (d - 1) 0 * 1000000 / (1000000 + rho)) := Int.mul_le_mul_of_nonneg_right (by omega) hq
  omega
theorem hi_bound {d rho : Int} (h : elOk d rho) (hd : d ≤ 1099511627776) : 0 ≤ hiT d rho ∧ hiT d rho ≤ 1200000000000 := by
  obtain ⟨h1, h2, h3⟩ := h
  unfold hiT
  have hm : 0 < 1000000 - rho := by omega
  rw [div_neg hm]
  obtain ⟨e, e1, e2⟩ := div_parts (x := (d + 1) * 1000000) hm
  have hq : 0 ≤ (d + 1) * 1000000 / (1000000 - rho) := Int.ediv_nonneg (by omega) (by omega)
  have : 999000 * ((d + 1) * 1000000 / (1000000 - rho)) ≤ (1000000 - rho) * ((d + 1) * 1000000 / (1000000 - rho)) := Int.mul_le_mul_of_nonneg_right (by omega) hq
  generalize (d + 1) * 1000000 / (1000000 - rho) = q at *
  generalize (1000000 - rho) * q = m at *
  split <;> omega
theorem el_lo_part {d rho : Int} (h : elOk d rho) (hd : d ≤ 1099511627776) : partV (max (d - 1) 0) 1000000 (1000000 + rho) false = loT d rho := by
  obtain ⟨b1, b2⟩ := lo_bound h hd
  obtain ⟨h1, h2, h3⟩ := h
  have : partOk (max (d - 1) 0) 1000000 (1000000 + rho) := ⟨⟨by omega, by omega⟩, by omega, by omega, by omega, by omega⟩
  unfold partV partS
  rw [if_pos this, if_neg (by decide)]
  exact bnd_id ⟨by unfold loT at b1; omega, by unfold loT at b2; omega⟩
theorem el_hi_part {d rho : Int} (h : elOk d rho) (hd : d ≤ 1099511627776) : partV (d + 1) 1000000 (1000000 - rho) true = hiT d rho := by
  obtain ⟨b1, b2⟩ := hi_bound h hd
  obtain ⟨h1, h2, h3⟩ := h
  have : partOk (d + 1) 1000000 (1000000 - rho) := ⟨⟨by omega, by omega⟩, by omega, by omega, by omega, by omega⟩
  unfold partV partS
  rw [if_pos this, if_pos rfl]
  exact bnd_id ⟨by unfold hiT at b1; omega, by unfold hiT at b2; omega⟩

set_option maxHeartbeats 1000000 in
theorem osc_Elapsed (d rho : Int) (w : World) :
    Calls Try.prog 12 #[.int .i64 d, .int .i64 rho] w fun e w' => e = .returned (.tuple #[.int .i64 (elLo d rho), .int .i64 (elHi d rho), .int .i64 (elE d rho)]) ∧ Below w.heap.size w w' := by
  unfold elLo elHi elE
  by_cases h : elOk d rho
  · rw [if_pos h, if_pos h, if_pos h]
    obtain ⟨h1, h2, h3⟩ : 0 ≤ d ∧ 0 ≤ rho ∧ rho ≤ 1000 := h
    by_cases hd : d ≤ 1099511627776
    · rw [if_pos hd, if_pos hd]
      have HL := Lib.hid (el_lo_part ⟨h1, h2, h3⟩ hd)
      have HH := Lib.hid (el_hi_part ⟨h1, h2, h3⟩ hd)
      go_enter Try.func12, Try.ntmps12
      go_wp2_with (go_at_call 17; refine (fix_Part _ _ _ _ _).mono ?_; rintro e w1 ⟨rfl, k, rfl⟩; first | rw [HL.out] | rw [HH.out])
      go_ret3
      exact ⟨rfl, drew_below _ _⟩
    · rw [if_neg hd, if_neg hd]
      go_enter Try.func12, Try.ntmps12
      go_wp2_with fail
      go_ret3
      exact ⟨rfl, Below.refl _ _⟩
  · rw [if_neg h, if_neg h, if_neg h]
    have hn : d < 0 ∨ rho < 0 ∨ 1000 < rho := by unfold elOk at h; omega
    clear h
    go_enter Try.func12, Try.ntmps12
    go_wp2_with fail
    all_goals
      go_ret3
      exact ⟨rfl, Below.refl _ _⟩

set_option maxHeartbeats 1000000 in
theorem ref2_Elapsed (d rho : Int) (w : World) :
    Calls Try.prog 13 #[.int .i64 d, .int .i64 rho] w fun e w' => e = .returned (.tuple #[.int .i64 (elLo d rho), .int .i64 (elHi d rho), .int .i64 (elE d rho)]) ∧ Below w.heap.size w w' := by
  unfold elLo elHi elE
  by_cases h : elOk d rho
  · rw [if_pos h, if_pos h, if_pos h]
    obtain ⟨h1, h2, h3⟩ : 0 ≤ d ∧ 0 ≤ rho ∧ rho ≤ 1000 := h
    by_cases hd : d ≤ 1099511627776
    · rw [if_pos hd, if_pos hd]
      obtain ⟨l1, l2⟩ := lo_bound ⟨h1, h2, h3⟩ hd
      obtain ⟨u1, u2⟩ := hi_bound ⟨h1, h2, h3⟩ hd
      have hm : 0 < 1000000 - rho := by omega
      have hdn := div_neg (x := (d + 1) * 1000000) hm
      obtain ⟨e0, e1, e2⟩ := div_parts (x := (d + 1) * 1000000) hm
      have hhi : hiT d rho = -(-((d + 1) * 1000000) / (1000000 - rho)) := rfl
      rw [hdn] at hhi
      have hlo : loT d rho = max (d - 1) 0 * 1000000 / (1000000 + rho) := rfl
      obtain ⟨M, hM⟩ : ∃ M, 1000000 - rho = M := ⟨_, rfl⟩
      obtain ⟨N, hN⟩ : ∃ M, 1000000 + rho = M := ⟨_, rfl⟩
      obtain ⟨X, hX⟩ : ∃ M, (d + 1) * 1000000 = M := ⟨_, rfl⟩
      obtain ⟨Y, hY⟩ : ∃ M, max (d - 1) 0 * 1000000 = M := ⟨_, rfl⟩
      rw [hX, hM] at e0 e1 e2 hhi
      rw [hN, hY] at hlo
      obtain ⟨q, hq⟩ : ∃ q, X / M = q := ⟨_, rfl⟩
      obtain ⟨r, hr⟩ : ∃ q, X % M = q := ⟨_, rfl⟩
      obtain ⟨l, hl⟩ : ∃ q, Y / N = q := ⟨_, rfl⟩
      rw [hq, hr] at hhi
      rw [hr] at e1 e2
      rw [hl] at hlo
      rw [hlo] at l1 l2
      have q0 : 0 ≤ q := by rw [← hq]; exact Int.ediv_nonneg (by omega) (by omega)
      have q1 : 0 ≤ q ∧ q ≤ 1200000000000 := by split at hhi <;> omega
      obtain ⟨q1, q2⟩ := q1
      have HHI := Lib.hid hhi
      have HLO := Lib.hid hlo
      have tq : X.tdiv M = q := by rw [Int.tdiv_eq_ediv_of_nonneg (by omega), hq]
      have tr : X.tmod M = r := by rw [Int.tmod_eq_emod_of_nonneg (by omega), hr]
      have tl : Y.tdiv N = l := by rw [Int.tdiv_eq_ediv_of_nonneg (by omega), hl]
      have m0 : M ≠ 0 := by omega
      have n0 : N ≠ 0 := by omega
      have m1 : 0 < M := by omega
      have n1 : 0 < N := by omega
      have X0 : 0 ≤ X := by omega
      have Y0 : 0 ≤ Y := by omega
      clear hhi hlo u1 u2 hdn e0
      rcases Int.lt_or_le 0 r with hr0 | hr0
      · go_enter Try.func13, Try.ntmps13
        go_wp2_with fail
        go_ret3
        refine ⟨ret3i HLO.out.symm ?_ rfl, Below.refl _ _⟩
        rw [HHI.out, if_neg (by omega)]
        omega
      · go_enter Try.func13, Try.ntmps13
        go_wp2_with fail
        go_ret3
        exact ⟨ret3i HLO.out.symm (by rw [HHI.out, if_pos (by omega)]; omega) rfl, Below.refl _ _⟩
    · rw [if_neg hd, if_neg hd]
      go_enter Try.func13, Try.ntmps13
      go_wp2_with fail
      go_ret3
      exact ⟨rfl, Below.refl _ _⟩
  · rw [if_neg h, if_neg h, if_neg h]
    have hn : d < 0 ∨ rho < 0 ∨ 1000 < rho := by unfold elOk at h; omega
    clear h
    go_enter Try.func13, Try.ntmps13
    go_wp2_with fail
    all_goals
      go_ret3
      exact ⟨rfl, Below.refl _ _⟩
end Go.Proofs.Ytgahmboecbfplaa
