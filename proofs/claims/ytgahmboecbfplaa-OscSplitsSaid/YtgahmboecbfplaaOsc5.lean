/- Layer 2: the calls that the document fixes; the laws OscRaws, OscSays: the walks. -/
import Derived.Test.YtgahmboecbfplaaOsc4
import Derived.Test.YtgahmboecbfplaaFixO
import Derived.Handy
namespace Go.Proofs.Ytgahmboecbfplaa
set_option linter.unusedVariables false
set_option linter.unusedSimpArgs false
open Go.RowKit
attribute [local go_sem] max2_mm min2_mm max_two min_two

def wayA : Nat → Leg
  | 0 => ⟨10, -1000, by omega, by omega, by omega, by omega⟩
  | 1 => ⟨10, 1000, by omega, by omega, by omega, by omega⟩
  | _ => Leg.zero
theorem wayA_ok (w : World) (t : TypeId) : Way (w.alloc (.cells #[.int .i64 10, .int .i64 (-1000), .int .i64 10, .int .i64 1000] t)) (some ⟨w.heap.size, 0, none⟩) 2 wayA := by
  have hb := Blk.new w t #[.int .i64 10, .int .i64 (-1000), .int .i64 10, .int .i64 1000]
  refine ⟨by omega, (fun h => by cases h), fun _ => ⟨_, 0, rfl, fun i hi => ?_⟩⟩
  rcases (show i = 0 ∨ i = 1 by omega) with rfl | rfl
  · exact ⟨hb.cell 0, hb.cell 1, hb.lt⟩
  · exact ⟨hb.cell 2, hb.cell 3, hb.lt⟩
theorem awake2_ok (w : World) : Calls Try.prog 7 #[] w fun e w' => e = .returned (.bool true) ∧ Below w.heap.size w w' := by
  have HV := Lib.hid (show rawV wayA 2 10 = 9 by decide)
  have HE := Lib.hid (show rawE wayA 2 10 = 0 by decide)
  go_enter Try.func7, Try.ntmps7
  go_wp2_with (first
    | (go_at_call 8; refine (osc_Raw _ 2 2 wayA 10 _ (wayA_ok w _) (by omega)).mono ?_; rintro e w1 ⟨rfl, b1⟩; rw [HV.out, HE.out])
    | (go_at_call 12; refine (osc_Elapsed _ _ _).mono ?_; rintro e w2 ⟨rfl, b2⟩; rw [show elLo 1000000 100 = 999899 from by decide, show elHi 1000000 100 = 1000102 from by decide, show elE 1000000 100 = 0 from by decide])
    | (go_at_call 14; refine (osc_Age 10 20 _ _ _).mono ?_; rintro e w3 ⟨rfl, b3⟩; rw [show ageV 10 20 1000000 100 = .agg #[.int .i64 999909, .int .i64 1000122] from by unfold ageV; rw [if_pos (by decide), show ageLo 10 1000000 100 = 999909 from by decide, show ageHi 20 1000000 100 = 1000122 from by decide]; rfl, show ageE 10 20 1000000 100 = 0 from by decide]))
  go_ret
  have h0 := ((Below.refl w.heap.size w).alloc (Nat.le_refl _) (.cells #[.int .i64 10, .int .i64 (-1000), .int .i64 10, .int .i64 1000] 45))
  have h1 := below_then h0 h0.size b1
  have h2 := below_then h1 h1.size b2
  have h3 := below_then h2 h2.size b3
  exact ⟨rfl, h3.alloc h3.size _⟩

set_option maxHeartbeats 1000000 in
theorem oscRaws_walk (x : Value) (t : Int) (wt : (Lit.int .i64 t).wf = true) (w : World) (hx : ∃ A n c f, x = .slice A n c ∧ n ≤ c ∧ Way w A n f) :
    Calls Try.prog 3 #[x, .int .i64 t] w fun e w' => e = .returned (.bool true) ∧ Below w.heap.size w w' := by
  obtain ⟨t0, t1⟩ := bounds_i64 wt
  obtain ⟨A, n, c, f, rfl, -, hw⟩ := hx
  have hh := Held.start w
  go_enter Try.func3, Try.ntmps3
  go_wp2_with (first
    | (go_at_call 7; refine (awake2_ok _).mono ?_; rintro e w1 ⟨rfl, hb⟩; have hw := Way.below hw hb; have hh := Held.below hh hb)
    | (go_at_call 8; refine (osc_Raw _ _ _ _ _ _ hw (by omega)).mono ?_; rintro e w1 ⟨rfl, hb⟩; have hw := Way.below hw hb; have hh := Held.below hh hb)
    | (go_at_call 9; refine (ref2_Raw _ _ _ _ _ _ hw (by omega) (by omega)).mono ?_; rintro e w1 ⟨rfl, hb⟩; have hw := Way.below hw hb; have hh := Held.below hh hb)
    | (go_at_call 10; refine (osc_Check _ _ _ _ _ hw).mono ?_; rintro e w1 ⟨rfl, hb⟩; have hw := Way.below hw hb; have hh := Held.below hh hb)
    | (go_at_call 11; refine (ref2_Check _ _ _ _ _ hw).mono ?_; rintro e w1 ⟨rfl, hb⟩; have hw := Way.below hw hb; have hh := Held.below hh hb))
  go_ret
  exact ⟨rfl, hh.1⟩

theorem ageV_form (a b d rho : Int) : ∃ u v : Int, ageV a b d rho = .agg #[.int .i64 u, .int .i64 v] := by
  unfold ageV; split <;> exact ⟨_, _, rfl⟩
set_option maxHeartbeats 1000000 in
theorem oscSays_walk (x : Value) (d : Int) (wd : (Lit.int .i64 d).wf = true) (rho : Int) (wr : (Lit.int .i64 rho).wf = true) (w : World) (hx : ∃ a b : Int, x = spanV a b) :
    Calls Try.prog 4 #[x, .int .i64 d, .int .i64 rho] w fun e w' => e = .returned (.bool true) ∧ Below w.heap.size w w' := by
  clear wd wr
  obtain ⟨a, b, rfl⟩ := hx
  obtain ⟨u, v, huv⟩ := ageV_form a b d rho
  have HV := Lib.hid huv
  clear huv
  have hh := (Held.start w).push 34 #[.int .i64 a, .int .i64 b]
  have hc := hh.cells
  simp only [Cells, and_true] at hc
  unfold spanV
  go_enter Try.func4, Try.ntmps4
  go_wp2_with (first
    | (go_at_call 7; refine (awake2_ok _).mono ?_; rintro e w1 ⟨rfl, hb⟩; clear hc; have hh := (Held.below hh hb); have hc := hh.cells; simp only [Cells, and_true] at hc)
    | (go_at_call 12; refine (osc_Elapsed _ _ _).mono ?_; rintro e w1 ⟨rfl, hb⟩; clear hc; have hh := (Held.below hh hb); have hc := hh.cells; simp only [Cells, and_true] at hc)
    | (go_at_call 13; refine (ref2_Elapsed _ _ _).mono ?_; rintro e w1 ⟨rfl, hb⟩; clear hc; have hh := (Held.below hh hb); have hc := hh.cells; simp only [Cells, and_true] at hc)
    | (go_at_call 14; refine (osc_Age _ _ _ _ _).mono ?_; rintro e w1 ⟨rfl, hb⟩; rw [HV.out]; clear hc; have hh := (Held.below hh hb).push 34 #[.int .i64 u, .int .i64 v]; have hc := hh.cells; simp only [Cells, and_true] at hc)
    | (go_at_call 15; refine (ref2_Age _ _ _ _ _).mono ?_; rintro e w1 ⟨rfl, hb⟩; rw [HV.out]; clear hc; have hh := (Held.below hh hb).push 34 #[.int .i64 u, .int .i64 v]; have hc := hh.cells; simp only [Cells, and_true] at hc))
  go_ret
  exact ⟨rfl, hh.1⟩
end Go.Proofs.Ytgahmboecbfplaa
