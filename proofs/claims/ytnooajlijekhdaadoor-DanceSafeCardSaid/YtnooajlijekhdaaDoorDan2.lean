/- Layer 19: what is done by the modes; the example. -/
import Derived.Test.YtnooajlijekhdaaDoorDan1
import Derived.Handy
namespace Go.Proofs.YtnooajlijekhdaaDoor
set_option linter.unusedVariables false
set_option linter.unusedSimpArgs false
open Go.RowKit

def rowOk (a : Int) : Bool := decide (a = 0 ∨ a = 1 ∨ a = 2 ∨ a = 3 ∨ a = 5 ∨ a = 6)
def rowL (a : Int) : List Int := if a = 0 then [3, 0, 2, 0, 4] else if a = 1 then [1, 1, 0, 0, 0] else if a = 2 then [1, 5, 0, 0, 0] else if a = 3 then [0, 0, 0, 1, 0] else if a = 6 then [0, 0, 0, 0, 1] else [0, 0, 0, 0, 0]
def rowV (a : Int) (i : Nat) : Int := (rowL a).getD i 0
def dispOk (a p : Int) : Prop := rowOk a = true ∧ 1 ≤ p ∧ p ≤ 5
instance (a p : Int) : Decidable (dispOk a p) := by unfold dispOk; infer_instance
def dispV (a p : Int) : Int := if dispOk a p then rowV a (p - 1).toNat else 0
def dispE (a p : Int) : Int := if dispOk a p then 0 else 24

theorem row_at (a : Int) (l0 l1 l2 l3 l4 : Int) (b : Bool) (h : rowL a = [l0, l1, l2, l3, l4]) (hb : rowOk a = b) (w : World) :
    (rowV a 0 = l0 ∧ rowV a 1 = l1 ∧ rowV a 2 = l2 ∧ rowV a 3 = l3 ∧ rowV a 4 = l4) := by
  unfold rowV; rw [h]; exact ⟨rfl, rfl, rfl, rfl, rfl⟩

set_option maxRecDepth 100000 in
theorem dance_row (a : Int) (w : World) :
    Calls Tryd.prog 18 #[.int .i64 a] w fun e w' => e = .returned (.tuple #[.agg #[.int .i64 (rowV a 0), .int .i64 (rowV a 1), .int .i64 (rowV a 2), .int .i64 (rowV a 3), .int .i64 (rowV a 4)], .bool (rowOk a)]) ∧ Below w.heap.size w w' := by
  by_cases h : a = 0 ∨ a = 1 ∨ a = 2 ∨ a = 3 ∨ a = 5 ∨ a = 6
  · rcases h with rfl | rfl | rfl | rfl | rfl | rfl
    all_goals
      have hh := (Held.start w).push 51 #[.int .i64 0, .int .i64 0, .int .i64 0, .int .i64 0, .int .i64 0]
      have hc := hh.cells
      simp only [Cells, and_true] at hc
      go_enter Tryd.func18, Tryd.ntmps18
      go_wp2_with fail
      go_returns
      exact ⟨rfl, ((Held.start w).alloc _).1⟩
  · have e : rowL a = [0, 0, 0, 0, 0] := by unfold rowL; rw [if_neg (by omega), if_neg (by omega), if_neg (by omega), if_neg (by omega), if_neg (by omega)]
    obtain ⟨e0, e1, e2, e3, e4⟩ := row_at a 0 0 0 0 0 false e (decide_eq_false h) w
    rw [e0, e1, e2, e3, e4, show rowOk a = false from decide_eq_false h]
    have n0 : (a == 0) = false := beq_eq_false_iff_ne.mpr (by omega)
    have n1 : (a == 1) = false := beq_eq_false_iff_ne.mpr (by omega)
    have n2 : (a == 2) = false := beq_eq_false_iff_ne.mpr (by omega)
    have n3 : (a == 3) = false := beq_eq_false_iff_ne.mpr (by omega)
    have n5 : (a == 5) = false := beq_eq_false_iff_ne.mpr (by omega)
    have n6 : (a == 6) = false := beq_eq_false_iff_ne.mpr (by omega)
    clear h e e0 e1 e2 e3 e4
    have hh := (Held.start w).push 51 #[.int .i64 0, .int .i64 0, .int .i64 0, .int .i64 0, .int .i64 0]
    have hc := hh.cells
    simp only [Cells, and_true] at hc
    go_enter Tryd.func18, Tryd.ntmps18
    go_wp2_with fail
    go_returns
    exact ⟨rfl, ((Held.start w).alloc _).1⟩

theorem law_good (w : World) : Calls Tryd.prog 12 #[] w fun e w' => e = .returned (.agg #[.int .i64 0, .int .i64 4, .int .i64 4, .int .i64 2, .int .i64 0, .int .i64 0, .int .u32 0, .int .u32 0, .int .u32 0, .int .u64 4, .int .u64 9, .int .u64 1, .int .u64 5]) ∧ Below w.heap.size w w' := by
  go_enter Tryd.func12, Tryd.ntmps12
  go_wp2_with fail
  go_returns
  exact ⟨rfl, ((Held.start w).alloc _).1⟩
theorem fix_Long (x : Int) (hx : 0 ≤ x ∧ x ≤ 4294967295) (w : World) : Calls Tryd.prog 11 #[.int .u32 x] w fun e w' => e = .returned (.int .i64 (16 * x)) ∧ w = w' := by
  obtain ⟨h1, h2⟩ := hx
  go_enter Tryd.func11, Tryd.ntmps11
  go_wp2_with fail
  go_ret
  exact ⟨ret1i (by first | rfl | omega | (simp only [IntKind.wrap_i64]; omega)), rfl⟩
theorem ref_Long (x : Int) (hx : 0 ≤ x ∧ x ≤ 4294967295) (w : World) : Calls Tryd.prog 23 #[.int .u32 x] w fun e w' => e = .returned (.int .i64 (16 * x)) ∧ w = w' := by
  obtain ⟨h1, h2⟩ := hx
  go_enter Tryd.func23, Tryd.ntmps23
  go_wp2_with fail
  go_ret
  exact ⟨ret1i (by first | rfl | omega | (simp only [IntKind.wrap_i64]; omega)), rfl⟩

set_option maxRecDepth 100000 in
theorem dance_Dispatch (a p : Int) (w : World) (hp : -9223372036854775808 ≤ p ∧ p ≤ 9223372036854775807) :
    Calls Tryd.prog 8 #[.int .i64 a, .int .i64 p] w fun e w' => e = .returned (.tuple #[.int .i64 (dispV a p), .int .i64 (dispE a p)]) ∧ Below w.heap.size w w' := by
  have hh := Held.start w
  obtain ⟨l0, h0⟩ : ∃ x, rowV a 0 = x := ⟨_, rfl⟩
  obtain ⟨l1, h1⟩ : ∃ x, rowV a 1 = x := ⟨_, rfl⟩
  obtain ⟨l2, h2⟩ : ∃ x, rowV a 2 = x := ⟨_, rfl⟩
  obtain ⟨l3, h3⟩ : ∃ x, rowV a 3 = x := ⟨_, rfl⟩
  obtain ⟨l4, h4⟩ : ∃ x, rowV a 4 = x := ⟨_, rfl⟩
  obtain ⟨b, hb⟩ : ∃ x, rowOk a = x := ⟨_, rfl⟩
  have H0 := Lib.hid h0
  have H1 := Lib.hid h1
  have H2 := Lib.hid h2
  have H3 := Lib.hid h3
  have H4 := Lib.hid h4
  have HB := Lib.hid hb
  unfold dispV dispE
  clear h0 h1 h2 h3 h4 hb
  rcases b with _ | _
  · have hno : ¬ dispOk a p := fun h => by have := h.1; rw [HB.out] at this; cases this
    rw [if_neg hno, if_neg hno]
    clear hno
    go_enter Tryd.func8, Tryd.ntmps8
    go_wp2_with (go_at_call 18; refine (dance_row _ _).mono ?_; rintro e w1 ⟨rfl, hb⟩; rw [H0.out, H1.out, H2.out, H3.out, H4.out, HB.out]; have hh := (Held.below hh hb).push 51 #[.int .i64 l0, .int .i64 l1, .int .i64 l2, .int .i64 l3, .int .i64 l4])
    go_ret2
    exact ⟨rfl, hh.1⟩
  · by_cases hin : 1 ≤ p ∧ p ≤ 5
    · rw [if_pos ⟨HB.out, hin⟩, if_pos ⟨HB.out, hin⟩]
      obtain ⟨p1, p5⟩ := hin
      obtain rfl | rfl | rfl | rfl | rfl : p = 1 ∨ p = 2 ∨ p = 3 ∨ p = 4 ∨ p = 5 := by omega
      all_goals
        go_enter Tryd.func8, Tryd.ntmps8
        go_wp2_with (go_at_call 18; refine (dance_row _ _).mono ?_; rintro e w1 ⟨rfl, hb⟩; rw [H0.out, H1.out, H2.out, H3.out, H4.out, HB.out]; have hh := (Held.below hh hb).push 51 #[.int .i64 l0, .int .i64 l1, .int .i64 l2, .int .i64 l3, .int .i64 l4]; have hc := hh.cells; simp only [Cells, and_true] at hc)
        go_ret2
        exact ⟨by first | rw [← H0.out]; rfl | rw [← H1.out]; rfl | rw [← H2.out]; rfl | rw [← H3.out]; rfl | rw [← H4.out]; rfl, hh.1⟩
    · rw [if_neg (fun h => hin h.2), if_neg (fun h => hin h.2)]
      rcases Int.lt_or_le p 1 with h | h
      · clear hin
        go_enter Tryd.func8, Tryd.ntmps8
        go_wp2_with (go_at_call 18; refine (dance_row _ _).mono ?_; rintro e w1 ⟨rfl, hb⟩; rw [H0.out, H1.out, H2.out, H3.out, H4.out, HB.out]; have hh := (Held.below hh hb).push 51 #[.int .i64 l0, .int .i64 l1, .int .i64 l2, .int .i64 l3, .int .i64 l4])
        go_ret2
        exact ⟨rfl, hh.1⟩
      · have h5 : 5 < p := by omega
        have h1' : ¬ p < 1 := by omega
        clear hin
        go_enter Tryd.func8, Tryd.ntmps8
        go_wp2_with (go_at_call 18; refine (dance_row _ _).mono ?_; rintro e w1 ⟨rfl, hb⟩; rw [H0.out, H1.out, H2.out, H3.out, H4.out, HB.out]; have hh := (Held.below hh hb).push 51 #[.int .i64 l0, .int .i64 l1, .int .i64 l2, .int .i64 l3, .int .i64 l4])
        go_ret2
        exact ⟨rfl, hh.1⟩

set_option maxRecDepth 100000 in
theorem ref_Dispatch (a p : Int) (w : World) :
    Calls Tryd.prog 9 #[.int .i64 a, .int .i64 p] w fun e w' => e = .returned (.tuple #[.int .i64 (dispV a p), .int .i64 (dispE a p)]) ∧ w = w' := by
  by_cases hok : dispOk a p
  · obtain ⟨ha, p1, p5⟩ := hok
    have ha := of_decide_eq_true ha
    obtain rfl | rfl | rfl | rfl | rfl : p = 1 ∨ p = 2 ∨ p = 3 ∨ p = 4 ∨ p = 5 := by omega
    all_goals
      rcases ha with rfl | rfl | rfl | rfl | rfl | rfl
      all_goals
        go_enter Tryd.func9, Tryd.ntmps9
        go_wp2_with fail
        go_ret2
        exact ⟨rfl, rfl⟩
  · have hno : p < 1 ∨ (¬ p < 1 ∧ 5 < p) ∨ (¬ p < 1 ∧ ¬ 5 < p ∧ a < 0) ∨ (¬ p < 1 ∧ ¬ 5 < p ∧ ¬ a < 0 ∧ a = 4) ∨ (¬ p < 1 ∧ ¬ 5 < p ∧ ¬ a < 0 ∧ (a == 4) = false ∧ 6 < a) := by
      simp only [beq_eq_false_iff_ne]
      unfold dispOk rowOk at hok
      simp only [decide_eq_true_eq] at hok
      omega
    unfold dispV dispE
    rw [if_neg hok, if_neg hok]
    clear hok
    rcases hno with h | ⟨h1, h2⟩ | ⟨h1, h2, h3⟩ | ⟨h1, h2, h3, rfl⟩ | ⟨h1, h2, h3, h4, h5⟩
    all_goals
      go_enter Tryd.func9, Tryd.ntmps9
      go_wp2_with fail
      go_ret2
      exact ⟨rfl, rfl⟩
theorem fix_LongQ (x : Int) (hx : 0 ≤ x ∧ x ≤ 4294967295) (w : World) : Calls Tryd.prog 11 #[.int .u32 x] w fun e w' => e = .returned (.int .i64 (16 * x)) ∧ w' = w := (fix_Long x hx w).mono fun _ _ h => ⟨h.1, h.2.symm⟩
theorem ref_LongQ (x : Int) (hx : 0 ≤ x ∧ x ≤ 4294967295) (w : World) : Calls Tryd.prog 23 #[.int .u32 x] w fun e w' => e = .returned (.int .i64 (16 * x)) ∧ w' = w := (ref_Long x hx w).mono fun _ _ h => ⟨h.1, h.2.symm⟩
end Go.Proofs.YtnooajlijekhdaaDoor
