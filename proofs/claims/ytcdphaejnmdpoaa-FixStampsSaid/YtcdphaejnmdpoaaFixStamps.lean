/- The law FixStamps: the walk. -/
import Derived.Test.YtcdphaejnmdpoaaFix3
namespace Go.Proofs.Ytcdphaejnmdpoaa
set_option linter.unusedVariables false
set_option linter.unusedSimpArgs false
open Go.RowKit
attribute [local go_sem] max2_mm min2_mm max_two min_two

theorem unfV_form (s p : Int) : ∃ x y : Int, unfV s p = .agg #[.int .i64 x, .int .i64 y] := by
  unfold unfV
  split
  · exact ⟨_, _, rfl⟩
  · exact ⟨_, _, rfl⟩
set_option maxHeartbeats 1000000 in
theorem fixStamps_walk (t : Int) (wt : (Lit.int .i64 t).wf = true) (p : Int) (wp : (Lit.int .i64 p).wf = true) (s : Int) (ws : (Lit.int .u64 s).wf = true) (x : Int) (wx : (Lit.int .u32 x).wf = true) (w : World) :
    Calls Try.prog 5 #[.int .i64 t, .int .i64 p, .int .u64 s, .int .u32 x] w fun e w' => e = .returned (.bool true) ∧ Below w.heap.size w w' := by
  have hp : -9223372036854775808 ≤ p ∧ p ≤ 9223372036854775807 := by have := wp; simp [Lit.wf, IntKind.min, IntKind.max, IntKind.bits, IntKind.signed] at this; omega
  have hs : 0 ≤ s ∧ s ≤ 18446744073709551615 := by have := ws; simp [Lit.wf, IntKind.min, IntKind.max, IntKind.bits, IntKind.signed] at this; omega
  have hx : 0 ≤ x ∧ x ≤ 4294967295 := by have := wx; simp [Lit.wf, IntKind.min, IntKind.max, IntKind.bits, IntKind.signed] at this; omega
  have HP := Lib.hid hp
  have HS := Lib.hid hs
  have HX := Lib.hid hx
  clear wt wp ws wx hp hs hx
  obtain ⟨y, z, hu⟩ := unfV_form s p
  have HU := Lib.hid hu
  clear hu
  go_enter Try.func5, Try.ntmps5
  go_wp2_with (first
    | (go_at_call 9; refine (awake_ok _).mono ?_; rintro e w0 ⟨rfl, b0⟩)
    | (go_at_call 14; refine (fix_Stamp _ _).mono ?_; rintro e w1 ⟨rfl, rfl⟩)
    | (go_at_call 15; refine (ref_Stamp _ _).mono ?_; rintro e w1 ⟨rfl, rfl⟩)
    | (go_at_call 18; refine (fix_Short _ _).mono ?_; rintro e w1 ⟨rfl, rfl⟩)
    | (go_at_call 19; refine (ref_Short _ _).mono ?_; rintro e w1 ⟨rfl, rfl⟩)
    | (go_at_call 20; refine (fix_Long _ HX.out _).mono ?_; rintro e w1 ⟨rfl, rfl⟩)
    | (go_at_call 21; refine (ref_Long _ HX.out _).mono ?_; rintro e w1 ⟨rfl, rfl⟩)
    | (go_at_call 16; refine (fix_Unfold _ _ HS.out HP.out _).mono ?_; rintro e w2 ⟨rfl, b2⟩; rw [HU.out])
    | (go_at_call 17
       refine (ref_Unfold _ _ HS.out HP.out _).mono ?_
       rintro e w3 ⟨rfl, b3⟩; rw [HU.out]
       have hb := ((Blk.new w2 40 #[.int .i64 y, .int .i64 z]).below b3 (by simp)).alloc (Obj.cells #[.int .i64 y, .int .i64 z] 40)
       have c0 := hb.cell 0
       have c1 := hb.cell 1
       simp only [List.getElem?_toArray, List.getElem?_cons_zero, List.getElem?_cons_succ] at c0 c1
       clear hb))
  go_ret
  have a := (below_then b0 b0.size b2).alloc (Nat.le_trans b0.size b2.size) (Obj.cells #[.int .i64 y, .int .i64 z] 40)
  have s2 : w.heap.size ≤ (w2.alloc (Obj.cells #[.int .i64 y, .int .i64 z] 40)).heap.size := a.size
  exact ⟨rfl, (below_then a s2 b3).alloc (Nat.le_trans s2 b3.size) _⟩
end Go.Proofs.Ytcdphaejnmdpoaa
