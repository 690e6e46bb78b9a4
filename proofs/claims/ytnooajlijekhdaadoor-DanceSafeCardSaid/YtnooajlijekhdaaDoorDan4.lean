/- Layer 19: the calls that the document fixes; the law DanceModes. -/
import Derived.Test.YtnooajlijekhdaaDoorDan3
namespace Go.Proofs.YtnooajlijekhdaaDoor
set_option linter.unusedVariables false
set_option linter.unusedSimpArgs false
open Go.RowKit

/-- The tests, all spelt out. -/
theorem dance_TestsX (own sent heard leap ver mode str poll prec rdel rdisp rid rf org rcv tx : Int) (ho : Hd.Ok ⟨leap, ver, mode, str, poll, prec, rdel, rdisp, rid, rf, org, rcv, tx⟩) (au al : Bool) (w : World) :
    Calls Tryd.prog 10 #[.agg #[.int .u32 own, .int .u64 sent, .int .u64 heard], .agg #[.int .i64 leap, .int .i64 ver, .int .i64 mode, .int .i64 str, .int .i64 poll, .int .i64 prec, .int .u32 rdel, .int .u32 rdisp, .int .u32 rid, .int .u64 rf, .int .u64 org, .int .u64 rcv, .int .u64 tx], .bool au, .bool al] w
      fun e w' => e = .returned (.int .i64 (testV own sent heard ⟨leap, ver, mode, str, poll, prec, rdel, rdisp, rid, rf, org, rcv, tx⟩ au al)) ∧ Below w.heap.size w w' := dance_Tests own sent heard _ ho au al w
theorem ok_by {leap ver mode str poll prec rdel rdisp rid rf org rcv tx : Int} (h : 0 ≤ rdel ∧ rdel ≤ 4294967295 ∧ 0 ≤ rdisp ∧ rdisp ≤ 4294967295 ∧ 0 ≤ rid ∧ rid ≤ 4294967295 ∧ 0 ≤ rf ∧ rf ≤ 18446744073709551615 ∧ 0 ≤ tx ∧ tx ≤ 18446744073709551615) :
    Hd.Ok ⟨leap, ver, mode, str, poll, prec, rdel, rdisp, rid, rf, org, rcv, tx⟩ := ⟨h.1, h.2.1, h.2.2.1, h.2.2.2.1, h.2.2.2.2.1, h.2.2.2.2.2.1, h.2.2.2.2.2.2.1, h.2.2.2.2.2.2.2.1, h.2.2.2.2.2.2.2.2.1, h.2.2.2.2.2.2.2.2.2⟩
def goodH : Hd := ⟨0, 4, 4, 2, 0, 0, 0, 0, 0, 4, 9, 1, 5⟩
theorem goodH_ok : goodH.Ok := by constructor <;> decide
theorem goodA : testV 7 9 5 ⟨0, 4, 4, 2, 0, 0, 0, 0, 0, 4, 9, 1, 5⟩ true true = 1 := by decide
theorem goodB : testV 7 9 0 ⟨0, 4, 4, 2, 0, 0, 0, 0, 0, 4, 9, 1, 5⟩ true true = 0 := by decide
theorem rateV : codeV (⟨#[82, 65, 84, 69]⟩ : ByteArray).data.toList = 1380013125 := by decide
theorem rateE : codeE (⟨#[82, 65, 84, 69]⟩ : ByteArray).data.toList = 0 := by decide
theorem disp03 : dispV 0 3 = 2 ∧ dispE 0 3 = 0 := by decide
set_option maxRecDepth 100000 in
theorem awake_ok (w : World) : Calls Tryd.prog 7 #[] w fun e w' => e = .returned (.bool true) ∧ Below w.heap.size w w' := by
  have hh := Held.start w
  have HA := Lib.hid goodA
  have HB := Lib.hid goodB
  have HC := Lib.hid rateV
  have HD := Lib.hid rateE
  have HE := Lib.hid disp03
  go_enter Tryd.func7, Tryd.ntmps7
  go_wp2_with (first
    | (go_at_call 8; refine (dance_Dispatch _ _ _ (by omega)).mono ?_; rintro e w1 ⟨rfl, hb⟩; rw [HE.out.1, HE.out.2]; have hh := Held.below hh hb)
    | (go_at_call 12; refine (law_good _).mono ?_; rintro e w1 ⟨rfl, hb⟩; have hh := Held.below hh hb)
    | (go_at_call 10; refine (dance_TestsX _ _ _ _ _ _ _ _ _ _ _ _ _ _ _ _ (ok_by (by omega)) _ _ _).mono ?_; rintro e w1 ⟨rfl, hb⟩; (first | rw [HA.out] | rw [HB.out]); have hh := Held.below hh hb)
    | (go_at_call 16; refine (dance_Code _ _ (by decide)).mono ?_; rintro e w1 ⟨rfl, hb⟩; rw [HC.out, HD.out]; have hh := Held.below hh hb))
  go_ret
  exact ⟨rfl, hh.1⟩
set_option maxRecDepth 100000 in
theorem danceModes_walk (a : Int) (wa : (Lit.int .i64 a).wf = true) (p : Int) (wp : (Lit.int .i64 p).wf = true) (w : World) :
    Calls Tryd.prog 3 #[.int .i64 a, .int .i64 p] w fun e w' => e = .returned (.bool true) ∧ Below w.heap.size w w' := by
  have hp := bounds_i64 wp
  have HP := Lib.hid hp
  have hh := Held.start w
  clear wa wp hp
  go_enter Tryd.func3, Tryd.ntmps3
  go_wp2_with (first
    | (go_at_call 7; refine (awake_ok _).mono ?_; rintro e w1 ⟨rfl, hb⟩; have hh := Held.below hh hb)
    | (go_at_call 8; refine (dance_Dispatch _ _ _ HP.out).mono ?_; rintro e w1 ⟨rfl, hb⟩; have hh := Held.below hh hb)
    | (go_at_call 9; refine (ref_Dispatch _ _ _).mono ?_; rintro e w1 ⟨rfl, rfl⟩))
  go_ret
  exact ⟨rfl, hh.1⟩
end Go.Proofs.YtnooajlijekhdaaDoor
