/- Layer 19: Kiss. -/
import Derived.Test.YtnooajlijekhdaaDoorDan4
import Derived.Laws.BytesArg
namespace Go.Proofs.YtnooajlijekhdaaDoor
set_option linter.unusedVariables false
set_option linter.unusedSimpArgs false
open Go.RowKit

def kissB (r : Int) (i : Nat) : Int := r / 2 ^ (24 - 8 * i) % 256
def kissS (r : Int) : ByteArray := strOfNums [kissB r 0, kissB r 1, kissB r 2, kissB r 3]
def kissOk (h : Hd) : Prop := h.mode = 4 ∧ h.str = 0 ∧ isCap (kissS h.rid).data.toList
instance (h : Hd) : Decidable (kissOk h) := by unfold kissOk; infer_instance
def kissV (h : Hd) : ByteArray := if kissOk h then kissS h.rid else ⟨#[]⟩
def kc (b0 b1 b2 b3 : Int) : Nat → Array Value
  | 0 => #[.int .u8 0, .int .u8 0, .int .u8 0, .int .u8 0]
  | 1 => #[.int .u8 b0, .int .u8 0, .int .u8 0, .int .u8 0]
  | 2 => #[.int .u8 b0, .int .u8 b1, .int .u8 0, .int .u8 0]
  | 3 => #[.int .u8 b0, .int .u8 b1, .int .u8 b2, .int .u8 0]
  | _ => #[.int .u8 b0, .int .u8 b1, .int .u8 b2, .int .u8 b3]
def KissRel (W : World) (b0 b1 b2 b3 : Int) (m : Nat) (i : Value) (wr : World) : Prop := ∃ k : Nat, k + m = 4 ∧ i = .int .i64 k ∧ wr = W.alloc (.cells (kc b0 b1 b2 b3 k) 56)
set_option maxRecDepth 100000 in
set_option maxHeartbeats 1000000 in
theorem dance_Kiss (h : Hd) (ho : h.Ok) (w : World) :
    Calls Tryd.prog 13 #[h.v] w fun e w' => e = .returned (.tuple #[.string (kissV h), .bool (decide (kissOk h))]) ∧ Below w.heap.size w w' := by
  obtain ⟨leap, ver, mode, str, poll, prec, rdel, rdisp, rid, rf, org, rcv, tx⟩ := h
  obtain ⟨d0, d1, p0, p1, i0, i1, r0, r1, t0, t1⟩ := ho
  simp only at d0 d1 p0 p1 i0 i1 r0 r1 t0 t1
  have HK : kissOk ⟨leap, ver, mode, str, poll, prec, rdel, rdisp, rid, rf, org, rcv, tx⟩ ↔ mode = 4 ∧ str = 0 ∧ isCap (kissS rid).data.toList := Iff.rfl
  unfold Hd.v
  simp only [Hd.cells]
  obtain ⟨V, hV⟩ : ∃ V, kissV ⟨leap, ver, mode, str, poll, prec, rdel, rdisp, rid, rf, org, rcv, tx⟩ = V := ⟨_, rfl⟩
  obtain ⟨D, hD⟩ : ∃ D, decide (kissOk ⟨leap, ver, mode, str, poll, prec, rdel, rdisp, rid, rf, org, rcv, tx⟩) = D := ⟨_, rfl⟩
  rw [hV, hD]
  have HV := Lib.hid hV
  have HD := Lib.hid hD
  clear hV hD
  have hh := ((Held.start w).push 35 #[.int .i64 leap, .int .i64 ver, .int .i64 mode, .int .i64 str, .int .i64 poll, .int .i64 prec, .int .u32 rdel, .int .u32 rdisp, .int .u32 rid, .int .u64 rf, .int .u64 org, .int .u64 rcv, .int .u64 tx])
  obtain ⟨b0, hb0⟩ : ∃ b, kissB rid 0 = b := ⟨_, rfl⟩
  obtain ⟨b1, hb1⟩ : ∃ b, kissB rid 1 = b := ⟨_, rfl⟩
  obtain ⟨b2, hb2⟩ : ∃ b, kissB rid 2 = b := ⟨_, rfl⟩
  obtain ⟨b3, hb3⟩ : ∃ b, kissB rid 3 = b := ⟨_, rfl⟩
  have HB0 := Lib.hid hb0
  have HB1 := Lib.hid hb1
  have HB2 := Lib.hid hb2
  have HB3 := Lib.hid hb3
  have HHK := Lib.hid HK
  clear HK hb0 hb1 hb2 hb3
  go_enter Tryd.func13, Tryd.ntmps13
  go_wp2_with fail
  go_loopg [5, 7] 4 (fun m _ i wr => KissRel (w.alloc (.cells #[.int .i64 leap, .int .i64 ver, .int .i64 mode, .int .i64 str, .int .i64 poll, .int .i64 prec, .int .u32 rdel, .int .u32 rdisp, .int .u32 rid, .int .u64 rf, .int .u64 org, .int .u64 rcv, .int .u64 tx] 35)) b0 b1 b2 b3 m i wr)
  case atStart => exact ⟨0, by omega, rfl, rfl⟩
  case round =>
    obtain ⟨k, hkm, rfl, rfl⟩ := hrel
    obtain rfl | rfl | rfl | rfl | rfl : k = 0 ∨ k = 1 ∨ k = 2 ∨ k = 3 ∨ k = 4 := by omega
    · have e0 : rid / 16777216 = b0 := by have : rid / 16777216 % 256 = b0 := HB0.out; omega
      simp only [kc]
      go_wp2_with fail
      go_roundg (gk - 1)
      case measure => omega
      case rel => exact ⟨1, by omega, rfl, rfl⟩
    · have e1 : rid / 65536 % 256 = b1 := HB1.out
      simp only [kc]
      go_wp2_with fail
      go_roundg (gk - 1)
      case measure => omega
      case rel => exact ⟨2, by omega, rfl, rfl⟩
    · have e2 : rid / 256 % 256 = b2 := HB2.out
      simp only [kc]
      go_wp2_with fail
      go_roundg (gk - 1)
      case measure => omega
      case rel => exact ⟨3, by omega, rfl, rfl⟩
    · have e3 : rid % 256 = b3 := by have : rid / 1 % 256 = b3 := HB3.out; rwa [Int.ediv_one] at this
      simp only [kc]
      go_wp2_with fail
      go_roundg (gk - 1)
      case measure => omega
      case rel => exact ⟨4, by omega, rfl, rfl⟩
    · simp only [kc]
      obtain ⟨S, hS⟩ : ∃ S, kissS rid = S := ⟨_, rfl⟩
      have hcv : (convert 57 9 (.slice (some ⟨w.heap.size + 1, 0, none⟩) 4 4)).run Tryd.prog ((w.alloc (.cells #[.int .i64 leap, .int .i64 ver, .int .i64 mode, .int .i64 str, .int .i64 poll, .int .i64 prec, .int .u32 rdel, .int .u32 rdisp, .int .u32 rid, .int .u64 rf, .int .u64 org, .int .u64 rcv, .int .u64 tx] 35)).alloc (.cells #[.int .u8 b0, .int .u8 b1, .int .u8 b2, .int .u8 b3] 56)) = .ok (.string S) ((w.alloc (.cells #[.int .i64 leap, .int .i64 ver, .int .i64 mode, .int .i64 str, .int .i64 poll, .int .i64 prec, .int .u32 rdel, .int .u32 rdisp, .int .u32 rid, .int .u64 rf, .int .u64 org, .int .u64 rcv, .int .u64 tx] 35)).alloc (.cells #[.int .u8 b0, .int .u8 b1, .int .u8 b2, .int .u8 b3] 56)) := by
        have := run_convert_bytes_arg (P := Tryd.prog) ((w.alloc (.cells #[.int .i64 leap, .int .i64 ver, .int .i64 mode, .int .i64 str, .int .i64 poll, .int .i64 prec, .int .u32 rdel, .int .u32 rdisp, .int .u32 rid, .int .u64 rf, .int .u64 org, .int .u64 rcv, .int .u64 tx] 35)).alloc (.cells #[.int .u8 b0, .int .u8 b1, .int .u8 b2, .int .u8 b3] 56)) 57 5 Tryd.underlying57 Tryd.underlying5 (w.heap.size + 1) 0 4 4 [b0, b1, b2, b3] rfl (fun i hi => by
          have hb := (((Held.start w).push 35 #[.int .i64 leap, .int .i64 ver, .int .i64 mode, .int .i64 str, .int .i64 poll, .int .i64 prec, .int .u32 rdel, .int .u32 rdisp, .int .u32 rid, .int .u64 rf, .int .u64 org, .int .u64 rcv, .int .u64 tx]).push 56 #[.int .u8 b0, .int .u8 b1, .int .u8 b2, .int .u8 b3]).cells.1 i
          rw [World.size_alloc] at hb
          rw [Nat.zero_add, hb]
          have : i = 0 ∨ i = 1 ∨ i = 2 ∨ i = 3 := by omega
          rcases this with rfl | rfl | rfl | rfl <;> rfl) 9 Tryd.underlying9
        rw [this, ← hS, kissS, HB0.out, HB1.out, HB2.out, HB3.out]
      have hh2 := hh.push 56 #[.int .u8 b0, .int .u8 b1, .int .u8 b2, .int .u8 b3]
      have hsz : S.size ≤ 9223372036854775807 := by rw [← hS]; show 4 ≤ 9223372036854775807; decide
      have HS := Lib.hid hS
      have HH := Lib.hid hh2
      clear hS hh hh2
      by_cases hm : mode = 4
      · by_cases hst : str = 0
        · obtain ⟨c, hc⟩ : ∃ c, decide (isCap S.data.toList) = c := ⟨_, rfl⟩
          have HC := Lib.hid hc
          clear hc
          rcases c with _ | _
          · have hno : ¬ kissOk ⟨leap, ver, mode, str, poll, prec, rdel, rdisp, rid, rf, org, rcv, tx⟩ := fun h => by
              have := (HHK.out.1 h).2.2
              rw [HS.out] at this
              exact absurd (decide_eq_true this) (by rw [HC.out]; decide)
            obtain rfl : D = false := by rw [← HD.out]; exact decide_eq_false hno
            obtain rfl : V = ⟨#[]⟩ := by rw [← HV.out]; exact if_neg hno
            subst hm hst
            clear hno
            go_wp2_with (go_at_call 19; refine (dance_capital _ _ hsz).mono ?_; rintro e w1 ⟨rfl, hb⟩; rw [HC.out]; have hh := Held.below HH.out hb)
            go_ret2
            exact ⟨rfl, hh.1⟩
          · have hyes : kissOk ⟨leap, ver, mode, str, poll, prec, rdel, rdisp, rid, rf, org, rcv, tx⟩ := HHK.out.2 ⟨hm, hst, by rw [HS.out]; exact of_decide_eq_true HC.out⟩
            obtain rfl : D = true := by rw [← HD.out]; exact decide_eq_true hyes
            obtain rfl : V = S := by rw [← HV.out, ← HS.out]; exact if_pos hyes
            subst hm hst
            clear hyes
            go_wp2_with (go_at_call 19; refine (dance_capital _ _ hsz).mono ?_; rintro e w1 ⟨rfl, hb⟩; rw [HC.out]; have hh := Held.below HH.out hb)
            go_ret2
            exact ⟨rfl, hh.1⟩
        · have hno : ¬ kissOk ⟨leap, ver, mode, str, poll, prec, rdel, rdisp, rid, rf, org, rcv, tx⟩ := fun h => hst (HHK.out.1 h).2.1
          obtain rfl : D = false := by rw [← HD.out]; exact decide_eq_false hno
          obtain rfl : V = ⟨#[]⟩ := by rw [← HV.out]; exact if_neg hno
          have n2 : (str == 0) = false := beq_eq_false_iff_ne.mpr hst
          subst hm
          clear hno hst
          go_wp2_with fail
          go_ret2
          exact ⟨rfl, HH.out.1⟩
      · have hno : ¬ kissOk ⟨leap, ver, mode, str, poll, prec, rdel, rdisp, rid, rf, org, rcv, tx⟩ := fun h => hm (HHK.out.1 h).1
        obtain rfl : D = false := by rw [← HD.out]; exact decide_eq_false hno
        obtain rfl : V = ⟨#[]⟩ := by rw [← HV.out]; exact if_neg hno
        have n1 : (mode == 4) = false := beq_eq_false_iff_ne.mpr hm
        clear hno hm
        go_wp2_with fail
        go_ret2
        exact ⟨rfl, HH.out.1⟩
end Go.Proofs.YtnooajlijekhdaaDoor
