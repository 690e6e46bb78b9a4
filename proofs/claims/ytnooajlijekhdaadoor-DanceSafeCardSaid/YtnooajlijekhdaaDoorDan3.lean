/- Layer 19: the tests. -/
import Derived.Test.YtnooajlijekhdaaDoorDan2
import Derived.Lib.QuoteBits
import Derived.Deep.DeepCutAuto
import Derived.Deep.QuietTactic
import Derived.BigQuiet
namespace Go.Proofs.YtnooajlijekhdaaDoor
set_option linter.unusedVariables false
set_option linter.unusedSimpArgs false
open Go.RowKit

/-- A header. -/
structure Hd where
  leap : Int
  ver : Int
  mode : Int
  str : Int
  poll : Int
  prec : Int
  rdel : Int
  rdisp : Int
  rid : Int
  rf : Int
  org : Int
  rcv : Int
  tx : Int
def Hd.cells (h : Hd) : Array Value := #[.int .i64 h.leap, .int .i64 h.ver, .int .i64 h.mode, .int .i64 h.str, .int .i64 h.poll, .int .i64 h.prec, .int .u32 h.rdel, .int .u32 h.rdisp, .int .u32 h.rid, .int .u64 h.rf, .int .u64 h.org, .int .u64 h.rcv, .int .u64 h.tx]
def Hd.v (h : Hd) : Value := .agg h.cells
structure Hd.Ok (h : Hd) : Prop where
  d0 : 0 ≤ h.rdel
  d1 : h.rdel ≤ 4294967295
  p0 : 0 ≤ h.rdisp
  p1 : h.rdisp ≤ 4294967295
  i0 : 0 ≤ h.rid
  i1 : h.rid ≤ 4294967295
  r0 : 0 ≤ h.rf
  r1 : h.rf ≤ 18446744073709551615
  t0 : 0 ≤ h.tx
  t1 : h.tx ≤ 18446744073709551615
def memV (own sent heard : Int) : Value := .agg #[.int .u32 own, .int .u64 sent, .int .u64 heard]

def tB0 (heard : Int) (h : Hd) : Bool := decide (h.tx = 0 ∨ h.tx ≠ heard)
def tB1 (sent : Int) (h : Hd) : Bool := decide (h.mode = 5 ∨ (sent ≠ 0 ∧ h.org = sent))
def tB2 (h : Hd) : Bool := decide (h.tx ≠ 0 ∧ (h.mode = 5 ∨ h.rcv ≠ 0))
def tB3 (h : Hd) : Bool := decide (h.leap ≠ 3 ∧ 1 ≤ h.str ∧ h.str < 16)
def tB4 (h : Hd) : Bool := decide (8 * h.rdel + 16 * h.rdisp < 1572864)
def tB5 (h : Hd) : Bool := decide ((h.rf - h.tx) % 18446744073709551616 = 0 ∨ 9223372036854775808 ≤ (h.rf - h.tx) % 18446744073709551616)
def tB6 (own : Int) (h : Hd) : Bool := decide (h.str < 2 ∨ h.rid ≠ own)
/-- Which tests fail, told as bits. -/
def sumUp (l : List Bool) : Nat → Int
  | 0 => 0
  | i + 1 => sumUp l i + (if l.getD i true then 0 else 2 ^ i)
def testL (own sent heard : Int) (h : Hd) (au al : Bool) : List Bool := [tB0 heard h, tB1 sent h, tB2 h, tB3 h, tB4 h, tB5 h, tB6 own h, au, al]
def testV (own sent heard : Int) (h : Hd) (au al : Bool) : Int := sumUp (testL own sent heard h au al) 9
theorem sumUp_bound (l : List Bool) (i : Nat) : 0 ≤ sumUp l i ∧ sumUp l i < 2 ^ i := by
  induction i with
  | zero => exact ⟨Int.le_refl _, by rw [sumUp]; decide⟩
  | succ i ih =>
    have : (0 : Int) < 2 ^ i := Int.pow_pos (by omega)
    rw [sumUp, Int.pow_succ]
    split <;> omega
theorem or_bit64 (S : Int) (i : Nat) (hi : i ≤ 8) (h0 : 0 ≤ S) (h1 : S < 2 ^ i) : bits .or .i64 S ((2 ^ i : Nat) : Int) = S + ((2 ^ i : Nat) : Int) := by
  obtain ⟨s, rfl⟩ := Int.eq_ofNat_of_zero_le h0
  have hs : s < 2 ^ i := by exact_mod_cast h1
  have hp : 2 ^ i ≤ 2 ^ 8 := Nat.pow_le_pow_right (by omega) hi
  have hp2 : (2 : Nat) ^ 8 = 256 := rfl
  show IntKind.i64.wrap ((BitVec.ofInt 64 (s : Int) ||| BitVec.ofInt 64 ((2 ^ i : Nat) : Int)).toNat : Int) = _
  rw [BitVec.toNat_or, ofInt_u64 s (by omega), ofInt_u64 (2 ^ i) (by omega), Nat.or_comm, nat_join i (2 ^ i) s (Nat.mod_self _) hs]
  rw [wrap_i64_id (by omega) (by omega)]
  omega

theorem wpQuiet_append {P : Program} {ops : Array Oper} {C : World → Prop} {R Q : Act → Prop} : ∀ (gs rest : List Oper) (a : Act), wpQuiet P ops C R gs a → (∀ a', R a' → wpQuiet P ops C Q rest a') → wpQuiet P ops C Q (gs ++ rest) a
  | [], rest, a, h, k => k a h
  | o :: gs, rest, a, h, k => by
    show if Region.wanted o (yielded ops a.tmps) then o.quiet P a C (wpQuiet P ops C Q (gs ++ rest)) else wpQuiet P ops C Q (gs ++ rest) (a.put o.dst undef)
    have h' : if Region.wanted o (yielded ops a.tmps) then o.quiet P a C (wpQuiet P ops C R gs) else wpQuiet P ops C R gs (a.put o.dst undef) := h
    split at h'
    · rename_i hw
      rw [if_pos hw]
      exact Oper.quiet_mono (fun b hb => wpQuiet_append gs rest b hb k) h'
    · rename_i hw
      rw [if_neg hw]
      exact wpQuiet_append gs rest _ h' k
theorem wpQuiet_cut {P : Program} {ops : Array Oper} {C : World → Prop} {Q : Act → Prop} {l : List Oper} {a : Act} (n : Nat) (R : Act → Prop) (h : wpQuiet P ops C R (l.take n) a) (k : ∀ a', R a' → wpQuiet P ops C Q (l.drop n) a') : wpQuiet P ops C Q l a := by
  have := wpQuiet_append (l.take n) (l.drop n) a h k
  rwa [List.take_append_drop] at this
theorem l0a (heard : Int) (h : Hd) (a : (h.tx == 0) = true) : tB0 heard h = true := by simp_all [tB0]
theorem l0b (heard : Int) (h : Hd) (a : (h.tx == 0) = false) : (h.tx != heard) = tB0 heard h := by
  have : h.tx ≠ 0 := beq_eq_false_iff_ne.1 a
  by_cases e : h.tx = heard <;> simp_all [tB0]
theorem l1a (sent : Int) (h : Hd) (a : (h.mode != 5) = false) : tB1 sent h = true := by simp_all [tB1]
theorem l1b (sent : Int) (h : Hd) (a : (h.mode != 5) = true) (b : (sent != 0) = false) : tB1 sent h = false := by simp_all [tB1]
theorem l1c (sent : Int) (h : Hd) (a : (h.mode != 5) = true) (b : (sent != 0) = true) : (h.org == sent) = tB1 sent h := by
  by_cases e : h.org = sent <;> simp_all [tB1]
theorem l2a (h : Hd) (a : (h.tx != 0) = false) : tB2 h = false := by simp_all [tB2]
theorem l2b (h : Hd) (a : (h.tx != 0) = true) (b : (h.mode != 5) = false) : tB2 h = true := by simp_all [tB2]
theorem l2c (h : Hd) (a : (h.tx != 0) = true) (b : (h.mode != 5) = true) : (h.rcv != 0) = tB2 h := by
  by_cases e : h.rcv = 0 <;> simp_all [tB2]
theorem l3a (h : Hd) (a : (h.leap != 3) = false) : tB3 h = false := by simp_all [tB3]
theorem l3b (h : Hd) (a : (h.leap != 3) = true) (b : decide ((1 : Int) ≤ h.str) = false) : tB3 h = false := by simp_all [tB3]; omega
theorem l3c (h : Hd) (a : (h.leap != 3) = true) (b : decide ((1 : Int) ≤ h.str) = true) : decide (h.str < (16 : Int)) = tB3 h := by
  have := of_decide_eq_true b
  by_cases e : h.str < 16 <;> simp_all [tB3]
theorem l4 (h : Hd) : decide (8 * h.rdel + 16 * h.rdisp < 1572864) = tB4 h := rfl
theorem l5 (h : Hd) (ho : h.Ok) : decide (wrap64 (IntKind.u64.wrap (h.rf - h.tx)) ≤ 0) = tB5 h := by
  have e : IntKind.u64.wrap (h.rf - h.tx) = (h.rf - h.tx) % 18446744073709551616 := by simp [IntKind.wrap, IntKind.bits, IntKind.signed]
  have e0 := Int.emod_nonneg (h.rf - h.tx) (show (18446744073709551616 : Int) ≠ 0 by omega)
  have e1 := Int.emod_lt_of_pos (h.rf - h.tx) (show (0 : Int) < 18446744073709551616 by omega)
  unfold tB5
  rw [e]
  generalize (h.rf - h.tx) % 18446744073709551616 = d at *
  refine decide_eq_decide.2 ?_
  unfold wrap64
  omega
theorem l6a (own : Int) (h : Hd) (a : decide (h.str < (2 : Int)) = true) : tB6 own h = true := by simp_all [tB6]
theorem l6b (own : Int) (h : Hd) (a : decide (h.str < (2 : Int)) = false) : (h.rid != own) = tB6 own h := by
  have := of_decide_eq_false a
  by_cases e : h.rid = own <;> simp_all [tB6]
def TestRel (l : List Bool) (m : Nat) (s i : Value) : Prop := ∃ k : Nat, k + m = 9 ∧ s = .int .i64 (sumUp l k) ∧ i = .int .i64 k

set_option maxRecDepth 100000 in
set_option maxHeartbeats 4000000 in
theorem dance_Tests (own sent heard : Int) (h : Hd) (ho : h.Ok) (au al : Bool) (w : World) :
    Calls Tryd.prog 10 #[memV own sent heard, h.v, .bool au, .bool al] w fun e w' => e = .returned (.int .i64 (testV own sent heard h au al)) ∧ Below w.heap.size w w' := by
  have hh := ((Held.start w).push 36 #[.int .u32 own, .int .u64 sent, .int .u64 heard]).push 35 h.cells
  rw [World.size_alloc] at hh
  have hc := hh.cells
  unfold testV
  have HL := Lib.hid (show testL own sent heard h au al = [tB0 heard h, tB1 sent h, tB2 h, tB3 h, tB4 h, tB5 h, tB6 own h, au, al] from rfl)
  obtain ⟨L, hL⟩ : ∃ L, testL own sent heard h au al = L := ⟨_, rfl⟩
  have HL2 := Lib.hid hL
  rw [hL]
  clear hL
  obtain ⟨leap, ver, mode, str, poll, prec, rdel, rdisp, rid, rf, org, rcv, tx⟩ := h
  obtain ⟨d0, d1, p0, p1, i0, i1, r0, r1, t0, t1⟩ := ho
  simp only at d0 d1 p0 p1 i0 i1 r0 r1 t0 t1
  unfold Hd.v memV
  simp only [Cells, and_true, Hd.cells] at hc hh ⊢
  go_enter Tryd.func10, Tryd.ntmps10
  go_upto_region 3 with (fail)
  have HC := Lib.hid hc
  have HHD := Lib.hid hh
  have q4 : IntKind.i64.wrap ((16 * rdel).tdiv 2) = 8 * rdel := by
    have : (16 * rdel).tdiv 2 = 8 * rdel := by rw [Int.tdiv_eq_ediv_of_nonneg (by omega)]; omega
    rw [this]
    exact wrap_i64_id (by omega) (by omega)
  obtain ⟨K, hK⟩ : ∃ K, (mode != 5) = K := ⟨_, rfl⟩
  obtain ⟨B0, hB0⟩ : ∃ B, tB0 heard ⟨leap, ver, mode, str, poll, prec, rdel, rdisp, rid, rf, org, rcv, tx⟩ = B := ⟨_, rfl⟩
  obtain ⟨B1, hB1⟩ : ∃ B, tB1 sent ⟨leap, ver, mode, str, poll, prec, rdel, rdisp, rid, rf, org, rcv, tx⟩ = B := ⟨_, rfl⟩
  obtain ⟨B2, hB2⟩ : ∃ B, tB2 ⟨leap, ver, mode, str, poll, prec, rdel, rdisp, rid, rf, org, rcv, tx⟩ = B := ⟨_, rfl⟩
  obtain ⟨B3, hB3⟩ : ∃ B, tB3 ⟨leap, ver, mode, str, poll, prec, rdel, rdisp, rid, rf, org, rcv, tx⟩ = B := ⟨_, rfl⟩
  obtain ⟨B4, hB4⟩ : ∃ B, tB4 ⟨leap, ver, mode, str, poll, prec, rdel, rdisp, rid, rf, org, rcv, tx⟩ = B := ⟨_, rfl⟩
  obtain ⟨B5, hB5⟩ : ∃ B, tB5 ⟨leap, ver, mode, str, poll, prec, rdel, rdisp, rid, rf, org, rcv, tx⟩ = B := ⟨_, rfl⟩
  obtain ⟨B6, hB6⟩ : ∃ B, tB6 own ⟨leap, ver, mode, str, poll, prec, rdel, rdisp, rid, rf, org, rcv, tx⟩ = B := ⟨_, rfl⟩
  have HB0 := Lib.hid hB0
  clear hB0
  have HB1 := Lib.hid hB1
  clear hB1
  have HB2 := Lib.hid hB2
  clear hB2
  have HB3 := Lib.hid hB3
  clear hB3
  have HB4 := Lib.hid hB4
  clear hB4
  have HB5 := Lib.hid hB5
  clear hB5
  have HB6 := Lib.hid hB6
  clear hB6
  have HK := Lib.hid hK
  rw [hK]
  clear hK
  go_cut [10, 93, 94] (fun s t i wc => s = .int .i64 0 ∧ t = .agg #[.bool B0, .bool B1, .bool B2, .bool B3, .bool B4, .bool B5, .bool B6, .bool au, .bool al] ∧ i = .int .i64 0 ∧ Held w wc [(w.heap.size + 1, 35, #[.int .i64 leap, .int .i64 ver, .int .i64 mode, .int .i64 str, .int .i64 poll, .int .i64 prec, .int .u32 rdel, .int .u32 rdisp, .int .u32 rid, .int .u64 rf, .int .u64 org, .int .u64 rcv, .int .u64 tx]), (w.heap.size, 36, #[.int .u32 own, .int .u64 sent, .int .u64 heard])])
  case first =>
    refine wp_region_quiet_lit (by kernel_rfl) (by kernel_rfl) ?_
    simp only [List.append_eq, List.cons_append, List.nil_append]
    refine wpQuiet_cut 10 (fun a' => ∃ u16 u17 u18 u19 u20 u21 u22 u23 u24 : Value, a' = (⟨List.toArray (.agg #[.int .u32 own, .int .u64 sent, .int .u64 heard] :: .agg #[.int .i64 leap, .int .i64 ver, .int .i64 mode, .int .i64 str, .int .i64 poll, .int .i64 prec, .int .u32 rdel, .int .u32 rdisp, .int .u32 rid, .int .u64 rf, .int .u64 org, .int .u64 rcv, .int .u64 tx] :: .bool au :: .bool al :: .pointer (some ⟨w.heap.size, 0, none⟩) :: .pointer (some ⟨w.heap.size + 1, 0, none⟩) :: undef :: undef :: .int .i64 0 :: .bool K :: .int .i64 0 :: undef :: undef :: .pointer (some ⟨w.heap.size + 1, 2, none⟩) :: .int .i64 mode :: .bool K :: u16 :: u17 :: u18 :: u19 :: u20 :: u21 :: u22 :: u23 :: u24 :: .bool B0 :: undef :: undef :: undef :: undef :: undef :: undef :: undef :: undef :: undef :: undef :: undef :: undef :: undef :: undef :: undef :: undef :: undef :: undef :: undef :: undef :: undef :: undef :: undef :: undef :: undef :: undef :: undef :: undef :: undef :: undef :: undef :: undef :: undef :: undef :: undef :: undef :: undef :: undef :: undef :: undef :: undef :: undef :: undef :: undef :: undef :: undef :: undef :: undef :: undef :: undef :: undef :: undef :: undef :: undef :: undef :: undef :: undef :: undef :: undef :: undef :: undef :: undef :: undef :: undef :: undef :: undef :: undef :: undef :: undef :: undef :: undef :: undef :: undef :: undef :: undef :: undef :: undef :: undef :: undef :: undef :: []), []⟩ : Act)) ?_ (fun a' ha' => ?_)
    · simp only [List.take_succ_cons, List.take_zero]
      rcases hz : (tx == 0) with _ | _
      · have e0 := (l0b heard ⟨leap, ver, mode, str, poll, prec, rdel, rdisp, rid, rf, org, rcv, tx⟩ hz).trans HB0.out
        repeat (go_big_quiet_step (first | (go_at_call 11; refine Calls.quiet_of_same (fix_LongQ _ ⟨by omega, by omega⟩ _))))
        refine wpQuiet_nil ?_
        exact ⟨_, _, _, _, _, _, _, _, _, rfl⟩
      · obtain rfl : B0 = true := HB0.out.symm.trans (l0a heard ⟨leap, ver, mode, str, poll, prec, rdel, rdisp, rid, rf, org, rcv, tx⟩ hz)
        repeat (go_big_quiet_step (first | (go_at_call 11; refine Calls.quiet_of_same (fix_LongQ _ ⟨by omega, by omega⟩ _))))
        refine wpQuiet_nil ?_
        exact ⟨_, _, _, _, _, _, _, _, _, rfl⟩
    obtain ⟨u16, u17, u18, u19, u20, u21, u22, u23, u24, rfl⟩ := ha'
    simp only [List.drop_succ_cons, List.drop_zero]
    refine wpQuiet_cut 14 (fun a' => ∃ u16 u17 u18 u19 u20 u21 u22 u23 u24 u26 u27 u28 u29 u30 u31 u32 u33 u34 u35 u36 u37 u38 : Value, a' = (⟨List.toArray (.agg #[.int .u32 own, .int .u64 sent, .int .u64 heard] :: .agg #[.int .i64 leap, .int .i64 ver, .int .i64 mode, .int .i64 str, .int .i64 poll, .int .i64 prec, .int .u32 rdel, .int .u32 rdisp, .int .u32 rid, .int .u64 rf, .int .u64 org, .int .u64 rcv, .int .u64 tx] :: .bool au :: .bool al :: .pointer (some ⟨w.heap.size, 0, none⟩) :: .pointer (some ⟨w.heap.size + 1, 0, none⟩) :: undef :: undef :: .int .i64 0 :: .bool K :: .int .i64 0 :: undef :: undef :: .pointer (some ⟨w.heap.size + 1, 2, none⟩) :: .int .i64 mode :: .bool K :: u16 :: u17 :: u18 :: u19 :: u20 :: u21 :: u22 :: u23 :: u24 :: .bool B0 :: u26 :: u27 :: u28 :: u29 :: u30 :: u31 :: u32 :: u33 :: u34 :: u35 :: u36 :: u37 :: u38 :: .bool B1 :: undef :: undef :: undef :: undef :: undef :: undef :: undef :: undef :: undef :: undef :: undef :: undef :: undef :: undef :: undef :: undef :: undef :: undef :: undef :: undef :: undef :: undef :: undef :: undef :: undef :: undef :: undef :: undef :: undef :: undef :: undef :: undef :: undef :: undef :: undef :: undef :: undef :: undef :: undef :: undef :: undef :: undef :: undef :: undef :: undef :: undef :: undef :: undef :: undef :: undef :: undef :: undef :: undef :: undef :: undef :: undef :: undef :: undef :: undef :: undef :: undef :: undef :: undef :: undef :: undef :: undef :: []), []⟩ : Act)) ?_ (fun a' ha' => ?_)
    · simp only [List.take_succ_cons, List.take_zero]
      rcases K with _ | _
      · obtain rfl : B1 = true := HB1.out.symm.trans (l1a sent ⟨leap, ver, mode, str, poll, prec, rdel, rdisp, rid, rf, org, rcv, tx⟩ HK.out)
        repeat (go_big_quiet_step (first | (go_at_call 11; refine Calls.quiet_of_same (fix_LongQ _ ⟨by omega, by omega⟩ _))))
        refine wpQuiet_nil ?_
        exact ⟨_, _, _, _, _, _, _, _, _, _, _, _, _, _, _, _, _, _, _, _, _, _, rfl⟩
      · rcases hs : (sent != 0) with _ | _
        · obtain rfl : B1 = false := HB1.out.symm.trans (l1b sent ⟨leap, ver, mode, str, poll, prec, rdel, rdisp, rid, rf, org, rcv, tx⟩ HK.out hs)
          repeat (go_big_quiet_step (first | (go_at_call 11; refine Calls.quiet_of_same (fix_LongQ _ ⟨by omega, by omega⟩ _))))
          refine wpQuiet_nil ?_
          exact ⟨_, _, _, _, _, _, _, _, _, _, _, _, _, _, _, _, _, _, _, _, _, _, rfl⟩
        · have e1 := (l1c sent ⟨leap, ver, mode, str, poll, prec, rdel, rdisp, rid, rf, org, rcv, tx⟩ HK.out hs).trans HB1.out
          repeat (go_big_quiet_step (first | (go_at_call 11; refine Calls.quiet_of_same (fix_LongQ _ ⟨by omega, by omega⟩ _))))
          refine wpQuiet_nil ?_
          exact ⟨_, _, _, _, _, _, _, _, _, _, _, _, _, _, _, _, _, _, _, _, _, _, rfl⟩
    obtain ⟨u16, u17, u18, u19, u20, u21, u22, u23, u24, u26, u27, u28, u29, u30, u31, u32, u33, u34, u35, u36, u37, u38, rfl⟩ := ha'
    simp only [List.drop_succ_cons, List.drop_zero]
    refine wpQuiet_cut 12 (fun a' => ∃ u16 u17 u18 u19 u20 u21 u22 u23 u24 u26 u27 u28 u29 u30 u31 u32 u33 u34 u35 u36 u37 u38 u40 u41 u42 u43 u44 u45 u46 u47 u48 u49 u50 : Value, a' = (⟨List.toArray (.agg #[.int .u32 own, .int .u64 sent, .int .u64 heard] :: .agg #[.int .i64 leap, .int .i64 ver, .int .i64 mode, .int .i64 str, .int .i64 poll, .int .i64 prec, .int .u32 rdel, .int .u32 rdisp, .int .u32 rid, .int .u64 rf, .int .u64 org, .int .u64 rcv, .int .u64 tx] :: .bool au :: .bool al :: .pointer (some ⟨w.heap.size, 0, none⟩) :: .pointer (some ⟨w.heap.size + 1, 0, none⟩) :: undef :: undef :: .int .i64 0 :: .bool K :: .int .i64 0 :: undef :: undef :: .pointer (some ⟨w.heap.size + 1, 2, none⟩) :: .int .i64 mode :: .bool K :: u16 :: u17 :: u18 :: u19 :: u20 :: u21 :: u22 :: u23 :: u24 :: .bool B0 :: u26 :: u27 :: u28 :: u29 :: u30 :: u31 :: u32 :: u33 :: u34 :: u35 :: u36 :: u37 :: u38 :: .bool B1 :: u40 :: u41 :: u42 :: u43 :: u44 :: u45 :: u46 :: u47 :: u48 :: u49 :: u50 :: .bool B2 :: undef :: undef :: undef :: undef :: undef :: undef :: undef :: undef :: undef :: undef :: undef :: undef :: undef :: undef :: undef :: undef :: undef :: undef :: undef :: undef :: undef :: undef :: undef :: undef :: undef :: undef :: undef :: undef :: undef :: undef :: undef :: undef :: undef :: undef :: undef :: undef :: undef :: undef :: undef :: undef :: undef :: undef :: undef :: undef :: undef :: undef :: undef :: undef :: undef :: undef :: undef :: undef :: undef :: undef :: []), []⟩ : Act)) ?_ (fun a' ha' => ?_)
    · simp only [List.take_succ_cons, List.take_zero]
      rcases hz : (tx != 0) with _ | _
      · obtain rfl : B2 = false := HB2.out.symm.trans (l2a ⟨leap, ver, mode, str, poll, prec, rdel, rdisp, rid, rf, org, rcv, tx⟩ hz)
        repeat (go_big_quiet_step (first | (go_at_call 11; refine Calls.quiet_of_same (fix_LongQ _ ⟨by omega, by omega⟩ _))))
        refine wpQuiet_nil ?_
        exact ⟨_, _, _, _, _, _, _, _, _, _, _, _, _, _, _, _, _, _, _, _, _, _, _, _, _, _, _, _, _, _, _, _, _, rfl⟩
      · rcases K with _ | _
        · obtain rfl : B2 = true := HB2.out.symm.trans (l2b ⟨leap, ver, mode, str, poll, prec, rdel, rdisp, rid, rf, org, rcv, tx⟩ hz HK.out)
          repeat (go_big_quiet_step (first | (go_at_call 11; refine Calls.quiet_of_same (fix_LongQ _ ⟨by omega, by omega⟩ _))))
          refine wpQuiet_nil ?_
          exact ⟨_, _, _, _, _, _, _, _, _, _, _, _, _, _, _, _, _, _, _, _, _, _, _, _, _, _, _, _, _, _, _, _, _, rfl⟩
        · have e2 := (l2c ⟨leap, ver, mode, str, poll, prec, rdel, rdisp, rid, rf, org, rcv, tx⟩ hz HK.out).trans HB2.out
          repeat (go_big_quiet_step (first | (go_at_call 11; refine Calls.quiet_of_same (fix_LongQ _ ⟨by omega, by omega⟩ _))))
          refine wpQuiet_nil ?_
          exact ⟨_, _, _, _, _, _, _, _, _, _, _, _, _, _, _, _, _, _, _, _, _, _, _, _, _, _, _, _, _, _, _, _, _, rfl⟩
    obtain ⟨u16, u17, u18, u19, u20, u21, u22, u23, u24, u26, u27, u28, u29, u30, u31, u32, u33, u34, u35, u36, u37, u38, u40, u41, u42, u43, u44, u45, u46, u47, u48, u49, u50, rfl⟩ := ha'
    simp only [List.drop_succ_cons, List.drop_zero]
    refine wpQuiet_cut 13 (fun a' => ∃ u16 u17 u18 u19 u20 u21 u22 u23 u24 u26 u27 u28 u29 u30 u31 u32 u33 u34 u35 u36 u37 u38 u40 u41 u42 u43 u44 u45 u46 u47 u48 u49 u50 u52 u53 u54 u55 u56 u57 u58 u59 u60 u61 u62 u63 : Value, a' = (⟨List.toArray (.agg #[.int .u32 own, .int .u64 sent, .int .u64 heard] :: .agg #[.int .i64 leap, .int .i64 ver, .int .i64 mode, .int .i64 str, .int .i64 poll, .int .i64 prec, .int .u32 rdel, .int .u32 rdisp, .int .u32 rid, .int .u64 rf, .int .u64 org, .int .u64 rcv, .int .u64 tx] :: .bool au :: .bool al :: .pointer (some ⟨w.heap.size, 0, none⟩) :: .pointer (some ⟨w.heap.size + 1, 0, none⟩) :: undef :: undef :: .int .i64 0 :: .bool K :: .int .i64 0 :: undef :: undef :: .pointer (some ⟨w.heap.size + 1, 2, none⟩) :: .int .i64 mode :: .bool K :: u16 :: u17 :: u18 :: u19 :: u20 :: u21 :: u22 :: u23 :: u24 :: .bool B0 :: u26 :: u27 :: u28 :: u29 :: u30 :: u31 :: u32 :: u33 :: u34 :: u35 :: u36 :: u37 :: u38 :: .bool B1 :: u40 :: u41 :: u42 :: u43 :: u44 :: u45 :: u46 :: u47 :: u48 :: u49 :: u50 :: .bool B2 :: u52 :: u53 :: u54 :: u55 :: u56 :: u57 :: u58 :: u59 :: u60 :: u61 :: u62 :: u63 :: .bool B3 :: undef :: undef :: undef :: undef :: undef :: undef :: undef :: undef :: undef :: undef :: undef :: undef :: undef :: undef :: undef :: undef :: undef :: undef :: undef :: undef :: undef :: undef :: undef :: undef :: undef :: undef :: undef :: undef :: undef :: undef :: undef :: undef :: undef :: undef :: undef :: undef :: undef :: undef :: undef :: undef :: undef :: []), []⟩ : Act)) ?_ (fun a' ha' => ?_)
    · simp only [List.take_succ_cons, List.take_zero]
      rcases hz : (leap != 3) with _ | _
      · obtain rfl : B3 = false := HB3.out.symm.trans (l3a ⟨leap, ver, mode, str, poll, prec, rdel, rdisp, rid, rf, org, rcv, tx⟩ hz)
        repeat (go_big_quiet_step (first | (go_at_call 11; refine Calls.quiet_of_same (fix_LongQ _ ⟨by omega, by omega⟩ _))))
        refine wpQuiet_nil ?_
        exact ⟨_, _, _, _, _, _, _, _, _, _, _, _, _, _, _, _, _, _, _, _, _, _, _, _, _, _, _, _, _, _, _, _, _, _, _, _, _, _, _, _, _, _, _, _, _, rfl⟩
      · rcases hs : decide ((1 : Int) ≤ str) with _ | _
        · obtain rfl : B3 = false := HB3.out.symm.trans (l3b ⟨leap, ver, mode, str, poll, prec, rdel, rdisp, rid, rf, org, rcv, tx⟩ hz hs)
          repeat (go_big_quiet_step (first | (go_at_call 11; refine Calls.quiet_of_same (fix_LongQ _ ⟨by omega, by omega⟩ _))))
          refine wpQuiet_nil ?_
          exact ⟨_, _, _, _, _, _, _, _, _, _, _, _, _, _, _, _, _, _, _, _, _, _, _, _, _, _, _, _, _, _, _, _, _, _, _, _, _, _, _, _, _, _, _, _, _, rfl⟩
        · have e3 := (l3c ⟨leap, ver, mode, str, poll, prec, rdel, rdisp, rid, rf, org, rcv, tx⟩ hz hs).trans HB3.out
          repeat (go_big_quiet_step (first | (go_at_call 11; refine Calls.quiet_of_same (fix_LongQ _ ⟨by omega, by omega⟩ _))))
          refine wpQuiet_nil ?_
          exact ⟨_, _, _, _, _, _, _, _, _, _, _, _, _, _, _, _, _, _, _, _, _, _, _, _, _, _, _, _, _, _, _, _, _, _, _, _, _, _, _, _, _, _, _, _, _, rfl⟩
    obtain ⟨u16, u17, u18, u19, u20, u21, u22, u23, u24, u26, u27, u28, u29, u30, u31, u32, u33, u34, u35, u36, u37, u38, u40, u41, u42, u43, u44, u45, u46, u47, u48, u49, u50, u52, u53, u54, u55, u56, u57, u58, u59, u60, u61, u62, u63, rfl⟩ := ha'
    simp only [List.drop_succ_cons, List.drop_zero]
    refine wpQuiet_cut 16 (fun a' => ∃ u16 u17 u18 u19 u20 u21 u22 u23 u24 u26 u27 u28 u29 u30 u31 u32 u33 u34 u35 u36 u37 u38 u40 u41 u42 u43 u44 u45 u46 u47 u48 u49 u50 u52 u53 u54 u55 u56 u57 u58 u59 u60 u61 u62 u63 u65 u66 u67 u68 u69 u70 u71 u72 u74 u75 u76 u77 u78 u79 : Value, a' = (⟨List.toArray (.agg #[.int .u32 own, .int .u64 sent, .int .u64 heard] :: .agg #[.int .i64 leap, .int .i64 ver, .int .i64 mode, .int .i64 str, .int .i64 poll, .int .i64 prec, .int .u32 rdel, .int .u32 rdisp, .int .u32 rid, .int .u64 rf, .int .u64 org, .int .u64 rcv, .int .u64 tx] :: .bool au :: .bool al :: .pointer (some ⟨w.heap.size, 0, none⟩) :: .pointer (some ⟨w.heap.size + 1, 0, none⟩) :: undef :: undef :: .int .i64 0 :: .bool K :: .int .i64 0 :: undef :: undef :: .pointer (some ⟨w.heap.size + 1, 2, none⟩) :: .int .i64 mode :: .bool K :: u16 :: u17 :: u18 :: u19 :: u20 :: u21 :: u22 :: u23 :: u24 :: .bool B0 :: u26 :: u27 :: u28 :: u29 :: u30 :: u31 :: u32 :: u33 :: u34 :: u35 :: u36 :: u37 :: u38 :: .bool B1 :: u40 :: u41 :: u42 :: u43 :: u44 :: u45 :: u46 :: u47 :: u48 :: u49 :: u50 :: .bool B2 :: u52 :: u53 :: u54 :: u55 :: u56 :: u57 :: u58 :: u59 :: u60 :: u61 :: u62 :: u63 :: .bool B3 :: u65 :: u66 :: u67 :: u68 :: u69 :: u70 :: u71 :: u72 :: .bool B4 :: u74 :: u75 :: u76 :: u77 :: u78 :: u79 :: .bool B5 :: undef :: undef :: undef :: undef :: undef :: undef :: undef :: undef :: undef :: undef :: undef :: undef :: undef :: undef :: undef :: undef :: undef :: undef :: undef :: undef :: undef :: undef :: undef :: undef :: undef :: []), []⟩ : Act)) ?_ (fun a' ha' => ?_)
    · simp only [List.take_succ_cons, List.take_zero]
      have e4 := (l4 ⟨leap, ver, mode, str, poll, prec, rdel, rdisp, rid, rf, org, rcv, tx⟩).trans HB4.out
      simp only at e4
      have e5 := (l5 ⟨leap, ver, mode, str, poll, prec, rdel, rdisp, rid, rf, org, rcv, tx⟩ ⟨d0, d1, p0, p1, i0, i1, r0, r1, t0, t1⟩).trans HB5.out
      simp only at e5
      repeat (go_big_quiet_step (first | (go_at_call 11; refine Calls.quiet_of_same (fix_LongQ _ ⟨by omega, by omega⟩ _))))
      refine wpQuiet_nil ?_
      exact ⟨_, _, _, _, _, _, _, _, _, _, _, _, _, _, _, _, _, _, _, _, _, _, _, _, _, _, _, _, _, _, _, _, _, _, _, _, _, _, _, _, _, _, _, _, _, _, _, _, _, _, _, _, _, _, _, _, _, _, _, rfl⟩
    obtain ⟨u16, u17, u18, u19, u20, u21, u22, u23, u24, u26, u27, u28, u29, u30, u31, u32, u33, u34, u35, u36, u37, u38, u40, u41, u42, u43, u44, u45, u46, u47, u48, u49, u50, u52, u53, u54, u55, u56, u57, u58, u59, u60, u61, u62, u63, u65, u66, u67, u68, u69, u70, u71, u72, u74, u75, u76, u77, u78, u79, rfl⟩ := ha'
    simp only [List.drop_succ_cons, List.drop_zero]
    refine wpQuiet_cut 10 (fun a' => ∃ u16 u17 u18 u19 u20 u21 u22 u23 u24 u26 u27 u28 u29 u30 u31 u32 u33 u34 u35 u36 u37 u38 u40 u41 u42 u43 u44 u45 u46 u47 u48 u49 u50 u52 u53 u54 u55 u56 u57 u58 u59 u60 u61 u62 u63 u65 u66 u67 u68 u69 u70 u71 u72 u74 u75 u76 u77 u78 u79 u81 u82 u83 u84 u85 u86 u87 u88 u89 : Value, a' = (⟨List.toArray (.agg #[.int .u32 own, .int .u64 sent, .int .u64 heard] :: .agg #[.int .i64 leap, .int .i64 ver, .int .i64 mode, .int .i64 str, .int .i64 poll, .int .i64 prec, .int .u32 rdel, .int .u32 rdisp, .int .u32 rid, .int .u64 rf, .int .u64 org, .int .u64 rcv, .int .u64 tx] :: .bool au :: .bool al :: .pointer (some ⟨w.heap.size, 0, none⟩) :: .pointer (some ⟨w.heap.size + 1, 0, none⟩) :: undef :: undef :: .int .i64 0 :: .bool K :: .int .i64 0 :: undef :: undef :: .pointer (some ⟨w.heap.size + 1, 2, none⟩) :: .int .i64 mode :: .bool K :: u16 :: u17 :: u18 :: u19 :: u20 :: u21 :: u22 :: u23 :: u24 :: .bool B0 :: u26 :: u27 :: u28 :: u29 :: u30 :: u31 :: u32 :: u33 :: u34 :: u35 :: u36 :: u37 :: u38 :: .bool B1 :: u40 :: u41 :: u42 :: u43 :: u44 :: u45 :: u46 :: u47 :: u48 :: u49 :: u50 :: .bool B2 :: u52 :: u53 :: u54 :: u55 :: u56 :: u57 :: u58 :: u59 :: u60 :: u61 :: u62 :: u63 :: .bool B3 :: u65 :: u66 :: u67 :: u68 :: u69 :: u70 :: u71 :: u72 :: .bool B4 :: u74 :: u75 :: u76 :: u77 :: u78 :: u79 :: .bool B5 :: u81 :: u82 :: u83 :: u84 :: u85 :: u86 :: u87 :: u88 :: u89 :: .bool B6 :: undef :: undef :: undef :: undef :: undef :: undef :: undef :: undef :: undef :: undef :: undef :: undef :: undef :: undef :: undef :: []), []⟩ : Act)) ?_ (fun a' ha' => ?_)
    · simp only [List.take_succ_cons, List.take_zero]
      rcases hz : decide (str < (2 : Int)) with _ | _
      · have e6 := (l6b own ⟨leap, ver, mode, str, poll, prec, rdel, rdisp, rid, rf, org, rcv, tx⟩ hz).trans HB6.out
        repeat (go_big_quiet_step (first | (go_at_call 11; refine Calls.quiet_of_same (fix_LongQ _ ⟨by omega, by omega⟩ _))))
        refine wpQuiet_nil ?_
        exact ⟨_, _, _, _, _, _, _, _, _, _, _, _, _, _, _, _, _, _, _, _, _, _, _, _, _, _, _, _, _, _, _, _, _, _, _, _, _, _, _, _, _, _, _, _, _, _, _, _, _, _, _, _, _, _, _, _, _, _, _, _, _, _, _, _, _, _, _, _, rfl⟩
      · obtain rfl : B6 = true := HB6.out.symm.trans (l6a own ⟨leap, ver, mode, str, poll, prec, rdel, rdisp, rid, rf, org, rcv, tx⟩ hz)
        repeat (go_big_quiet_step (first | (go_at_call 11; refine Calls.quiet_of_same (fix_LongQ _ ⟨by omega, by omega⟩ _))))
        refine wpQuiet_nil ?_
        exact ⟨_, _, _, _, _, _, _, _, _, _, _, _, _, _, _, _, _, _, _, _, _, _, _, _, _, _, _, _, _, _, _, _, _, _, _, _, _, _, _, _, _, _, _, _, _, _, _, _, _, _, _, _, _, _, _, _, _, _, _, _, _, _, _, _, _, _, _, _, rfl⟩
    obtain ⟨u16, u17, u18, u19, u20, u21, u22, u23, u24, u26, u27, u28, u29, u30, u31, u32, u33, u34, u35, u36, u37, u38, u40, u41, u42, u43, u44, u45, u46, u47, u48, u49, u50, u52, u53, u54, u55, u56, u57, u58, u59, u60, u61, u62, u63, u65, u66, u67, u68, u69, u70, u71, u72, u74, u75, u76, u77, u78, u79, u81, u82, u83, u84, u85, u86, u87, u88, u89, rfl⟩ := ha'
    simp only [List.drop_succ_cons, List.drop_zero]
    repeat (go_big_quiet_step (first | (go_at_call 11; refine Calls.quiet_of_same (fix_LongQ _ ⟨by omega, by omega⟩ _))))
    refine wpQuiet_nil ?_
    rintro w' ⟨nq, rfl⟩
    have hq := HHD.out.drewN nq
    go_wp2_with fail
    go_meet
    case rel => exact ⟨rfl, rfl, rfl, hq⟩
  case rest =>
    obtain ⟨rfl, rfl, rfl, hh⟩ := hcut
    have HH := Lib.hid hh
    clear hc hh
    have HLB : L = [B0, B1, B2, B3, B4, B5, B6, au, al] := by rw [← HL2.out, HL.out, HB0.out, HB1.out, HB2.out, HB3.out, HB4.out, HB5.out, HB6.out]
    have HB := Lib.hid HLB
    clear HLB HL HL2 HB0 HB1 HB2 HB3 HB4 HB5 HB6
    go_wp2_with fail
    generalize wc = W at *
    go_loopg [10, 11, 12, 94] 9 (fun m s _ _ i wr => TestRel L m s i ∧ wr = W)
    case atStart => exact ⟨⟨0, by omega, rfl, rfl⟩, rfl⟩
    case round =>
      obtain ⟨⟨k, hkm, rfl, rfl⟩, rfl⟩ := hrel
      obtain ⟨s0, s1⟩ := sumUp_bound L k
      obtain rfl | rfl | rfl | rfl | rfl | rfl | rfl | rfl | rfl | rfl : k = 0 ∨ k = 1 ∨ k = 2 ∨ k = 3 ∨ k = 4 ∨ k = 5 ∨ k = 6 ∨ k = 7 ∨ k = 8 ∨ k = 9 := by omega
      · have hor := or_bit64 (sumUp L 0) 0 (by omega) s0 s1
        have hst : sumUp L 1 = sumUp L 0 + (if B0 then 0 else 1) := by rw [sumUp, HB.out]; rfl
        obtain ⟨S, hS⟩ : ∃ S, sumUp L 0 = S := ⟨_, rfl⟩
        rw [hS] at hor hst ⊢
        simp only [show ((2 ^ 0 : Nat) : Int) = 1 from rfl] at hor
        have HST := Lib.hid hst
        have hix : ∀ w : World, (Instr.index 54 (.agg #[.bool B0, .bool B1, .bool B2, .bool B3, .bool B4, .bool B5, .bool B6, .bool au, .bool al]) (.int .i64 0)).run Tryd.prog w = .ok (.bool B0) w := fun _ => by kernel_rfl
        clear hst hS s0 s1
        rcases B0 with _ | _
        all_goals
          go_wp2_with fail
          go_roundg (gk - 1)
          case measure => omega
          case rel => exact ⟨⟨1, by omega, by rw [HST.out]; first | rfl | simp, by first | rfl | go_num⟩, rfl⟩
      · have hor := or_bit64 (sumUp L 1) 1 (by omega) s0 s1
        have hst : sumUp L 2 = sumUp L 1 + (if B1 then 0 else 2) := by rw [sumUp, HB.out]; rfl
        obtain ⟨S, hS⟩ : ∃ S, sumUp L 1 = S := ⟨_, rfl⟩
        rw [hS] at hor hst ⊢
        simp only [show ((2 ^ 1 : Nat) : Int) = 2 from rfl] at hor
        have HST := Lib.hid hst
        have hix : ∀ w : World, (Instr.index 54 (.agg #[.bool B0, .bool B1, .bool B2, .bool B3, .bool B4, .bool B5, .bool B6, .bool au, .bool al]) (.int .i64 1)).run Tryd.prog w = .ok (.bool B1) w := fun _ => by kernel_rfl
        clear hst hS s0 s1
        rcases B1 with _ | _
        all_goals
          go_wp2_with fail
          go_roundg (gk - 1)
          case measure => omega
          case rel => exact ⟨⟨2, by omega, by rw [HST.out]; first | rfl | simp, by first | rfl | go_num⟩, rfl⟩
      · have hor := or_bit64 (sumUp L 2) 2 (by omega) s0 s1
        have hst : sumUp L 3 = sumUp L 2 + (if B2 then 0 else 4) := by rw [sumUp, HB.out]; rfl
        obtain ⟨S, hS⟩ : ∃ S, sumUp L 2 = S := ⟨_, rfl⟩
        rw [hS] at hor hst ⊢
        simp only [show ((2 ^ 2 : Nat) : Int) = 4 from rfl] at hor
        have HST := Lib.hid hst
        have hix : ∀ w : World, (Instr.index 54 (.agg #[.bool B0, .bool B1, .bool B2, .bool B3, .bool B4, .bool B5, .bool B6, .bool au, .bool al]) (.int .i64 2)).run Tryd.prog w = .ok (.bool B2) w := fun _ => by kernel_rfl
        clear hst hS s0 s1
        rcases B2 with _ | _
        all_goals
          go_wp2_with fail
          go_roundg (gk - 1)
          case measure => omega
          case rel => exact ⟨⟨3, by omega, by rw [HST.out]; first | rfl | simp, by first | rfl | go_num⟩, rfl⟩
      · have hor := or_bit64 (sumUp L 3) 3 (by omega) s0 s1
        have hst : sumUp L 4 = sumUp L 3 + (if B3 then 0 else 8) := by rw [sumUp, HB.out]; rfl
        obtain ⟨S, hS⟩ : ∃ S, sumUp L 3 = S := ⟨_, rfl⟩
        rw [hS] at hor hst ⊢
        simp only [show ((2 ^ 3 : Nat) : Int) = 8 from rfl] at hor
        have HST := Lib.hid hst
        have hix : ∀ w : World, (Instr.index 54 (.agg #[.bool B0, .bool B1, .bool B2, .bool B3, .bool B4, .bool B5, .bool B6, .bool au, .bool al]) (.int .i64 3)).run Tryd.prog w = .ok (.bool B3) w := fun _ => by kernel_rfl
        clear hst hS s0 s1
        rcases B3 with _ | _
        all_goals
          go_wp2_with fail
          go_roundg (gk - 1)
          case measure => omega
          case rel => exact ⟨⟨4, by omega, by rw [HST.out]; first | rfl | simp, by first | rfl | go_num⟩, rfl⟩
      · have hor := or_bit64 (sumUp L 4) 4 (by omega) s0 s1
        have hst : sumUp L 5 = sumUp L 4 + (if B4 then 0 else 16) := by rw [sumUp, HB.out]; rfl
        obtain ⟨S, hS⟩ : ∃ S, sumUp L 4 = S := ⟨_, rfl⟩
        rw [hS] at hor hst ⊢
        simp only [show ((2 ^ 4 : Nat) : Int) = 16 from rfl] at hor
        have HST := Lib.hid hst
        have hix : ∀ w : World, (Instr.index 54 (.agg #[.bool B0, .bool B1, .bool B2, .bool B3, .bool B4, .bool B5, .bool B6, .bool au, .bool al]) (.int .i64 4)).run Tryd.prog w = .ok (.bool B4) w := fun _ => by kernel_rfl
        clear hst hS s0 s1
        rcases B4 with _ | _
        all_goals
          go_wp2_with fail
          go_roundg (gk - 1)
          case measure => omega
          case rel => exact ⟨⟨5, by omega, by rw [HST.out]; first | rfl | simp, by first | rfl | go_num⟩, rfl⟩
      · have hor := or_bit64 (sumUp L 5) 5 (by omega) s0 s1
        have hst : sumUp L 6 = sumUp L 5 + (if B5 then 0 else 32) := by rw [sumUp, HB.out]; rfl
        obtain ⟨S, hS⟩ : ∃ S, sumUp L 5 = S := ⟨_, rfl⟩
        rw [hS] at hor hst ⊢
        simp only [show ((2 ^ 5 : Nat) : Int) = 32 from rfl] at hor
        have HST := Lib.hid hst
        have hix : ∀ w : World, (Instr.index 54 (.agg #[.bool B0, .bool B1, .bool B2, .bool B3, .bool B4, .bool B5, .bool B6, .bool au, .bool al]) (.int .i64 5)).run Tryd.prog w = .ok (.bool B5) w := fun _ => by kernel_rfl
        clear hst hS s0 s1
        rcases B5 with _ | _
        all_goals
          go_wp2_with fail
          go_roundg (gk - 1)
          case measure => omega
          case rel => exact ⟨⟨6, by omega, by rw [HST.out]; first | rfl | simp, by first | rfl | go_num⟩, rfl⟩
      · have hor := or_bit64 (sumUp L 6) 6 (by omega) s0 s1
        have hst : sumUp L 7 = sumUp L 6 + (if B6 then 0 else 64) := by rw [sumUp, HB.out]; rfl
        obtain ⟨S, hS⟩ : ∃ S, sumUp L 6 = S := ⟨_, rfl⟩
        rw [hS] at hor hst ⊢
        simp only [show ((2 ^ 6 : Nat) : Int) = 64 from rfl] at hor
        have HST := Lib.hid hst
        have hix : ∀ w : World, (Instr.index 54 (.agg #[.bool B0, .bool B1, .bool B2, .bool B3, .bool B4, .bool B5, .bool B6, .bool au, .bool al]) (.int .i64 6)).run Tryd.prog w = .ok (.bool B6) w := fun _ => by kernel_rfl
        clear hst hS s0 s1
        rcases B6 with _ | _
        all_goals
          go_wp2_with fail
          go_roundg (gk - 1)
          case measure => omega
          case rel => exact ⟨⟨7, by omega, by rw [HST.out]; first | rfl | simp, by first | rfl | go_num⟩, rfl⟩
      · have hor := or_bit64 (sumUp L 7) 7 (by omega) s0 s1
        have hst : sumUp L 8 = sumUp L 7 + (if au then 0 else 128) := by rw [sumUp, HB.out]; rfl
        obtain ⟨S, hS⟩ : ∃ S, sumUp L 7 = S := ⟨_, rfl⟩
        rw [hS] at hor hst ⊢
        simp only [show ((2 ^ 7 : Nat) : Int) = 128 from rfl] at hor
        have HST := Lib.hid hst
        have hix : ∀ w : World, (Instr.index 54 (.agg #[.bool B0, .bool B1, .bool B2, .bool B3, .bool B4, .bool B5, .bool B6, .bool au, .bool al]) (.int .i64 7)).run Tryd.prog w = .ok (.bool au) w := fun _ => by kernel_rfl
        clear hst hS s0 s1
        rcases au with _ | _
        all_goals
          go_wp2_with fail
          go_roundg (gk - 1)
          case measure => omega
          case rel => exact ⟨⟨8, by omega, by rw [HST.out]; first | rfl | simp, by first | rfl | go_num⟩, rfl⟩
      · have hor := or_bit64 (sumUp L 8) 8 (by omega) s0 s1
        have hst : sumUp L 9 = sumUp L 8 + (if al then 0 else 256) := by rw [sumUp, HB.out]; rfl
        obtain ⟨S, hS⟩ : ∃ S, sumUp L 8 = S := ⟨_, rfl⟩
        rw [hS] at hor hst ⊢
        simp only [show ((2 ^ 8 : Nat) : Int) = 256 from rfl] at hor
        have HST := Lib.hid hst
        have hix : ∀ w : World, (Instr.index 54 (.agg #[.bool B0, .bool B1, .bool B2, .bool B3, .bool B4, .bool B5, .bool B6, .bool au, .bool al]) (.int .i64 8)).run Tryd.prog w = .ok (.bool al) w := fun _ => by kernel_rfl
        clear hst hS s0 s1
        rcases al with _ | _
        all_goals
          go_wp2_with fail
          go_roundg (gk - 1)
          case measure => omega
          case rel => exact ⟨⟨9, by omega, by rw [HST.out]; first | rfl | simp, by first | rfl | go_num⟩, rfl⟩
      · obtain ⟨S, hS⟩ : ∃ S, sumUp L 9 = S := ⟨_, rfl⟩
        rw [hS]
        have HS := Lib.hid hS
        clear hS s0 s1
        go_wp2_with fail
        go_ret
        exact ⟨by rw [HS.out]; rfl, HH.out.1⟩
end Go.Proofs.YtnooajlijekhdaaDoor
