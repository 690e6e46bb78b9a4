/- Contracts of the document's clock (sundialref17). -/
import Derived.Test.YtkngpkhagblifaaC3
namespace Go.Proofs.Ytkngpkhagblifaa
set_option linter.unusedVariables false
set_option linter.unusedSimpArgs false
open Go.RowKit
attribute [local go_sem] max2_mm min2_mm max_two min_two

def stN : St → Int
  | .unset => 0
  | .set => 1
  | .spike _ => 2
def refC (c : Ck) (last since : Int) : Array Value := #[.int .i64 c.base, .int .i64 c.at_, .int .i64 c.phase, .int .i64 last, .int .i64 since, .int .i64 c.freq, .int .i64 (stN c.st)]
/-- Block g holds the document's clock c. -/
def IsRef (w : World) (g : Nat) (c : Ck) : Prop := ∃ last since : Int, Blk w g 47 (refC c last since) ∧ (c.st = .unset ∨ last = c.at_) ∧ (∀ s, c.st = .spike s → since = s)
theorem IsRef.alloc {w : World} {g : Nat} {c : Ck} (h : IsRef w g c) (o : Obj) : IsRef (w.alloc o) g c := by
  obtain ⟨last, since, hb, hl⟩ := h
  exact ⟨last, since, hb.alloc o, hl⟩
theorem IsRef.grown {w w' : World} {g : Nat} {c : Ck} {row : Option Nat} (h : IsRef w g c) (hg : w.grownBy w' row) (hne : some g ≠ row) : IsRef w' g c := by
  obtain ⟨last, since, hb, hl⟩ := h
  exact ⟨last, since, hb.grown hg hne, hl⟩
theorem IsRef.drewN {w : World} {g : Nat} {c : Ck} (h : IsRef w g c) (n : Nat) : IsRef (w.drewN n) g c := h

theorem down_fin {a b : Int} (hb : 1 ≤ b) (hb1 : b ≤ 4611686018427387904) (h0 : -4611686018427387904 ≤ a) (h1 : a ≤ 4611686018427387904) :
    wrap64 (a.tdiv b) = a.tdiv b ∧ wrap64 (a.tdiv b * b) = a.tdiv b * b ∧ (a.tdiv b * b > a → wrap64 (a.tdiv b - 1) = a / b) ∧ (¬ a.tdiv b * b > a → a.tdiv b = a / b) := by
  have m := Int.tmod_add_mul_tdiv a b
  have e := ediv_near hb (by omega : (0 : Int) ≤ 4611686018427387904) h0 h1
  rcases Int.lt_or_le (a.tmod b) 0 with h | h
  · have q := tdiv_low' (by omega) h
    have l := Int.lt_tmod_of_pos a (show 0 < b by omega)
    have c : a.tdiv b * b = b * a.tdiv b := Int.mul_comm _ _
    refine ⟨by unfold wrap64; omega, by rw [c]; unfold wrap64; omega, fun _ => by rw [q]; unfold wrap64; omega, fun hn => absurd (by rw [c]; omega) hn⟩
  · have q := tdiv_flat' (by omega) h
    have l := Int.tmod_lt_of_pos a (show 0 < b by omega)
    have c : a.tdiv b * b = b * a.tdiv b := Int.mul_comm _ _
    refine ⟨by unfold wrap64; omega, by rw [c]; unfold wrap64; omega, fun hn => absurd hn (by rw [c]; omega), fun _ => q⟩

set_option maxHeartbeats 400000 in
theorem down_any (a b : Int) (w : World) (hb : 1 ≤ b) (hb1 : b ≤ 4611686018427387904) (h0 : -4611686018427387904 ≤ a) (h1 : a ≤ 4611686018427387904) :
    Calls Try.prog 16 #[.int .i64 a, .int .i64 b] w fun e w' => e = .returned (.int .i64 (a / b)) ∧ w = w' := by
  obtain ⟨f1, f2, f3, f4⟩ := down_fin hb hb1 h0 h1
  have F3 := Lib.hid f3
  have F4 := Lib.hid f4
  clear f3 f4
  by_cases hc : a < a.tdiv b * b
  · go_enter Try.func16, Try.ntmps16
    go_wp2
    go_ret
    exact ⟨ret1i (F3.out hc), rfl⟩
  · go_enter Try.func16, Try.ntmps16
    go_wp2
    go_ret
    exact ⟨ret1i (F4.out (by omega)), rfl⟩

theorem refS_eq {p d : Int} (hd : 0 ≤ d) (h : p < 0) : max (-(500000 * d)) (p * 1000000000) = min (max (p * 1000000000) (-500000 * d)) (500000 * d) := by omega
theorem refS_eq' {p d : Int} (hd : 0 ≤ d) (h : 0 ≤ p) : min (500000 * d) (p * 1000000000) = min (max (p * 1000000000) (-500000 * d)) (500000 * d) := by omega

set_option maxHeartbeats 400000 in
theorem rread_cells (g : Nat) (c0 c1 c2 c5 raw : Int) (w : World) (e0 : w.cell? ⟨g, 0, none⟩ = some (.int .i64 c0)) (e1 : w.cell? ⟨g, 1, none⟩ = some (.int .i64 c1)) (e2 : w.cell? ⟨g, 2, none⟩ = some (.int .i64 c2)) (e4 : w.cell? ⟨g, 5, none⟩ = some (.int .i64 c5))
   (h0 : -2305843009213693952 ≤ c0) (h0' : c0 ≤ 2305843009213693952) (h1 : 0 ≤ c1) (h1' : c1 ≤ 2305843009213693952) (h2 : -134217 ≤ c2) (h2' : c2 ≤ 134217)
   (hr : c1 ≤ raw) (hr' : raw ≤ c1 + 1099511627776) (p1 : -549755813888000000 ≤ (raw - c1) * c5) (p2 : (raw - c1) * c5 ≤ 549755813888000000):
    Calls Try.prog 13 #[.pointer (some ⟨g, 0, none⟩), .int .i64 raw] w fun e w' => e = .returned (.tuple #[.int .i64 (rdv c0 c2 c5 (raw - c1)), .int .i64 0]) ∧ ∃ n, w' = w.drewN n := by
  unfold rdv
  by_cases hc : c2 < 0
  · have k1 : IntKind.i64.wrap ((raw - c1) * c5) = (raw - c1) * c5 := wrap_i64_id (by omega) (by omega)
    have k2 : IntKind.i64.wrap ((raw - c1) * c5 + max (-(500000 * (raw - c1))) (c2 * 1000000000)) = (raw - c1) * c5 + max (-(500000 * (raw - c1))) (c2 * 1000000000) := wrap_i64_id (by omega) (by omega)
    have k3 : IntKind.i64.wrap (c0 + (raw - c1)) = c0 + (raw - c1) := wrap_i64_id (by omega) (by omega)
    have K1 := Lib.hid k1
    have K2 := Lib.hid k2
    have K3 := Lib.hid k3
    clear k1 k2 k3
    go_enter Try.func13, Try.ntmps13
    go_wp2_with fail
    have k1 := K1.out
    have k2 := K2.out
    have k3 := K3.out
    go_quiet ((go_at_call 16; exact quiet_eq (down_any _ _ _ (by omega) (by omega) (by omega) (by omega))))
    clear k1 k2 k3
    go_wp2
    go_ret2
    rw [← refS_eq (show 0 ≤ raw - c1 by omega) hc]
    exact ⟨rfl, _, rfl⟩
  · have k1 : IntKind.i64.wrap ((raw - c1) * c5) = (raw - c1) * c5 := wrap_i64_id (by omega) (by omega)
    have k2 : IntKind.i64.wrap ((raw - c1) * c5 + min (500000 * (raw - c1)) (c2 * 1000000000)) = (raw - c1) * c5 + min (500000 * (raw - c1)) (c2 * 1000000000) := wrap_i64_id (by omega) (by omega)
    have k3 : IntKind.i64.wrap (c0 + (raw - c1)) = c0 + (raw - c1) := wrap_i64_id (by omega) (by omega)
    have K1 := Lib.hid k1
    have K2 := Lib.hid k2
    have K3 := Lib.hid k3
    clear k1 k2 k3
    go_enter Try.func13, Try.ntmps13
    go_wp2_with fail
    have k1 := K1.out
    have k2 := K2.out
    have k3 := K3.out
    go_quiet ((go_at_call 16; exact quiet_eq (down_any _ _ _ (by omega) (by omega) (by omega) (by omega))))
    clear k1 k2 k3
    go_wp2
    go_ret2
    rw [← refS_eq' (show 0 ≤ raw - c1 by omega) (show 0 ≤ c2 by omega)]
    exact ⟨rfl, _, rfl⟩

set_option maxHeartbeats 400000 in
theorem rread_not (g : Nat) (c1 raw : Int) (w : World) (e1 : w.cell? ⟨g, 1, none⟩ = some (.int .i64 c1))
   (h1 : 0 ≤ c1) (h1' : c1 ≤ 2305843009213693952) (hr0 : -9223372036854775808 ≤ raw) (hr1 : raw ≤ 9223372036854775807) (hr : ¬ (c1 ≤ raw ∧ raw ≤ c1 + 1099511627776)) :
    Calls Try.prog 13 #[.pointer (some ⟨g, 0, none⟩), .int .i64 raw] w fun e w' => e = .returned (.tuple #[.int .i64 0, .int .i64 2]) ∧ ∃ n, w' = w.drewN n := by
  by_cases hlt : raw < c1
  · have b1 : decide (raw < c1) = true := decide_eq_true hlt
    go_enter Try.func13, Try.ntmps13
    go_wp2
    go_ret2
    exact ⟨rfl, 0, rfl⟩
  · have hgt : 1099511627776 < raw - c1 := by omega
    have b1 : decide (raw < c1) = false := decide_eq_false hlt
    go_enter Try.func13, Try.ntmps13
    go_wp2
    go_ret2
    exact ⟨rfl, 0, rfl⟩
theorem rread_yes {w : World} {g : Nat} {c : Ck} {B raw : Int} (h : IsRef w g c) (ok : c.Ok B) (hB : B ≤ 2305843009213693952) (hc : c.can raw) :
    Calls Try.prog 13 #[.pointer (some ⟨g, 0, none⟩), .int .i64 raw] w fun e w' => e = .returned (.tuple #[.int .i64 (c.now raw), .int .i64 0]) ∧ ∃ n, w' = w.drewN n := by
  obtain ⟨last, since, hb, _⟩ := h
  have hm := mul_between (d := raw - c.at_) (by have := hc.1; omega) ok.f0 ok.f1
  have hc1 := hc.1
  have hc2 := hc.2
  exact rread_cells g c.base c.at_ c.phase c.freq raw w (hb.cell 0) (hb.cell 1) (hb.cell 2) (hb.cell 5) (by have := ok.b0; omega) (by have := ok.b1; omega) ok.a0 ok.a1 ok.p0 ok.p1 hc.1 hc.2 (by omega) (by omega)
theorem rread_no {w : World} {g : Nat} {c : Ck} {B raw : Int} (h : IsRef w g c) (ok : c.Ok B) (hr0 : -9223372036854775808 ≤ raw) (hr1 : raw ≤ 9223372036854775807) (hc : ¬ c.can raw) :
    Calls Try.prog 13 #[.pointer (some ⟨g, 0, none⟩), .int .i64 raw] w fun e w' => e = .returned (.tuple #[.int .i64 0, .int .i64 2]) ∧ ∃ n, w' = w.drewN n := by
  obtain ⟨last, since, hb, _⟩ := h
  exact rread_not g c.at_ raw w (hb.cell 1) ok.a0 ok.a1 hr0 hr1 hc

/-! ### step, slew -/
set_option maxHeartbeats 400000 in
theorem rstep_any (g : Nat) (c0 c1 c2 c3 c4 c5 c6 : Int) (raw now off : Int) (w : World) (hb : Blk w g 47 #[.int .i64 c0, .int .i64 c1, .int .i64 c2, .int .i64 c3, .int .i64 c4, .int .i64 c5, .int .i64 c6])
    (h0 : -2305843009213693952 ≤ now) (h1 : now ≤ 2305843009213693952) (h2 : -2305843009213693952 ≤ off) (h3 : off ≤ 2305843009213693952) :
    Calls Try.prog 17 #[.pointer (some ⟨g, 0, none⟩), .int .i64 raw, .int .i64 now, .int .i64 off] w fun e w' => e = .returned (.int .i64 1) ∧
      Blk w' g 47 #[.int .i64 (bnd (now + off)), .int .i64 raw, .int .i64 0, .int .i64 raw, .int .i64 c4, .int .i64 c5, .int .i64 1] ∧ w.grownBy w' (some g) := by
  have e0 := hb.cell 0
  have e1 := hb.cell 1
  have e2 := hb.cell 2
  have e3 := hb.cell 3
  have e6 := hb.cell 6
  have f0 := hb.frozen 0
  have f1 := hb.frozen 1
  have f2 := hb.frozen 2
  have f3 := hb.frozen 3
  have f6 := hb.frozen 6
  simp at e0 e1 e2 e3 e6
  have HB := Lib.hid hb
  clear hb
  go_enter Try.func17, Try.ntmps17
  go_wp2
  go_ret
  refine ⟨rfl, ?_, ?_⟩
  · have h := ((((HB.out.set_ 0 (.int .i64 (bnd (now + off)))).set_ 1 (.int .i64 raw)).set_ 2 (.int .i64 0)).set_ 3 (.int .i64 raw)).set_ 6 (.int .i64 1)
    exact h
  · iterate 5 (refine only_setCell ?_ (.inl rfl) _)
    exact World.grownBy.refl _ _

set_option maxHeartbeats 400000 in
theorem rslew_near (g : Nat) (c0 c1 c2 c3 c4 c5 c6 : Int) (raw now off : Int) (w : World) (hb : Blk w g 47 #[.int .i64 c0, .int .i64 c1, .int .i64 c2, .int .i64 c3, .int .i64 c4, .int .i64 c5, .int .i64 c6])
    (h0 : 0 ≤ raw - c3) (h1 : raw - c3 < 1048576) :
    Calls Try.prog 18 #[.pointer (some ⟨g, 0, none⟩), .int .i64 raw, .int .i64 now, .int .i64 off] w fun e w' => e = .returned (.int .i64 0) ∧
      Blk w' g 47 #[.int .i64 now, .int .i64 raw, .int .i64 off, .int .i64 raw, .int .i64 c4, .int .i64 c5, .int .i64 1] ∧ w.grownBy w' (some g) := by
  have e0 := hb.cell 0
  have e1 := hb.cell 1
  have e2 := hb.cell 2
  have e3 := hb.cell 3
  have e6 := hb.cell 6
  have f0 := hb.frozen 0
  have f1 := hb.frozen 1
  have f2 := hb.frozen 2
  have f3 := hb.frozen 3
  have f6 := hb.frozen 6
  simp at e0 e1 e2 e3 e6
  have HB := Lib.hid hb
  clear hb
  go_enter Try.func18, Try.ntmps18
  go_wp2
  go_ret
  refine ⟨rfl, ?_, ?_⟩
  · have h := ((((HB.out.set_ 0 (.int .i64 now)).set_ 1 (.int .i64 raw)).set_ 2 (.int .i64 off)).set_ 3 (.int .i64 raw)).set_ 6 (.int .i64 1)
    exact h
  · iterate 5 (refine only_setCell ?_ (.inl rfl) _)
    exact World.grownBy.refl _ _

set_option maxHeartbeats 400000 in
theorem rslew_far (g : Nat) (c0 c1 c2 c3 c4 c5 c6 : Int) (raw now off : Int) (w : World) (hb : Blk w g 47 #[.int .i64 c0, .int .i64 c1, .int .i64 c2, .int .i64 c3, .int .i64 c4, .int .i64 c5, .int .i64 c6])
    (h0 : 1048576 ≤ raw - c3) (h1 : raw - c3 ≤ 4611686018427387904) (o0 : -134217 ≤ off) (o1 : off ≤ 134217) (q0 : -500000 ≤ c5) (q1 : c5 ≤ 500000) :
    Calls Try.prog 18 #[.pointer (some ⟨g, 0, none⟩), .int .i64 raw, .int .i64 now, .int .i64 off] w fun e w' => e = .returned (.int .i64 0) ∧
      Blk w' g 47 #[.int .i64 now, .int .i64 raw, .int .i64 off, .int .i64 raw, .int .i64 c4, .int .i64 (min (max (c5 + off * 62500000 / (raw - c3)) (-500000)) 500000), .int .i64 1] ∧ w.grownBy w' (some g) := by
  have e0 := hb.cell 0
  have e1 := hb.cell 1
  have e2 := hb.cell 2
  have e3 := hb.cell 3
  have e5 := hb.cell 5
  have e6 := hb.cell 6
  have f0 := hb.frozen 0
  have f1 := hb.frozen 1
  have f2 := hb.frozen 2
  have f3 := hb.frozen 3
  have f5 := hb.frozen 5
  have f6 := hb.frozen 6
  simp at e0 e1 e2 e3 e5 e6
  have n1 := ediv_near (x := off * 62500000) (d := raw - c3) (by omega) (show (0 : Int) ≤ 9000000000000 by omega) (by omega) (by omega)
  have n2 := n1.1
  have n3 := n1.2
  clear n1
  have HB := Lib.hid hb
  clear hb
  go_enter Try.func18, Try.ntmps18
  go_wp2_with fail
  have k1 : IntKind.i64.wrap (off * 62500000) = off * 62500000 := wrap_i64_id (by omega) (by omega)
  have k2 : IntKind.i64.wrap (raw - c3) = raw - c3 := wrap_i64_id (by omega) (by omega)
  have k3 : IntKind.i64.wrap (c5 + off * 62500000 / (raw - c3)) = c5 + off * 62500000 / (raw - c3) := wrap_i64_id (by omega) (by omega)
  have k4 : IntKind.i64.wrap (off * 62500000 / (raw - c3)) = off * 62500000 / (raw - c3) := wrap_i64_id (by omega) (by omega)
  go_quiet ((go_at_call 16; exact quiet_eq (down_any _ _ _ (by omega) (by omega) (by omega) (by omega))))
  clear k1 k2 k3 k4
  go_wp2
  go_ret
  refine ⟨rfl, ?_, ?_⟩
  · have h := ((((((HB.out.drewN nq).set_ 5 (.int .i64 (min (max (c5 + off * 62500000 / (raw - c3)) (-500000)) 500000))).set_ 0 (.int .i64 now)).set_ 1 (.int .i64 raw)).set_ 2 (.int .i64 off)).set_ 3 (.int .i64 raw)).set_ 6 (.int .i64 1)
    exact h
  · iterate 6 (refine only_setCell ?_ (.inl rfl) _)
    exact only_drewN (World.grownBy.refl _ _) _

theorem rstep_clk {w : World} {g : Nat} {c : Ck} {B raw off : Int} (h : IsRef w g c) (ok : c.Ok B) (hc : c.can raw) (h0 : -68719476736 ≤ off) (h1 : off ≤ 68719476736) (hB : B ≤ 1152921504606846976) :
    Calls Try.prog 17 #[.pointer (some ⟨g, 0, none⟩), .int .i64 raw, .int .i64 (c.now raw), .int .i64 off] w fun e w' => e = .returned (.int .i64 1) ∧ IsRef w' g (c.stepTo raw off) ∧ w.grownBy w' (some g) := by
  obtain ⟨last, since, hb, _⟩ := h
  have hn := Ck.now_ok ok hc
  refine (rstep_any g _ _ _ _ _ _ _ raw (c.now raw) off w hb (by omega) (by omega) (by omega) (by omega)).mono ?_
  rintro e w' ⟨rfl, hb', hg'⟩
  exact ⟨rfl, ⟨raw, since, hb', .inr rfl, fun s hs => by cases hs⟩, hg'⟩
theorem rslew_clk {w : World} {g : Nat} {c : Ck} {B raw off : Int} (h : IsRef w g c) (ok : c.Ok B) (hs : c.st ≠ .unset) (hc : c.can raw) (hr : raw ≤ 2305843009213693952) (h0 : small off) :
    Calls Try.prog 18 #[.pointer (some ⟨g, 0, none⟩), .int .i64 raw, .int .i64 (c.now raw), .int .i64 off] w fun e w' => e = .returned (.int .i64 0) ∧ IsRef w' g (c.slewTo raw off) ∧ w.grownBy w' (some g) := by
  obtain ⟨last, since, hb, hl, _⟩ := h
  obtain rfl : last = c.at_ := hl.resolve_left hs
  have hc1 := hc.1
  have ha := ok.a0
  by_cases hd : 1048576 ≤ raw - c.at_
  · refine (rslew_far g _ _ _ _ _ _ _ raw (c.now raw) off w hb hd (by omega) h0.1 h0.2 ok.f0 ok.f1).mono ?_
    rintro e w' ⟨rfl, hb', hg'⟩
    refine ⟨rfl, ⟨raw, since, ?_, .inr rfl, fun s hs => by cases hs⟩, hg'⟩
    have e : (c.slewTo raw off).freq = min (max (c.freq + off * 62500000 / (raw - c.at_)) (-500000)) 500000 := if_pos hd
    rw [← e] at hb'
    exact hb'
  · refine (rslew_near g _ _ _ _ _ _ _ raw (c.now raw) off w hb (by omega) (by omega)).mono ?_
    rintro e w' ⟨rfl, hb', hg'⟩
    refine ⟨rfl, ⟨raw, since, ?_, .inr rfl, fun s hs => by cases hs⟩, hg'⟩
    have e : (c.slewTo raw off).freq = c.freq := if_neg hd
    rw [← e] at hb'
    exact hb'

/-! ### Update -/
def RUpd (w : World) (g : Nat) (m : Int) (c' : Ck) (e : Ending) (w' : World) : Prop := e = .returned (.tuple #[.int .i64 m, .int .i64 0]) ∧ IsRef w' g c' ∧ w.grownBy w' (some g)
theorem st6 {w : World} {g : Nat} {c : Ck} (h : IsRef w g c) : w.cell? ⟨g, 6, none⟩ = some (.int .i64 (stN c.st)) := by
  obtain ⟨last, since, hb, _⟩ := h
  exact hb.cell 6

set_option maxHeartbeats 400000 in
theorem rupd_unset {w : World} {g : Nat} {c : Ck} {B raw off : Int} (h : IsRef w g c) (ok : c.Ok B) (hst : c.st = .unset) (hB : B ≤ 1152921504606846976) (hc : c.can raw) (h0 : -68719476736 ≤ off) (h1 : off ≤ 68719476736) :
    Calls Try.prog 14 #[.pointer (some ⟨g, 0, none⟩), .int .i64 raw, .int .i64 off] w (RUpd w g 1 (c.stepTo raw off)) := by
  have hR := rread_yes h ok (by omega) hc
  have e6 := st6 h
  rw [hst] at e6
  simp only [stN] at e6
  have HR := Lib.hid hR
  have HI := Lib.hid h
  have HO := Lib.hid ok
  have HC := Lib.hid hc
  clear hR h ok hc hst
  generalize hnow : c.now raw = now at *
  have HN := Lib.hid hnow
  clear hnow
  go_enter Try.func14, Try.ntmps14
  go_wp2_with (go_at_call 13; refine HR.out.mono ?_; rintro e w' ⟨rfl, n, rfl⟩)
  obtain rfl := HN.out
  refine (rstep_clk (HI.out.drewN n) HO.out HC.out h0 h1 hB).mono ?_
  rintro e w' ⟨rfl, hk, hg⟩
  have HK := Lib.hid hk
  have HG := Lib.hid hg
  clear hk hg
  go_wp2
  go_ret2
  exact ⟨rfl, HK.out, World.grownBy.trans (only_drewN (World.grownBy.refl _ _) _) HG.out⟩

set_option maxHeartbeats 400000 in
theorem rupd_small {w : World} {g : Nat} {c : Ck} {B raw off : Int} (h : IsRef w g c) (ok : c.Ok B) (hst : 1 ≤ stN c.st) (hst2 : stN c.st ≤ 2) (hu : c.st ≠ .unset) (hB : B ≤ 1152921504606846976) (hc : c.can raw) (hr : raw ≤ 2305843009213693952) (h0 : -134217 ≤ off) (h1 : off ≤ 134217) :
    Calls Try.prog 14 #[.pointer (some ⟨g, 0, none⟩), .int .i64 raw, .int .i64 off] w (RUpd w g 0 (c.slewTo raw off)) := by
  have hR := rread_yes h ok (by omega) hc
  have e6 := st6 h
  have hz : (stN c.st == 0) = false := beq_eq_false_iff_ne.mpr (by omega)
  generalize stN c.st = k at *
  have HR := Lib.hid hR
  have HI := Lib.hid h
  have HO := Lib.hid ok
  have HC := Lib.hid hc
  have HU := Lib.hid hu
  clear hR h ok hc hu
  generalize hnow : c.now raw = now at *
  have HN := Lib.hid hnow
  clear hnow
  go_enter Try.func14, Try.ntmps14
  go_wp2_with (go_at_call 13; refine HR.out.mono ?_; rintro e w' ⟨rfl, n, rfl⟩)
  obtain rfl := HN.out
  refine (rslew_clk (HI.out.drewN n) HO.out HU.out HC.out hr ⟨h0, h1⟩).mono ?_
  rintro e w' ⟨rfl, hk, hg⟩
  have HK := Lib.hid hk
  have HG := Lib.hid hg
  clear hk hg e6
  go_wp2
  go_ret2
  exact ⟨rfl, HK.out, World.grownBy.trans (only_drewN (World.grownBy.refl _ _) _) HG.out⟩

/-- Not small: as the walk has it. -/
theorem not_small {off : Int} (h : ¬ small off) : (decide (-134217 ≤ off) && decide (off ≤ 134217)) = false := by
  unfold small at h
  simp only [Bool.and_eq_false_iff, decide_eq_false_iff_not]
  omega

set_option maxHeartbeats 400000 in
theorem rupd_set_wide {w : World} {g : Nat} {c : Ck} {B raw off : Int} (h : IsRef w g c) (ok : c.Ok B) (hst : c.st = .set) (hB : B ≤ 1152921504606846976) (hc : c.can raw) (h0 : -68719476736 ≤ off) (h1 : off ≤ 68719476736) (hs : ¬ small off) :
    Calls Try.prog 14 #[.pointer (some ⟨g, 0, none⟩), .int .i64 raw, .int .i64 off] w (RUpd w g 2 { c with st := .spike raw }) := by
  have hR := rread_yes h ok (by omega) hc
  obtain ⟨last, since, hb, hl, _⟩ := h
  have hl' : last = c.at_ := hl.resolve_left (by rw [hst]; intro h; cases h)
  have e6 := hb.cell 6
  have e4 := hb.cell 4
  have f6 := hb.frozen 6
  have f4 := hb.frozen 4
  simp [refC, hst, stN] at e6 e4
  have HR := Lib.hid hR
  have HB := Lib.hid hb
  have HL := Lib.hid hl'
  have HS := Lib.hid hs
  clear hR hb hl hl' hs ok hc hst
  generalize hnow : c.now raw = now at *
  clear hnow
  unfold small at HS
  by_cases hlo : -134217 ≤ off
  · have b1 : decide (off ≤ 134217) = false := decide_eq_false (fun hh => HS.out ⟨hlo, hh⟩)
    have b2 : decide (-134217 ≤ off) = true := decide_eq_true hlo
    go_enter Try.func14, Try.ntmps14
    go_wp2_with (go_at_call 13; refine HR.out.mono ?_; rintro e w' ⟨rfl, n, rfl⟩)
    go_ret2
    refine ⟨rfl, ⟨last, raw, ?_, .inr HL.out, fun s hs => by injection hs⟩, ?_⟩
    · exact ((HB.out.drewN n).set_ 6 (.int .i64 2)).set_ 4 (.int .i64 raw)
    · iterate 2 (refine only_setCell ?_ (.inl rfl) _)
      exact only_drewN (World.grownBy.refl _ _) _
  · have b2 : decide (-134217 ≤ off) = false := decide_eq_false hlo
    go_enter Try.func14, Try.ntmps14
    go_wp2_with (go_at_call 13; refine HR.out.mono ?_; rintro e w' ⟨rfl, n, rfl⟩)
    go_ret2
    refine ⟨rfl, ⟨last, raw, ?_, .inr HL.out, fun s hs => by injection hs⟩, ?_⟩
    · exact ((HB.out.drewN n).set_ 6 (.int .i64 2)).set_ 4 (.int .i64 raw)
    · iterate 2 (refine only_setCell ?_ (.inl rfl) _)
      exact only_drewN (World.grownBy.refl _ _) _

end Go.Proofs.Ytkngpkhagblifaa
