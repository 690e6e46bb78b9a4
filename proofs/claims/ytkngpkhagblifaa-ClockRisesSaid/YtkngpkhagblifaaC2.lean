/- Contracts of the program's clock: Update, Freq, Spiking, New. -/
import Derived.Test.YtkngpkhagblifaaC1
namespace Go.Proofs.Ytkngpkhagblifaa
set_option linter.unusedVariables false
set_option linter.unusedSimpArgs false
open Go.RowKit
attribute [local go_sem] max2_mm min2_mm max_two min_two

set_option maxHeartbeats 400000 in
theorem moved_any (g : Nat) (c0 c1 c2 c3 c4 : Int) (st : Value) (raw base phase : Int) (w : World) (hb : Blk w g 55 #[.int .i64 c0, .int .i64 c1, .int .i64 c2, .int .i64 c3, .int .i64 c4, st]) :
    Calls Try.prog 39 #[.pointer (some ⟨g, 0, none⟩), .int .i64 raw, .int .i64 base, .int .i64 phase] w fun e w' => e = .returned (.tuple #[]) ∧
      Blk w' g 55 #[.int .i64 base, .int .i64 raw, .int .i64 phase, .int .i64 raw, .int .i64 c4, .iface 82 (.agg #[])] ∧ w.grownBy w' (some g) := by
  have e0 := hb.cell 0
  have e1 := hb.cell 1
  have e2 := hb.cell 2
  have e3 := hb.cell 3
  have e5 := hb.cell 5
  have f0 := hb.frozen 0
  have f1 := hb.frozen 1
  have f2 := hb.frozen 2
  have f3 := hb.frozen 3
  have f5 := hb.frozen 5
  simp at e0 e1 e2 e3 e5
  have HB := Lib.hid hb
  clear hb
  go_enter Try.func39, Try.ntmps39
  go_wp2
  go_end0
  refine ⟨rfl, ?_, ?_⟩
  · have h := ((((HB.out.set_ 0 (.int .i64 base)).set_ 1 (.int .i64 raw)).set_ 2 (.int .i64 phase)).set_ 3 (.int .i64 raw)).set_ 5 (.iface 82 (.agg #[]))
    exact h
  · iterate 5 (refine only_setCell ?_ (.inl rfl) _)
    exact World.grownBy.refl _ _

set_option maxHeartbeats 400000 in
theorem step_any (g : Nat) (c0 c1 c2 c3 c4 : Int) (st : Value) (raw now off : Int) (w : World) (hb : Blk w g 55 #[.int .i64 c0, .int .i64 c1, .int .i64 c2, .int .i64 c3, .int .i64 c4, st])
    (h0 : -2305843009213693952 ≤ now) (h1 : now ≤ 2305843009213693952) (h2 : -2305843009213693952 ≤ off) (h3 : off ≤ 2305843009213693952) :
    Calls Try.prog 37 #[.pointer (some ⟨g, 0, none⟩), .int .i64 raw, .int .i64 now, .int .i64 off] w fun e w' => e = .returned (.int .i64 1) ∧
      Blk w' g 55 #[.int .i64 (bnd (now + off)), .int .i64 raw, .int .i64 0, .int .i64 raw, .int .i64 c4, .iface 82 (.agg #[])] ∧ w.grownBy w' (some g) := by
  have HB := Lib.hid hb
  clear hb
  go_enter Try.func37, Try.ntmps37
  go_wp2_with (first | (go_at_call 39; refine (moved_any _ _ _ _ _ _ _ _ _ _ _ HB.out).mono ?_; rintro e w' ⟨rfl, hb', hg'⟩) | go_in)
  go_ret
  exact ⟨rfl, hb', hg'⟩

set_option maxHeartbeats 400000 in
theorem slew_near (g : Nat) (c0 c1 c2 c3 c4 : Int) (st : Value) (raw now off : Int) (w : World) (hb : Blk w g 55 #[.int .i64 c0, .int .i64 c1, .int .i64 c2, .int .i64 c3, .int .i64 c4, st])
    (h0 : 0 ≤ raw - c3) (h1 : raw - c3 < 1048576) :
    Calls Try.prog 44 #[.pointer (some ⟨g, 0, none⟩), .int .i64 raw, .int .i64 now, .int .i64 off] w fun e w' => e = .returned (.int .i64 0) ∧
      Blk w' g 55 #[.int .i64 now, .int .i64 raw, .int .i64 off, .int .i64 raw, .int .i64 c4, .iface 82 (.agg #[])] ∧ w.grownBy w' (some g) := by
  have e3 := hb.cell 3
  simp at e3
  have HB := Lib.hid hb
  clear hb
  go_enter Try.func44, Try.ntmps44
  go_wp2_with (first | (go_at_call 39; refine (moved_any _ _ _ _ _ _ _ _ _ _ _ HB.out).mono ?_; rintro e w' ⟨rfl, hb', hg'⟩) | go_in)
  go_ret
  exact ⟨rfl, hb', hg'⟩


theorem slew_low {f x d : Int} (h0 : -500000 ≤ f) (h1 : f ≤ 500000) (hd : 0 < d) (a0 : -9000000000000 ≤ x) (a1 : x ≤ 9000000000000) (h : x.tmod d < 0) :
    min (max (wrap64 (f + wrap64 (x.tdiv d - 1))) (-500000)) 500000 = min (max (f + x / d) (-500000)) 500000 := by
  rw [tdiv_low' hd h]
  have := ediv_near (show 1 ≤ d by omega) (show (0 : Int) ≤ 9000000000000 by omega) a0 a1
  unfold wrap64
  omega
theorem slew_flat {f x d : Int} (h0 : -500000 ≤ f) (h1 : f ≤ 500000) (hd : 0 < d) (a0 : -9000000000000 ≤ x) (a1 : x ≤ 9000000000000) (h : 0 ≤ x.tmod d) :
    min (max (wrap64 (f + x.tdiv d)) (-500000)) 500000 = min (max (f + x / d) (-500000)) 500000 := by
  rw [tdiv_flat' hd h]
  have := ediv_near (show 1 ≤ d by omega) (show (0 : Int) ≤ 9000000000000 by omega) a0 a1
  unfold wrap64
  omega
set_option maxHeartbeats 400000 in
theorem slew_far (g : Nat) (c0 c1 c2 c3 c4 : Int) (st : Value) (raw now off : Int) (w : World) (hb : Blk w g 55 #[.int .i64 c0, .int .i64 c1, .int .i64 c2, .int .i64 c3, .int .i64 c4, st])
    (h0 : 1048576 ≤ raw - c3) (h1 : raw - c3 ≤ 4611686018427387904) (o0 : -134217 ≤ off) (o1 : off ≤ 134217) (q0 : -500000 ≤ c4) (q1 : c4 ≤ 500000) :
    Calls Try.prog 44 #[.pointer (some ⟨g, 0, none⟩), .int .i64 raw, .int .i64 now, .int .i64 off] w fun e w' => e = .returned (.int .i64 0) ∧
      Blk w' g 55 #[.int .i64 now, .int .i64 raw, .int .i64 off, .int .i64 raw, .int .i64 (min (max (c4 + off * 62500000 / (raw - c3)) (-500000)) 500000), .iface 82 (.agg #[])] ∧ w.grownBy w' (some g) := by
  have e3 := hb.cell 3
  have e4 := hb.cell 4
  have f4 := hb.frozen 4
  simp at e3 e4
  have HB := Lib.hid hb
  clear hb
  go_enter Try.func44, Try.ntmps44
  go_wp2_with fail
  · rw [slew_low q0 q1 (by omega) (by omega) (by omega) (by assumption)]
    refine (moved_any g c0 c1 c2 c3 _ st raw now off _ (HB.out.set_ 4 _)).mono ?_
    rintro e w' ⟨rfl, hb', hg'⟩
    go_wp2
    go_ret
    exact ⟨rfl, hb', World.grownBy.trans (only_setCell (World.grownBy.refl _ _) (.inl rfl) _) hg'⟩
  · rw [slew_flat q0 q1 (by omega) (by omega) (by omega) (by assumption)]
    refine (moved_any g c0 c1 c2 c3 _ st raw now off _ (HB.out.set_ 4 _)).mono ?_
    rintro e w' ⟨rfl, hb', hg'⟩
    go_wp2
    go_ret
    exact ⟨rfl, hb', World.grownBy.trans (only_setCell (World.grownBy.refl _ _) (.inl rfl) _) hg'⟩

/-! ### The states: what an update does to a clock in memory -/
theorem slews_t (x : Int) (w : World) (h : -134217 ≤ x) (h2 : x ≤ 134217) :
    Calls Try.prog 43 #[.int .i64 x] w fun e w' => e = .returned (.bool true) ∧ w = w' := by
  go_enter Try.func43, Try.ntmps43
  go_wp2
  go_ret
  exact ⟨rfl, rfl⟩
theorem slews_f (x : Int) (w : World) (h : ¬ (-134217 ≤ x ∧ x ≤ 134217)) :
    Calls Try.prog 43 #[.int .i64 x] w fun e w' => e = .returned (.bool false) ∧ w = w' := by
  by_cases h1 : -134217 ≤ x
  · have h2 : ¬ x ≤ 134217 := by omega
    have h3 : decide (x ≤ 134217) = false := decide_eq_false h2
    go_enter Try.func43, Try.ntmps43
    go_wp2
    go_ret
    exact ⟨rfl, rfl⟩
  · have h3 : decide (-134217 ≤ x) = false := decide_eq_false h1
    go_enter Try.func43, Try.ntmps43
    go_wp2
    go_ret
    exact ⟨rfl, rfl⟩

/-- What `step` leaves, as a clock. -/
theorem step_clk {w : World} {g : Nat} {c : Ck} {B raw off : Int} (h : IsClk w g c) (ok : c.Ok B) (hc : c.can raw) (h0 : -68719476736 ≤ off) (h1 : off ≤ 68719476736) (hB : B ≤ 1152921504606846976) :
    Calls Try.prog 37 #[.pointer (some ⟨g, 0, none⟩), .int .i64 raw, .int .i64 (c.now raw), .int .i64 off] w fun e w' => e = .returned (.int .i64 1) ∧ IsClk w' g (c.stepTo raw off) ∧ w.grownBy w' (some g) := by
  obtain ⟨last, hb, _⟩ := h
  have hn := Ck.now_ok ok hc
  refine (step_any g _ _ _ _ _ _ raw (c.now raw) off w hb (by omega) (by omega) (by omega) (by omega)).mono ?_
  rintro e w' ⟨rfl, hb', hg'⟩
  exact ⟨rfl, ⟨raw, hb', .inr rfl⟩, hg'⟩
/-- What `slew` leaves, as a clock. -/
theorem slew_clk {w : World} {g : Nat} {c : Ck} {B raw off : Int} (h : IsClk w g c) (ok : c.Ok B) (hs : c.st ≠ .unset) (hc : c.can raw) (hr : raw ≤ 2305843009213693952) (h0 : small off) :
    Calls Try.prog 44 #[.pointer (some ⟨g, 0, none⟩), .int .i64 raw, .int .i64 (c.now raw), .int .i64 off] w fun e w' => e = .returned (.int .i64 0) ∧ IsClk w' g (c.slewTo raw off) ∧ w.grownBy w' (some g) := by
  obtain ⟨last, hb, hl⟩ := h
  obtain rfl : last = c.at_ := hl.resolve_left hs
  have hc1 := hc.1
  have ha := ok.a0
  by_cases hd : 1048576 ≤ raw - c.at_
  · refine (slew_far g _ _ _ _ _ _ raw (c.now raw) off w hb hd (by omega) h0.1 h0.2 ok.f0 ok.f1).mono ?_
    rintro e w' ⟨rfl, hb', hg'⟩
    refine ⟨rfl, ⟨raw, ?_, .inr rfl⟩, hg'⟩
    have e : (c.slewTo raw off).freq = min (max (c.freq + off * 62500000 / (raw - c.at_)) (-500000)) 500000 := if_pos hd
    rw [← e] at hb'
    exact hb'
  · refine (slew_near g _ _ _ _ _ _ raw (c.now raw) off w hb (by omega) (by omega)).mono ?_
    rintro e w' ⟨rfl, hb', hg'⟩
    refine ⟨rfl, ⟨raw, ?_, .inr rfl⟩, hg'⟩
    have e : (c.slewTo raw off).freq = c.freq := if_neg hd
    rw [← e] at hb'
    exact hb'


end Go.Proofs.Ytkngpkhagblifaa
