/- Contracts of the program's clock: Update. -/
import Derived.Test.YtkngpkhagblifaaC2
namespace Go.Proofs.Ytkngpkhagblifaa
set_option linter.unusedVariables false
set_option linter.unusedSimpArgs false
open Go.RowKit
attribute [local go_sem] max2_mm min2_mm max_two min_two

theorem m_unset (w : World) : (method 184 51 (.agg #[]) "sundial/clock.takes").run Try.prog w = .ok (36, .agg #[]) w := by kernel_rfl
theorem m_set (w : World) : (method 184 82 (.agg #[]) "sundial/clock.takes").run Try.prog w = .ok (46, .agg #[]) w := by kernel_rfl
theorem m_spike (s : Int) (w : World) : (method 184 58 (.agg #[.int .i64 s]) "sundial/clock.takes").run Try.prog w = .ok (42, .agg #[.int .i64 s]) w := by kernel_rfl
theorem IsClk.alloc {w : World} {g : Nat} {c : Ck} (h : IsClk w g c) (o : Obj) : IsClk (w.alloc o) g c := by
  obtain ⟨last, hb, hl⟩ := h
  exact ⟨last, hb.alloc o, hl⟩
theorem IsClk.grown {w w' : World} {g : Nat} {c : Ck} {row : Option Nat} (h : IsClk w g c) (hg : w.grownBy w' row) (hne : some g ≠ row) : IsClk w' g c := by
  obtain ⟨last, hb, hl⟩ := h
  exact ⟨last, hb.grown hg hne, hl⟩
theorem IsClk.lt {w : World} {g : Nat} {c : Ck} (h : IsClk w g c) : g < w.heap.size := by
  obtain ⟨last, hb, hl⟩ := h
  exact hb.lt

/-- What an update does to a clock in memory, m the move, c' the clock behind it. -/
def Moves (w : World) (g : Nat) (m : Int) (c' : Ck) (e : Ending) (w' : World) : Prop := e = .returned (.int .i64 m) ∧ IsClk w' g c' ∧ w.grownBy w' (some g)

set_option maxHeartbeats 400000 in
theorem takes_unset {w : World} {g : Nat} {c : Ck} {B raw off : Int} (h : IsClk w g c) (ok : c.Ok B) (hc : c.can raw) (h0 : -68719476736 ≤ off) (h1 : off ≤ 68719476736) (hB : B ≤ 1152921504606846976) :
    Calls Try.prog 36 #[.agg #[], .pointer (some ⟨g, 0, none⟩), .int .i64 raw, .int .i64 (c.now raw), .int .i64 off] w (Moves w g 1 (c.stepTo raw off)) := by
  have H := Lib.hid h
  have HO := Lib.hid ok
  have HC := Lib.hid hc
  clear h ok hc
  generalize hnow : c.now raw = now
  have HN := Lib.hid hnow
  clear hnow
  go_enter Try.func36, Try.ntmps36
  go_wp2_with fail
  obtain rfl := HN.out
  refine (step_clk (H.out.alloc _) HO.out HC.out h0 h1 hB).mono ?_
  rintro e w' ⟨rfl, hk, hg⟩
  have HK := Lib.hid hk
  have HG := Lib.hid hg
  clear hk hg
  go_wp2
  go_ret
  exact ⟨rfl, HK.out, World.grownBy.trans (only_alloc (World.grownBy.refl _ _) _) HG.out⟩

set_option maxHeartbeats 400000 in
theorem takes_set_small {w : World} {g : Nat} {c : Ck} {B raw off : Int} (h : IsClk w g c) (ok : c.Ok B) (hs : c.st = .set) (hc : c.can raw) (hr : raw ≤ 2305843009213693952) (h0 : small off) :
    Calls Try.prog 46 #[.agg #[], .pointer (some ⟨g, 0, none⟩), .int .i64 raw, .int .i64 (c.now raw), .int .i64 off] w (Moves w g 0 (c.slewTo raw off)) := by
  have H := Lib.hid h
  have HO := Lib.hid ok
  have HC := Lib.hid hc
  have hs' : c.st ≠ .unset := by rw [hs]; intro h; cases h
  have HS := Lib.hid hs'
  have H0 := Lib.hid h0
  clear h ok hc hs hs' h0
  generalize hnow : c.now raw = now
  have HN := Lib.hid hnow
  clear hnow
  go_enter Try.func46, Try.ntmps46
  go_wp2_with (go_at_call 43; refine (slews_t _ _ H0.out.1 H0.out.2).mono ?_; rintro e w' ⟨rfl, rfl⟩)
  obtain rfl := HN.out
  refine (slew_clk (H.out.alloc _) HO.out HS.out HC.out hr H0.out).mono ?_
  rintro e w' ⟨rfl, hk, hg⟩
  have HK := Lib.hid hk
  have HG := Lib.hid hg
  clear hk hg
  go_wp2
  go_ret
  exact ⟨rfl, HK.out, World.grownBy.trans (only_alloc (World.grownBy.refl _ _) _) HG.out⟩

set_option maxHeartbeats 400000 in
theorem takes_set_wide {w : World} {g : Nat} {c : Ck} {raw off : Int} (now : Int) (h : IsClk w g c) (hs : c.st = .set) (h0 : ¬ small off) :
    Calls Try.prog 46 #[.agg #[], .pointer (some ⟨g, 0, none⟩), .int .i64 raw, .int .i64 now, .int .i64 off] w (Moves w g 2 { c with st := .spike raw }) := by
  obtain ⟨last, hb, hl⟩ := h
  have hl' : last = c.at_ := hl.resolve_left (by rw [hs]; intro h; cases h)
  have e5 := hb.cell 5
  have f5 := hb.frozen 5
  simp [clkC] at e5
  have hz := hb.lt
  have HB := Lib.hid hb
  have HL := Lib.hid hl'
  have H0 := Lib.hid h0
  clear hb hl hl' h0 hs
  go_enter Try.func46, Try.ntmps46
  go_wp2_with (go_at_call 43; refine (slews_f _ _ H0.out).mono ?_; rintro e w' ⟨rfl, rfl⟩)
  go_ret
  refine ⟨rfl, ⟨last, ?_, .inr HL.out⟩, ?_⟩
  · exact (HB.out.set_ 5 (.iface 58 (.agg #[.int .i64 raw]))).alloc _
  · exact only_alloc (only_setCell (World.grownBy.refl _ _) (.inl rfl) _) _

set_option maxHeartbeats 400000 in
theorem takes_spike_small {w : World} {g : Nat} {c : Ck} {B raw off s : Int} (h : IsClk w g c) (ok : c.Ok B) (hs : c.st = .spike s) (hc : c.can raw) (hr : raw ≤ 2305843009213693952) (h0 : small off) :
    Calls Try.prog 42 #[.agg #[.int .i64 s], .pointer (some ⟨g, 0, none⟩), .int .i64 raw, .int .i64 (c.now raw), .int .i64 off] w (Moves w g 0 (c.slewTo raw off)) := by
  have H := Lib.hid h
  have HO := Lib.hid ok
  have HC := Lib.hid hc
  have hs' : c.st ≠ .unset := by rw [hs]; intro h; cases h
  have HS := Lib.hid hs'
  have H0 := Lib.hid h0
  clear h ok hc hs hs' h0
  generalize hnow : c.now raw = now
  have HN := Lib.hid hnow
  clear hnow
  go_enter Try.func42, Try.ntmps42
  go_wp2_with (go_at_call 43; refine (slews_t _ _ H0.out.1 H0.out.2).mono ?_; rintro e w' ⟨rfl, rfl⟩)
  obtain rfl := HN.out
  refine (slew_clk (H.out.alloc _) HO.out HS.out HC.out hr H0.out).mono ?_
  rintro e w' ⟨rfl, hk, hg⟩
  have HK := Lib.hid hk
  have HG := Lib.hid hg
  clear hk hg
  go_wp2
  go_ret
  exact ⟨rfl, HK.out, World.grownBy.trans (only_alloc (World.grownBy.refl _ _) _) HG.out⟩

set_option maxHeartbeats 400000 in
theorem takes_spike_wait {w : World} {g : Nat} {c : Ck} {raw off s : Int} (now : Int) (h : IsClk w g c) (h0 : ¬ small off) (hs0 : 0 ≤ s) (hs1 : s ≤ 2305843009213693952) (hr0 : 0 ≤ raw) (hr : raw ≤ 2305843009213693952) (hd : raw - s < 314572800) :
    Calls Try.prog 42 #[.agg #[.int .i64 s], .pointer (some ⟨g, 0, none⟩), .int .i64 raw, .int .i64 now, .int .i64 off] w (Moves w g 2 c) := by
  have H := Lib.hid h
  have H0 := Lib.hid h0
  clear h h0
  go_enter Try.func42, Try.ntmps42
  go_wp2_with (go_at_call 43; refine (slews_f _ _ H0.out).mono ?_; rintro e w' ⟨rfl, rfl⟩)
  go_ret
  exact ⟨rfl, H.out.alloc _, only_alloc (World.grownBy.refl _ _) _⟩

set_option maxHeartbeats 400000 in
theorem takes_spike_step {w : World} {g : Nat} {c : Ck} {B raw off s : Int} (h : IsClk w g c) (ok : c.Ok B) (hc : c.can raw) (h0 : ¬ small off) (h0' : -68719476736 ≤ off) (h1 : off ≤ 68719476736) (hB : B ≤ 1152921504606846976)
    (hs0 : 0 ≤ s) (hs1 : s ≤ 2305843009213693952) (hr0 : 0 ≤ raw) (hr : raw ≤ 2305843009213693952) (hd : ¬ raw - s < 314572800) :
    Calls Try.prog 42 #[.agg #[.int .i64 s], .pointer (some ⟨g, 0, none⟩), .int .i64 raw, .int .i64 (c.now raw), .int .i64 off] w (Moves w g 1 (c.stepTo raw off)) := by
  have H := Lib.hid h
  have HO := Lib.hid ok
  have HC := Lib.hid hc
  have H0 := Lib.hid h0
  clear h ok hc h0
  generalize hnow : c.now raw = now
  have HN := Lib.hid hnow
  clear hnow
  go_enter Try.func42, Try.ntmps42
  go_wp2_with (go_at_call 43; refine (slews_f _ _ H0.out).mono ?_; rintro e w' ⟨rfl, rfl⟩)
  obtain rfl := HN.out
  refine (step_clk (H.out.alloc _) HO.out HC.out h0' h1 hB).mono ?_
  rintro e w' ⟨rfl, hk, hg⟩
  have HK := Lib.hid hk
  have HG := Lib.hid hg
  clear hk hg
  go_wp2
  go_ret
  exact ⟨rfl, HK.out, World.grownBy.trans (only_alloc (World.grownBy.refl _ _) _) HG.out⟩

/-! ### Update -/
theorem st_cell {w : World} {g : Nat} {c : Ck} (h : IsClk w g c) : w.cell? ⟨g, 5, none⟩ = some (stV c.st) := by
  obtain ⟨last, hb, _⟩ := h
  exact hb.cell 5
/-- An update behind a state's own answer. -/
def UpdPost (w : World) (g : Nat) (m : Int) (c' : Ck) (e : Ending) (w' : World) : Prop := e = .returned (.tuple #[.int .i64 m, .int .i64 0]) ∧ IsClk w' g c' ∧ w.grownBy w' (some g)
set_option maxHeartbeats 400000 in
theorem update_via (T : TypeId) (v : Value) (F : FuncId) {w : World} {g : Nat} {c' : Ck} {raw off m now : Int} (hF : F = 36 ∨ F = 46 ∨ F = 42)
    (e5 : w.cell? ⟨g, 5, none⟩ = some (.iface T v)) (hm : ∀ w : World, (method 184 T v "sundial/clock.takes").run Try.prog w = .ok (F, v) w)
    (hR : Calls Try.prog 9 #[.pointer (some ⟨g, 0, none⟩), .int .i64 raw] w fun e w' => e = .returned (.tuple #[.int .i64 now, .int .i64 0]) ∧ w = w')
    (hT : Calls Try.prog F #[v, .pointer (some ⟨g, 0, none⟩), .int .i64 raw, .int .i64 now, .int .i64 off] w (Moves w g m c'))
    (h0 : -68719476736 ≤ off) (h1 : off ≤ 68719476736) :
    Calls Try.prog 10 #[.pointer (some ⟨g, 0, none⟩), .int .i64 raw, .int .i64 off] w (UpdPost w g m c') := by
  have HR := Lib.hid hR
  have HT := Lib.hid hT
  clear hR hT
  rcases hF with rfl | rfl | rfl
  all_goals
    go_enter Try.func10, Try.ntmps10
    go_wp2_with (first | (go_at_call 9; refine HR.out.mono ?_; rintro e w' ⟨rfl, rfl⟩))
    refine HT.out.mono ?_
    rintro e w' ⟨rfl, hk, hg⟩
    have HK := Lib.hid hk
    have HG := Lib.hid hg
    clear hk hg hm e5
    go_wp2
    go_ret2
    exact ⟨rfl, HK.out, HG.out⟩

/-- UPDATE: of a clock in order, at a count that it takes, by an offset that it takes. -/
theorem update_yes {w : World} {g : Nat} {c : Ck} {B raw off : Int} (h : IsClk w g c) (ok : c.Ok B) (hB : B ≤ 1152921504606846976) (hc : c.can raw) (hr : raw ≤ 2305843009213693952) (h0 : -68719476736 ≤ off) (h1 : off ≤ 68719476736) :
    Calls Try.prog 10 #[.pointer (some ⟨g, 0, none⟩), .int .i64 raw, .int .i64 off] w (UpdPost w g (c.upd raw off).2 (c.upd raw off).1) := by
  have hR := read_yes h ok (by omega) hc
  have e5 := st_cell h
  have hc1 := hc.1
  have ha := ok.a0
  rcases hst : c.st with _ | _ | s
  · rw [hst] at e5
    have e : c.upd raw off = (c.stepTo raw off, 1) := by unfold Ck.upd; rw [hst]
    rw [e]
    exact update_via 51 _ 36 (.inl rfl) e5 m_unset hR (takes_unset h ok hc h0 h1 hB) h0 h1
  · rw [hst] at e5
    by_cases hs : small off
    · have e : c.upd raw off = (c.slewTo raw off, 0) := by unfold Ck.upd; rw [hst]; exact if_pos hs
      rw [e]
      exact update_via 82 _ 46 (.inr (.inl rfl)) e5 m_set hR (takes_set_small h ok hst hc hr hs) h0 h1
    · have e : c.upd raw off = ({ c with st := .spike raw }, 2) := by unfold Ck.upd; rw [hst]; exact if_neg hs
      rw [e]
      exact update_via 82 _ 46 (.inr (.inl rfl)) e5 m_set hR (takes_set_wide _ h hst hs) h0 h1
  · rw [hst] at e5
    obtain ⟨s0, s1⟩ := ok.s0 s hst
    by_cases hs : small off
    · have e : c.upd raw off = (c.slewTo raw off, 0) := by unfold Ck.upd; rw [hst]; exact if_pos hs
      rw [e]
      exact update_via 58 _ 42 (.inr (.inr rfl)) e5 (m_spike s) hR (takes_spike_small h ok hst hc hr hs) h0 h1
    · by_cases hd : raw - s < 314572800
      · have e : c.upd raw off = (c, 2) := by unfold Ck.upd; rw [hst]; simp only; rw [if_neg hs, if_pos hd]
        rw [e]
        exact update_via 58 _ 42 (.inr (.inr rfl)) e5 (m_spike s) hR (takes_spike_wait _ h hs s0 s1 (by omega) hr hd) h0 h1
      · have e : c.upd raw off = (c.stepTo raw off, 1) := by unfold Ck.upd; rw [hst]; simp only; rw [if_neg hs, if_neg hd]
        rw [e]
        exact update_via 58 _ 42 (.inr (.inr rfl)) e5 (m_spike s) hR (takes_spike_step h ok hc hs h0 h1 hB s0 s1 (by omega) hr hd) h0 h1

set_option maxHeartbeats 400000 in
theorem update_err {w : World} (p : Option Addr) {raw off now k : Int} (hk : 1 ≤ k)
    (hR : Calls Try.prog 9 #[.pointer p, .int .i64 raw] w fun e w' => e = .returned (.tuple #[.int .i64 now, .int .i64 k]) ∧ w = w') :
    Calls Try.prog 10 #[.pointer p, .int .i64 raw, .int .i64 off] w fun e w' => e = .returned (.tuple #[.int .i64 0, .int .i64 k]) ∧ w = w' := by
  have HR := Lib.hid hR
  have h0 : (k == 0) = false := beq_eq_false_iff_ne.mpr (by omega)
  have h1 : (k != 0) = true := bne_iff_ne.mpr (by omega)
  clear hR
  go_enter Try.func10, Try.ntmps10
  go_wp2_with (first | (go_at_call 9; refine HR.out.mono ?_; rintro e w' ⟨rfl, rfl⟩))
  go_ret2
  exact ⟨rfl, rfl⟩
set_option maxHeartbeats 400000 in
theorem update_wide {w : World} (p : Option Addr) {raw off now : Int} (h : ¬ (-68719476736 ≤ off ∧ off ≤ 68719476736))
    (hR : Calls Try.prog 9 #[.pointer p, .int .i64 raw] w fun e w' => e = .returned (.tuple #[.int .i64 now, .int .i64 0]) ∧ w = w') :
    Calls Try.prog 10 #[.pointer p, .int .i64 raw, .int .i64 off] w fun e w' => e = .returned (.tuple #[.int .i64 0, .int .i64 2]) ∧ w = w' := by
  have HR := Lib.hid hR
  clear hR
  by_cases h1 : off < -68719476736
  · have h2 : decide (off < -68719476736) = true := decide_eq_true h1
    clear h
    go_enter Try.func10, Try.ntmps10
    go_wp2_with (first | (go_at_call 9; refine HR.out.mono ?_; rintro e w' ⟨rfl, rfl⟩))
    go_ret2
    exact ⟨rfl, rfl⟩
  · have h2 : decide (off < -68719476736) = false := decide_eq_false h1
    have h3 : 68719476736 < off := by omega
    clear h
    go_enter Try.func10, Try.ntmps10
    go_wp2_with (first | (go_at_call 9; refine HR.out.mono ?_; rintro e w' ⟨rfl, rfl⟩))
    go_ret2
    exact ⟨rfl, rfl⟩

/-! ### Freq, Spiking, New -/
theorem freq_any {w : World} {g : Nat} {c : Ck} (h : IsClk w g c) :
    Calls Try.prog 15 #[.pointer (some ⟨g, 0, none⟩)] w fun e w' => e = .returned (.int .i64 c.freq) ∧ w = w' := by
  obtain ⟨last, hb, _⟩ := h
  have e4 := hb.cell 4
  simp [clkC] at e4
  clear hb
  go_enter Try.func15, Try.ntmps15
  go_wp2
  go_ret
  exact ⟨rfl, rfl⟩
theorem freq_nil {w : World} :
    Calls Try.prog 15 #[.pointer none] w fun e w' => e = .returned (.int .i64 0) ∧ w = w' := by
  go_enter Try.func15, Try.ntmps15
  go_wp2
  go_ret
  exact ⟨rfl, rfl⟩
theorem spiking_nil {w : World} :
    Calls Try.prog 11 #[.pointer none] w fun e w' => e = .returned (.bool false) ∧ w = w' := by
  go_enter Try.func11, Try.ntmps11
  go_wp2
  go_ret
  exact ⟨rfl, rfl⟩
def St.spiking : St → Bool
  | .spike _ => true
  | _ => false
theorem ta_unset (W : World) : (Instr.typeAssert (.iface 51 (.agg #[])) 53 58 true).run Try.prog W = .ok (.tuple #[.agg #[.int .i64 0], .bool false]) W := by kernel_rfl
theorem ta_set (W : World) : (Instr.typeAssert (.iface 82 (.agg #[])) 53 58 true).run Try.prog W = .ok (.tuple #[.agg #[.int .i64 0], .bool false]) W := by kernel_rfl
theorem ta_spike (s : Int) (W : World) : (Instr.typeAssert (.iface 58 (.agg #[.int .i64 s])) 53 58 true).run Try.prog W = .ok (.tuple #[.agg #[.int .i64 s], .bool true]) W := by kernel_rfl
theorem spiking_any {w : World} {g : Nat} {c : Ck} (h : IsClk w g c) :
    Calls Try.prog 11 #[.pointer (some ⟨g, 0, none⟩)] w fun e w' => e = .returned (.bool c.st.spiking) ∧ Below w.heap.size w w' := by
  have e5 := st_cell h
  have hz := h.lt
  clear h
  rcases hst : c.st with _ | _ | s
  · rw [hst] at e5
    simp only [stV] at e5
    clear hst
    have hta := ta_unset
    go_enter Try.func11, Try.ntmps11
    go_wp2
    go_ret
    exact ⟨rfl, ((Below.refl _ _).alloc (Nat.le_refl _) _)⟩
  · rw [hst] at e5
    simp only [stV] at e5
    clear hst
    have hta := ta_set
    go_enter Try.func11, Try.ntmps11
    go_wp2
    go_ret
    exact ⟨rfl, ((Below.refl _ _).alloc (Nat.le_refl _) _)⟩
  · rw [hst] at e5
    simp only [stV] at e5
    clear hst
    have hta := ta_spike
    go_enter Try.func11, Try.ntmps11
    go_wp2
    go_ret
    exact ⟨rfl, ((Below.refl _ _).alloc (Nat.le_refl _) _)⟩

/-! ### New -/
def inNew (raw base freq : Int) : Prop := 0 ≤ raw ∧ raw ≤ 288230376151711744 ∧ 0 ≤ base ∧ base ≤ 288230376151711744 ∧ -500000 ≤ freq ∧ freq ≤ 500000
instance (raw base freq : Int) : Decidable (inNew raw base freq) := inferInstanceAs (Decidable (_ ∧ _))
def newCk (raw base freq : Int) : Ck := { base := base, at_ := raw, phase := 0, freq := freq, st := .unset }
theorem new_yes {w : World} {raw base freq : Int} (h : inNew raw base freq) :
    Calls Try.prog 8 #[.int .i64 raw, .int .i64 base, .int .i64 freq] w fun e w' => e = .returned (.tuple #[.pointer (some ⟨w.heap.size, 0, none⟩), .int .i64 0]) ∧ w' = w.alloc (.cells (clkC (newCk raw base freq) 0) 55) := by
  obtain ⟨h1, h2, h3, h4, h5, h6⟩ := h
  go_enter Try.func8, Try.ntmps8
  go_wp2
  go_ret2
  exact ⟨rfl, rfl⟩
theorem new_no {w : World} {raw base freq : Int} (h : ¬ inNew raw base freq) :
    Calls Try.prog 8 #[.int .i64 raw, .int .i64 base, .int .i64 freq] w fun e w' => e = .returned (.tuple #[.pointer none, .int .i64 2]) ∧ w = w' := by
  unfold inNew at h
  by_cases h1 : raw < 0
  · go_enter Try.func8, Try.ntmps8
    go_wp2
    go_ret2
    exact ⟨rfl, rfl⟩
  by_cases h2 : 288230376151711744 < raw
  · go_enter Try.func8, Try.ntmps8
    go_wp2
    go_ret2
    exact ⟨rfl, rfl⟩
  by_cases h3 : base < 0
  · go_enter Try.func8, Try.ntmps8
    go_wp2
    go_ret2
    exact ⟨rfl, rfl⟩
  by_cases h4 : 288230376151711744 < base
  · go_enter Try.func8, Try.ntmps8
    go_wp2
    go_ret2
    exact ⟨rfl, rfl⟩
  by_cases h5 : freq < -500000
  · go_enter Try.func8, Try.ntmps8
    go_wp2
    go_ret2
    exact ⟨rfl, rfl⟩
  have h6 : 500000 < freq := by omega
  go_enter Try.func8, Try.ntmps8
  go_wp2
  go_ret2
  exact ⟨rfl, rfl⟩
theorem new_clk (w : World) (raw base freq : Int) : IsClk (w.alloc (.cells (clkC (newCk raw base freq) 0) 55)) w.heap.size (newCk raw base freq) := ⟨0, Blk.new w 55 _, .inl rfl⟩
theorem new_ok {raw base freq : Int} (h : inNew raw base freq) : (newCk raw base freq).Ok 288230376151711744 := by
  obtain ⟨h1, h2, h3, h4, h5, h6⟩ := h
  exact ⟨by show _ ≤ base; omega, h4, h1, by show raw ≤ _; omega, by show _ ≤ (0 : Int); omega, by show (0 : Int) ≤ _; omega, h5, h6, fun s hs => by cases hs⟩

end Go.Proofs.Ytkngpkhagblifaa
