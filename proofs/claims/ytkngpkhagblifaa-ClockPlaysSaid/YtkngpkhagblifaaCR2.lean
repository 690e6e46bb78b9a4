/- Contracts of the document's clock, continued: Update as a whole, New. -/
import Derived.Test.YtkngpkhagblifaaCR
namespace Go.Proofs.Ytkngpkhagblifaa
set_option linter.unusedVariables false
set_option linter.unusedSimpArgs false
open Go.RowKit
attribute [local go_sem] max2_mm min2_mm max_two min_two

set_option maxHeartbeats 400000 in
theorem rupd_spike_wait {w : World} {g : Nat} {c : Ck} {B raw off s : Int} (h : IsRef w g c) (ok : c.Ok B) (hst : c.st = .spike s) (hB : B ≤ 1152921504606846976) (hc : c.can raw) (hr : raw ≤ 2305843009213693952) (h0 : -68719476736 ≤ off) (h1 : off ≤ 68719476736) (hs : ¬ small off) (hd : raw - s < 314572800) :
    Calls Try.prog 14 #[.pointer (some ⟨g, 0, none⟩), .int .i64 raw, .int .i64 off] w (RUpd w g 2 c) := by
  have hR := rread_yes h ok (by omega) hc
  have HI := Lib.hid h
  obtain ⟨s0, s1⟩ := ok.s0 s hst
  have r0 : 0 ≤ raw := by have := hc.1; have := ok.a0; omega
  obtain ⟨last, since, hb, hl, hse⟩ := h
  obtain rfl : since = s := hse s hst
  have e6 := hb.cell 6
  have e4 := hb.cell 4
  simp [refC, hst, stN] at e6 e4
  have HR := Lib.hid hR
  have HS := Lib.hid hs
  clear hR hb hl hse hs ok hc hst
  generalize hnow : c.now raw = now at *
  clear hnow
  unfold small at HS
  by_cases hlo : -134217 ≤ off
  · have b1 : decide (off ≤ 134217) = false := decide_eq_false (fun hh => HS.out ⟨hlo, hh⟩)
    have b2 : decide (-134217 ≤ off) = true := decide_eq_true hlo
    go_enter Try.func14, Try.ntmps14
    go_wp2_with (go_at_call 13; refine HR.out.mono ?_; rintro e w' ⟨rfl, n, rfl⟩)
    go_ret2
    exact ⟨rfl, HI.out.drewN n, only_drewN (World.grownBy.refl _ _) _⟩
  · have b2 : decide (-134217 ≤ off) = false := decide_eq_false hlo
    go_enter Try.func14, Try.ntmps14
    go_wp2_with (go_at_call 13; refine HR.out.mono ?_; rintro e w' ⟨rfl, n, rfl⟩)
    go_ret2
    exact ⟨rfl, HI.out.drewN n, only_drewN (World.grownBy.refl _ _) _⟩

set_option maxHeartbeats 400000 in
theorem rupd_spike_step {w : World} {g : Nat} {c : Ck} {B raw off s : Int} (h : IsRef w g c) (ok : c.Ok B) (hst : c.st = .spike s) (hB : B ≤ 1152921504606846976) (hc : c.can raw) (hr : raw ≤ 2305843009213693952) (h0 : -68719476736 ≤ off) (h1 : off ≤ 68719476736) (hs : ¬ small off) (hd : ¬ raw - s < 314572800) :
    Calls Try.prog 14 #[.pointer (some ⟨g, 0, none⟩), .int .i64 raw, .int .i64 off] w (RUpd w g 1 (c.stepTo raw off)) := by
  have hR := rread_yes h ok (by omega) hc
  have HI := Lib.hid h
  have HO := Lib.hid ok
  have HC := Lib.hid hc
  obtain ⟨s0, s1⟩ := ok.s0 s hst
  have r0 : 0 ≤ raw := by have := hc.1; have := ok.a0; omega
  obtain ⟨last, since, hb, hl, hse⟩ := h
  obtain rfl : since = s := hse s hst
  have e6 := hb.cell 6
  have e4 := hb.cell 4
  simp [refC, hst, stN] at e6 e4
  have HR := Lib.hid hR
  have HS := Lib.hid hs
  clear hR hb hl hse hs ok hc hst
  generalize hnow : c.now raw = now at *
  have HN := Lib.hid hnow
  clear hnow
  unfold small at HS
  by_cases hlo : -134217 ≤ off
  · have b1 : decide (off ≤ 134217) = false := decide_eq_false (fun hh => HS.out ⟨hlo, hh⟩)
    have b2 : decide (-134217 ≤ off) = true := decide_eq_true hlo
    go_enter Try.func14, Try.ntmps14
    go_wp2_with (go_at_call 13; refine HR.out.mono ?_; rintro e w' ⟨rfl, n, rfl⟩)
    obtain rfl := HN.out
    refine (rstep_clk (HI.out.drewN n) HO.out HC.out h0 h1 hB).mono ?_
    rintro e w' ⟨rfl, hk, hg⟩
    have HK := Lib.hid hk
    have HG := Lib.hid hg
    clear hk hg
    go_wp2
    go_ret2
    exact ⟨rfl, HK.out, World.grownBy.trans (only_drewN (World.grownBy.refl _ _) _) HG.out⟩
  · have b2 : decide (-134217 ≤ off) = false := decide_eq_false hlo
    go_enter Try.func14, Try.ntmps14
    go_wp2_with (go_at_call 13; refine HR.out.mono ?_; rintro e w' ⟨rfl, n, rfl⟩)
    obtain rfl := HN.out
    refine (rstep_clk (HI.out.drewN n) HO.out HC.out h0 h1 hB).mono ?_
    rintro e w' ⟨rfl, hk, hg⟩
    have HK := Lib.hid hk
    have HG := Lib.hid hg
    clear hk hg
    go_wp2
    go_ret2
    exact ⟨rfl, HK.out, World.grownBy.trans (only_drewN (World.grownBy.refl _ _) _) HG.out⟩

theorem rupdate_yes {w : World} {g : Nat} {c : Ck} {B raw off : Int} (h : IsRef w g c) (ok : c.Ok B) (hB : B ≤ 1152921504606846976) (hc : c.can raw) (hr : raw ≤ 2305843009213693952) (h0 : -68719476736 ≤ off) (h1 : off ≤ 68719476736) :
    Calls Try.prog 14 #[.pointer (some ⟨g, 0, none⟩), .int .i64 raw, .int .i64 off] w (RUpd w g (c.upd raw off).2 (c.upd raw off).1) := by
  rcases hst : c.st with _ | _ | s
  · have e : c.upd raw off = (c.stepTo raw off, 1) := by unfold Ck.upd; rw [hst]
    rw [e]
    exact rupd_unset h ok hst hB hc h0 h1
  · by_cases hs : small off
    · have e : c.upd raw off = (c.slewTo raw off, 0) := by unfold Ck.upd; rw [hst]; exact if_pos hs
      rw [e]
      exact rupd_small h ok (by rw [hst]; decide) (by rw [hst]; decide) (by rw [hst]; intro h; cases h) hB hc hr hs.1 hs.2
    · have e : c.upd raw off = ({ c with st := .spike raw }, 2) := by unfold Ck.upd; rw [hst]; exact if_neg hs
      rw [e]
      exact rupd_set_wide h ok hst hB hc h0 h1 hs
  · by_cases hs : small off
    · have e : c.upd raw off = (c.slewTo raw off, 0) := by unfold Ck.upd; rw [hst]; exact if_pos hs
      rw [e]
      exact rupd_small h ok (by rw [hst]; simp [stN]) (by rw [hst]; simp [stN]) (by rw [hst]; intro h; cases h) hB hc hr hs.1 hs.2
    · by_cases hd : raw - s < 314572800
      · have e : c.upd raw off = (c, 2) := by unfold Ck.upd; rw [hst]; simp only; rw [if_neg hs, if_pos hd]
        rw [e]
        exact rupd_spike_wait h ok hst hB hc hr h0 h1 hs hd
      · have e : c.upd raw off = (c.stepTo raw off, 1) := by unfold Ck.upd; rw [hst]; simp only; rw [if_neg hs, if_neg hd]
        rw [e]
        exact rupd_spike_step h ok hst hB hc hr h0 h1 hs hd

set_option maxHeartbeats 400000 in
theorem rupdate_err {w : World} (g : Nat) {raw off now k : Int} (hk : 1 ≤ k)
    (hR : Calls Try.prog 13 #[.pointer (some ⟨g, 0, none⟩), .int .i64 raw] w fun e w' => e = .returned (.tuple #[.int .i64 now, .int .i64 k]) ∧ ∃ n, w' = w.drewN n) :
    Calls Try.prog 14 #[.pointer (some ⟨g, 0, none⟩), .int .i64 raw, .int .i64 off] w fun e w' => e = .returned (.tuple #[.int .i64 0, .int .i64 k]) ∧ ∃ n, w' = w.drewN n := by
  have HR := Lib.hid hR
  have h0 : (k == 0) = false := beq_eq_false_iff_ne.mpr (by omega)
  have h1 : (k != 0) = true := bne_iff_ne.mpr (by omega)
  clear hR
  go_enter Try.func14, Try.ntmps14
  go_wp2_with (first | (go_at_call 13; refine HR.out.mono ?_; rintro e w' ⟨rfl, n, rfl⟩))
  go_ret2
  exact ⟨rfl, n, rfl⟩
set_option maxHeartbeats 400000 in
theorem rupdate_wide {w : World} (g : Nat) {raw off now : Int} (h : ¬ (-68719476736 ≤ off ∧ off ≤ 68719476736))
    (hR : Calls Try.prog 13 #[.pointer (some ⟨g, 0, none⟩), .int .i64 raw] w fun e w' => e = .returned (.tuple #[.int .i64 now, .int .i64 0]) ∧ ∃ n, w' = w.drewN n) :
    Calls Try.prog 14 #[.pointer (some ⟨g, 0, none⟩), .int .i64 raw, .int .i64 off] w fun e w' => e = .returned (.tuple #[.int .i64 0, .int .i64 2]) ∧ ∃ n, w' = w.drewN n := by
  have HR := Lib.hid hR
  clear hR
  by_cases h1 : off < -68719476736
  · have h2 : decide (off < -68719476736) = true := decide_eq_true h1
    clear h
    go_enter Try.func14, Try.ntmps14
    go_wp2_with (first | (go_at_call 13; refine HR.out.mono ?_; rintro e w' ⟨rfl, n, rfl⟩))
    go_ret2
    exact ⟨rfl, n, rfl⟩
  · have h2 : decide (off < -68719476736) = false := decide_eq_false h1
    have h3 : 68719476736 < off := by omega
    clear h
    go_enter Try.func14, Try.ntmps14
    go_wp2_with (first | (go_at_call 13; refine HR.out.mono ?_; rintro e w' ⟨rfl, n, rfl⟩))
    go_ret2
    exact ⟨rfl, n, rfl⟩

/-! ### New -/
theorem rnew_yes {w : World} {raw base freq : Int} (h : inNew raw base freq) :
    Calls Try.prog 12 #[.int .i64 raw, .int .i64 base, .int .i64 freq] w fun e w' => e = .returned (.tuple #[.pointer (some ⟨w.heap.size, 0, none⟩), .int .i64 0]) ∧ w' = w.alloc (.cells (refC (newCk raw base freq) 0 0) 47) := by
  obtain ⟨h1, h2, h3, h4, h5, h6⟩ := h
  go_enter Try.func12, Try.ntmps12
  go_wp2
  go_ret2
  exact ⟨rfl, rfl⟩
theorem rnew_no {w : World} {raw base freq : Int} (h : ¬ inNew raw base freq) :
    Calls Try.prog 12 #[.int .i64 raw, .int .i64 base, .int .i64 freq] w fun e w' => e = .returned (.tuple #[.pointer none, .int .i64 2]) ∧ w = w' := by
  unfold inNew at h
  by_cases h1 : raw < 0
  · go_enter Try.func12, Try.ntmps12
    go_wp2
    go_ret2
    exact ⟨rfl, rfl⟩
  by_cases h2 : 288230376151711744 < raw
  · go_enter Try.func12, Try.ntmps12
    go_wp2
    go_ret2
    exact ⟨rfl, rfl⟩
  by_cases h3 : base < 0
  · go_enter Try.func12, Try.ntmps12
    go_wp2
    go_ret2
    exact ⟨rfl, rfl⟩
  by_cases h4 : 288230376151711744 < base
  · go_enter Try.func12, Try.ntmps12
    go_wp2
    go_ret2
    exact ⟨rfl, rfl⟩
  by_cases h5 : freq < -500000
  · go_enter Try.func12, Try.ntmps12
    go_wp2
    go_ret2
    exact ⟨rfl, rfl⟩
  have h6 : 500000 < freq := by omega
  go_enter Try.func12, Try.ntmps12
  go_wp2
  go_ret2
  exact ⟨rfl, rfl⟩
theorem rnew_clk (w : World) (raw base freq : Int) : IsRef (w.alloc (.cells (refC (newCk raw base freq) 0 0) 47)) w.heap.size (newCk raw base freq) := ⟨0, 0, Blk.new w 47 _, .inl rfl, fun s hs => by cases hs⟩

end Go.Proofs.Ytkngpkhagblifaa
