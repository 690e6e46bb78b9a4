/- The law FixSpans: the walk. -/
import Derived.Test.YtcdphaejnmdpoaaFix5
import Derived.Test.YtcdphaejnmdpoaaFix6
import Derived.Test.YtcdphaejnmdpoaaFixO
namespace Go.Proofs.Ytcdphaejnmdpoaa
set_option linter.unusedVariables false
set_option linter.unusedSimpArgs false
open Go.RowKit
attribute [local go_sem] max2_mm min2_mm max_two min_two

theorem spanV_form (x y : Int) : ∃ u v : Int, spanV x y = .agg #[.int .i64 u, .int .i64 v] := ⟨x, y, rfl⟩
theorem meetV_form (a b c d : Int) : ∃ u v : Int, meetV a b c d = .agg #[.int .i64 u, .int .i64 v] := by
  unfold meetV; (repeat' split) <;> exact spanV_form _ _
theorem coverV_form (a b c d : Int) : ∃ u v : Int, coverV a b c d = .agg #[.int .i64 u, .int .i64 v] := by
  unfold coverV; (repeat' split) <;> exact spanV_form _ _
theorem shiftV_form (a b d : Int) : ∃ u v : Int, shiftV a b d = .agg #[.int .i64 u, .int .i64 v] := by
  unfold shiftV; (repeat' split) <;> exact spanV_form _ _

theorem sp_both {w0 w : World} {T : TypeId} {gt gs gk gc gn gm g1 g0 : Nat} {s1 s2 c1 c2 m1 m2 a b : Value} {e : Array Value}
    (h : Held w0 w [(gt, T, #[s1, s2]), (gs, T, #[s1, s2]), (gk, T, #[c1, c2]), (gc, T, #[c1, c2]), (gn, T, #[m1, m2]), (gm, T, #[m1, m2]), (g1, T, e), (g0, T, #[a, b])]) :
    Held w0 w [(gt, T, #[s1, s2]), (gs, T, #[s1, s2]), (gk, T, #[c1, c2]), (gc, T, #[c1, c2]), (gn, T, #[m1, m2]), (gm, T, #[m1, m2]), (g1, T, e), (g0, T, #[a, b])] ∧ w.cell? ⟨g0, 0, none⟩ = some a ∧ w.cell? ⟨g0, 1, none⟩ = some b ∧ w.cell? ⟨gt, 0, none⟩ = some s1 ∧ w.cell? ⟨gt, 1, none⟩ = some s2 ∧ w.cell? ⟨gs, 0, none⟩ = some s1 ∧ w.cell? ⟨gs, 1, none⟩ = some s2 ∧ w.cell? ⟨gk, 0, none⟩ = some c1 ∧ w.cell? ⟨gk, 1, none⟩ = some c2 ∧ w.cell? ⟨gc, 0, none⟩ = some c1 ∧ w.cell? ⟨gc, 1, none⟩ = some c2 ∧ w.cell? ⟨gn, 0, none⟩ = some m1 ∧ w.cell? ⟨gn, 1, none⟩ = some m2 ∧ w.cell? ⟨gm, 0, none⟩ = some m1 ∧ w.cell? ⟨gm, 1, none⟩ = some m2 := by
  have hc := h.cells
  simp only [Cells, and_true] at hc
  obtain ⟨h1, -, h2, -, h3, -, h4, -, h5, -, h6, -, h7, -, h8, -⟩ := hc
  exact ⟨h, h8 0, h8 1, h1 0, h1 1, h2 0, h2 1, h3 0, h3 1, h4 0, h4 1, h5 0, h5 1, h6 0, h6 1⟩

set_option maxRecDepth 100000 in
set_option maxHeartbeats 2000000 in
theorem fixSpans_at (a b c e d : Int) (w : World) :
    Calls Try.prog 7 #[spanV a b, spanV c e, .int .i64 d] w fun r w' => r = .returned (.bool true) ∧ Below w.heap.size w w' := by
  obtain ⟨m1, m2, hm⟩ := meetV_form a b c e
  obtain ⟨c1, c2, hc⟩ := coverV_form a b c e
  obtain ⟨s1, s2, hs⟩ := shiftV_form a b d
  have HM := Lib.hid hm
  have HC := Lib.hid hc
  have HS := Lib.hid hs
  clear hm hc hs
  have h0 := ((Held.start w).push 40 #[.int .i64 a, .int .i64 b]).push 40 #[.int .i64 c, .int .i64 e]
  rw [World.size_alloc] at h0
  have hh := h0
  have hc := hh.cells
  have H0 := Lib.hid h0
  clear h0
  simp only [Cells, and_true] at hc
  unfold spanV
  go_enter Try.func7, Try.ntmps7
  go_wp2_with (first
    | (go_at_call 9; refine (awake_ok _).mono ?_; rintro r w1 ⟨rfl, hb⟩; clear hc; have hh := Held.below hh hb; have hc := hh.cells; simp only [Cells, and_true] at hc)
    | (go_at_call 22; refine (fix_Meet _ _ _ _ _).mono ?_; rintro r wm ⟨rfl, hb⟩; rw [HM.out]; clear hc; have hh := (Held.below hh hb).push 40 #[.int .i64 m1, .int .i64 m2]; obtain ⟨gm, hgm⟩ : ∃ g, wm.heap.size = g := ⟨_, rfl⟩; rw [hgm] at hh; have hc := hh.cells; simp only [Cells, and_true] at hc)
    | (go_at_call 23; refine (ref_Meet _ _ _ _ _).mono ?_; rintro r wn ⟨rfl, hb⟩; rw [HM.out]; clear hc; have hh := (Held.below hh hb).push 40 #[.int .i64 m1, .int .i64 m2]; obtain ⟨gn, hgn⟩ : ∃ g, wn.heap.size = g := ⟨_, rfl⟩; rw [hgn] at hh; have hc := hh.cells; simp only [Cells, and_true] at hc)
    | (go_at_call 24; refine (fix_Cover _ _ _ _ _).mono ?_; rintro r wc ⟨rfl, hb⟩; rw [HC.out]; clear hc; have hh := (Held.below hh hb).push 40 #[.int .i64 c1, .int .i64 c2]; obtain ⟨gc, hgc⟩ : ∃ g, wc.heap.size = g := ⟨_, rfl⟩; rw [hgc] at hh; have hc := hh.cells; simp only [Cells, and_true] at hc)
    | (go_at_call 25; refine (ref_Cover _ _ _ _ _).mono ?_; rintro r wk ⟨rfl, hb⟩; rw [HC.out]; clear hc; have hh := (Held.below hh hb).push 40 #[.int .i64 c1, .int .i64 c2]; obtain ⟨gk, hgk⟩ : ∃ g, wk.heap.size = g := ⟨_, rfl⟩; rw [hgk] at hh; have hc := hh.cells; simp only [Cells, and_true] at hc)
    | (go_at_call 26; refine (fix_Shift _ _ _ _).mono ?_; rintro r ws ⟨rfl, hb⟩; rw [HS.out]; clear hc; have hh := (Held.below hh hb).push 40 #[.int .i64 s1, .int .i64 s2]; obtain ⟨gs, hgs⟩ : ∃ g, ws.heap.size = g := ⟨_, rfl⟩; rw [hgs] at hh; have hc := hh.cells; simp only [Cells, and_true] at hc)
    | (go_at_call 27; refine (ref_Shift _ _ _ _).mono ?_; rintro r wt ⟨rfl, hb⟩; rw [HS.out]; clear hc; have hh := (Held.below hh hb).push 40 #[.int .i64 s1, .int .i64 s2]; obtain ⟨gt, hgt⟩ : ∃ g, wt.heap.size = g := ⟨_, rfl⟩; rw [hgt] at hh; have hc := hh.cells; simp only [Cells, and_true] at hc))
  clear hgm hgn hgc hgk hgs hgt
  generalize (wt.alloc (.cells #[.int .i64 s1, .int .i64 s2] 40)) = W at *
  obtain ⟨g0, hg0⟩ : ∃ g, w.heap.size = g := ⟨_, rfl⟩
  obtain ⟨g1, hg1⟩ : ∃ g, g0 + 1 = g := ⟨_, rfl⟩
  rw [hg0] at hh ⊢
  rw [hg1] at hh ⊢
  clear hc
  have hq := sp_both hh
  have ck : ∀ (a b : Int) (w : World), Calls Try.prog 28 #[.agg #[.int .i64 a, .int .i64 b]] w fun r w' => r = .returned (.int .i64 (checkE a b)) ∧ Below w.heap.size w w' := fix_Check
  have rk : ∀ (a b : Int) (w : World), Calls Try.prog 29 #[.agg #[.int .i64 a, .int .i64 b]] w fun r w' => r = .returned (.int .i64 (checkE a b)) ∧ Below w.heap.size w w' := ref_Check
  go_region_held3 (fun w' => Held w w' [(gt, 40, #[.int .i64 s1, .int .i64 s2]), (gs, 40, #[.int .i64 s1, .int .i64 s2]), (gk, 40, #[.int .i64 c1, .int .i64 c2]), (gc, 40, #[.int .i64 c1, .int .i64 c2]), (gn, 40, #[.int .i64 m1, .int .i64 m2]), (gm, 40, #[.int .i64 m1, .int .i64 m2]), (g1, 40, #[.int .i64 c, .int .i64 e]), (g0, 40, #[.int .i64 a, .int .i64 b])] ∧ w'.cell? ⟨g0, 0, none⟩ = some (.int .i64 a) ∧ w'.cell? ⟨g0, 1, none⟩ = some (.int .i64 b) ∧ w'.cell? ⟨gt, 0, none⟩ = some (.int .i64 s1) ∧ w'.cell? ⟨gt, 1, none⟩ = some (.int .i64 s2) ∧ w'.cell? ⟨gs, 0, none⟩ = some (.int .i64 s1) ∧ w'.cell? ⟨gs, 1, none⟩ = some (.int .i64 s2) ∧ w'.cell? ⟨gk, 0, none⟩ = some (.int .i64 c1) ∧ w'.cell? ⟨gk, 1, none⟩ = some (.int .i64 c2) ∧ w'.cell? ⟨gc, 0, none⟩ = some (.int .i64 c1) ∧ w'.cell? ⟨gc, 1, none⟩ = some (.int .i64 c2) ∧ w'.cell? ⟨gn, 0, none⟩ = some (.int .i64 m1) ∧ w'.cell? ⟨gn, 1, none⟩ = some (.int .i64 m2) ∧ w'.cell? ⟨gm, 0, none⟩ = some (.int .i64 m1) ∧ w'.cell? ⟨gm, 1, none⟩ = some (.int .i64 m2))
    (first | assumption | exact sp_both (by assumption) | exact sp_both (Held.drew (by assumption)))
    (first
      | (go_at_call 28; refine (ck _ _ _).mono ?_; rintro r w' ⟨rfl, hb⟩; have hh := Held.below (w0 := w) (l := [(gt, 40, #[.int .i64 s1, .int .i64 s2]), (gs, 40, #[.int .i64 s1, .int .i64 s2]), (gk, 40, #[.int .i64 c1, .int .i64 c2]), (gc, 40, #[.int .i64 c1, .int .i64 c2]), (gn, 40, #[.int .i64 m1, .int .i64 m2]), (gm, 40, #[.int .i64 m1, .int .i64 m2]), (g1, 40, #[.int .i64 c, .int .i64 e]), (g0, 40, #[.int .i64 a, .int .i64 b])]) (And.left (by assumption)) hb; have hq := sp_both hh)
      | (go_at_call 29; refine (rk _ _ _).mono ?_; rintro r w' ⟨rfl, hb⟩; have hh := Held.below (w0 := w) (l := [(gt, 40, #[.int .i64 s1, .int .i64 s2]), (gs, 40, #[.int .i64 s1, .int .i64 s2]), (gk, 40, #[.int .i64 c1, .int .i64 c2]), (gc, 40, #[.int .i64 c1, .int .i64 c2]), (gn, 40, #[.int .i64 m1, .int .i64 m2]), (gm, 40, #[.int .i64 m1, .int .i64 m2]), (g1, 40, #[.int .i64 c, .int .i64 e]), (g0, 40, #[.int .i64 a, .int .i64 b])]) (And.left (by assumption)) hb; have hq := sp_both hh))
  go_wp2_with fail
  go_ret
  exact ⟨rfl, hh.1⟩

theorem fixSpans_walk (x : Value) (y : Value) (d : Int) (wd : (Lit.int .i64 d).wf = true) (w : World) (hx : ∃ a b : Int, x = spanV a b) (hy : ∃ a b : Int, y = spanV a b) :
    Calls Try.prog 7 #[x, y, .int .i64 d] w fun r w' => r = .returned (.bool true) ∧ Below w.heap.size w w' := by
  obtain ⟨a, b, rfl⟩ := hx
  obtain ⟨c, e, rfl⟩ := hy
  exact fixSpans_at a b c e d w
end Go.Proofs.Ytcdphaejnmdpoaa
