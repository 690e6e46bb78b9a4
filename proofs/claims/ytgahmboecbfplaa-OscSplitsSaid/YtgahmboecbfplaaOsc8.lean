/- The law OscSplits: the first half, the cut way is put together. -/
import Derived.Test.YtgahmboecbfplaaOsc7
import Derived.Deep.RegionLaw
import Derived.Deep.RegionHeld3
import Derived.Deep.RegionHeldLaw
import Derived.Test.YtgahmboecbfplaaOscA
namespace Go.Proofs.Ytgahmboecbfplaa
set_option linter.unusedVariables false
set_option linter.unusedSimpArgs false
open Go.RowKit
attribute [local go_sem] max2_mm min2_mm max_two min_two

/-- In every world of the region that puts the way together. -/
structure LegS (w1 w : World) (bl o n i : Nat) (f : Nat → Leg) (x p : Int) : Prop where
  way : Way w1 (some ⟨bl, o, none⟩) n f
  bel : Below w1.heap.size w1 w
  hi : i < n
  hx : (f i).len = x
  hp : (f i).ppm = p
section
variable {w1 w w' : World} {bl o n i : Nat} {f : Nat → Leg} {x p : Int}
theorem LegS.alloc (h : LegS w1 w bl o n i f x p) (ob : Obj) : LegS w1 (w.alloc ob) bl o n i f x p := ⟨h.way, h.bel.alloc h.bel.size ob, h.hi, h.hx, h.hp⟩
theorem LegS.drew (h : LegS w1 w bl o n i f x p) : LegS w1 w.drew bl o n i f x p := ⟨h.way, h.bel.drew, h.hi, h.hx, h.hp⟩
theorem LegS.grown {v : Value} (h : LegS w1 w bl o n i f x p) (hg : w.grownBy w' v.ownBlock) (hr : ∀ k, v.ownBlock = some k → w1.heap.size ≤ k) : LegS w1 w' bl o n i f x p := ⟨h.way, h.bel.grown hg h.bel.size hr, h.hi, h.hx, h.hp⟩
theorem LegS.anew (h : LegS w1 w.drew bl o n i f x p) (ob : Obj) : LegS w1 (w.alloc ob).drew bl o n i f x p :=
  have b : Below w1.heap.size w1 w := ⟨h.bel.os, h.bel.tape, h.bel.output, h.bel.size, h.bel.block⟩
  LegS.drew (LegS.alloc ⟨h.way, b, h.hi, h.hx, h.hp⟩ ob)
theorem LegS.both (h : LegS w1 w bl o n i f x p) :
    LegS w1 w bl o n i f x p ∧ w.cell? ⟨bl, o + i * 2, none⟩ = some (.int .i64 x) ∧ w.cell? ⟨bl, o + i * 2 + 1, none⟩ = some (.int .i64 p) := by
  obtain ⟨b, o', e, hc⟩ := (h.way.below h.bel).2.2 (by have := h.hi; omega)
  simp only [Option.some.injEq, Addr.mk.injEq, and_true] at e
  obtain ⟨rfl, rfl⟩ := e
  have := hc i h.hi
  exact ⟨h, by rw [this.c0, h.hx], by rw [this.c1, h.hp]⟩
theorem LegS.news (h : LegS w1 w bl o n i f x p) : ∀ j u, (legCells f 0 i)[j]? = some u → w.cell? ((⟨bl, o, none⟩ : Addr).add j) = some u := by
  have := way_cells (k := 0) (m := i) (h.way.below h.bel) (by have := h.hi; omega)
  simpa using this
theorem LegS.newsS {A B : Prop} (h : LegS w1 w bl o n i f x p ∧ A ∧ B) : ∀ j u, (legCells f 0 i)[j]? = some u → w.cell? ((⟨bl, o, none⟩ : Addr).add j) = some u := h.1.news
theorem LegS.grownS {A B : Prop} {v : Value} (h : LegS w1 w bl o n i f x p ∧ A ∧ B) (hg : w.grownBy w' v.ownBlock) (hr : ∀ k, v.ownBlock = some k → w1.heap.size ≤ k) : LegS w1 w' bl o n i f x p := ⟨h.1.way, h.1.bel.grown hg h.1.bel.size hr, h.1.hi, h.1.hx, h.1.hp⟩
end
theorem hp1 (w : World) (o o2 : Obj) : ((w.alloc o).alloc o2).heap[w.heap.size]? = some o := (show ((w.alloc o).alloc o2).heap[w.heap.size]? = (w.alloc o).heap[w.heap.size]? from heap_alloc_old (w.alloc o) o2 (by simp)).trans (heap_alloc_new w o)
theorem hp2 (w : World) (o o2 : Obj) : ((w.alloc o).alloc o2).heap[w.heap.size + 1]? = some o2 := by
  have := heap_alloc_new (w.alloc o) o2
  rwa [World.size_alloc] at this
theorem all4 (q p u : Int) : ∀ v ∈ ([.int .i64 q, .int .i64 p, .int .i64 u, .int .i64 p] : List Value), v.oneCell' = true := by
  intro v hv
  simp only [List.mem_cons, List.not_mem_nil, or_false] at hv
  rcases hv with rfl | rfl | rfl | rfl <;> rfl
theorem cut_row (f : Nat → Leg) (i : Nat) : legCells f 0 i ++ ([.int .i64 ((f i).len.tdiv 3), .int .i64 (f i).ppm, .int .i64 ((f i).len - (f i).len.tdiv 3), .int .i64 (f i).ppm] : List Value) = legCells (cutW f i) 0 (i + 2) := by
  rw [show i + 2 = (i + 1) + 1 by omega, legCells_snoc, legCells_snoc, Nat.zero_add, Nat.zero_add, cut_at, cut_next, legCells_congr (f := cutW f i) (g := f) (k := 0) (k' := 0) (m := i) (fun j hj => by rw [Nat.zero_add, cut_lo hj])]
  simp only [legOne, legTwo, List.append_assoc, List.cons_append, List.nil_append]
theorem cut_all (f : Nat → Leg) (n i : Nat) (h : i < n) : legCells (cutW f i) 0 (i + 2) ++ legCells f (i + 1) (n - (i + 1)) = legCells (cutW f i) 0 (n + 1) := by
  have e : legCells (cutW f i) 0 (n + 1) = legCells (cutW f i) 0 (i + 2) ++ legCells (cutW f i) (i + 2) (n - (i + 1)) := by
    rw [show n + 1 = (i + 2) + (n - (i + 1)) by omega, legCells_add, Nat.zero_add]
  rw [e, legCells_congr (f := cutW f i) (g := f) (k := i + 2) (k' := i + 1) (m := n - (i + 1)) (fun j hj => by rw [show i + 2 + j = (i + 1 + j) + 1 by omega, cut_hi (by omega)])]

def SumRel (f : Nat → Leg) (n : Nat) (m : Nat) (sum i : Value) : Prop := ∃ k : Nat, k + m = n ∧ sum = .int .i64 (long f k) ∧ i = .int .i64 k
theorem cut_done {w w1 wc wg : World} {bl o n i : Nat} {f : Nat → Leg} {v v2 : Value} {L : List (Nat × TypeId × Array Value)} (hin : i < n) (hn2 : n * 16 ≤ 140737488351232)
    (hw : Way w1 (some ⟨bl, o, none⟩) n f) (hh : Held w w1 L) (bel : Below w1.heap.size w1 wc) (hgb : ∀ k, v.ownBlock = some k → w1.heap.size ≤ k)
    (hown : wg.ownsRow w1.heap.size 45 2 v2 (i + 2 + (n - (i + 1))) (legCells (cutW f i) 0 (i + 2) ++ legCells f (i + 1) (n - (i + 1)))) (hgrow : wc.grownBy wg v.ownBlock) :
    ∃ A' c', v2 = .slice A' (n + 1) c' ∧ Way wg A' (n + 1) (cutW f i) ∧ Way wg (some ⟨bl, o, none⟩) n f ∧ Held w wg L := by
  have b2 : Below w1.heap.size w1 wg := bel.grown hgrow bel.size hgb
  rw [cut_all f n i hin, show i + 2 + (n - (i + 1)) = n + 1 by omega] at hown
  obtain ⟨A', c', e, h⟩ := way_row hown (by omega) (by omega)
  exact ⟨A', c', e, h, hw.below b2, hh.below b2⟩

set_option maxRecDepth 100000 in
set_option maxHeartbeats 2000000 in
theorem oscSplits_do (A : Option Addr) (n c : Nat) (f : Nat → Leg) (at_ a b d m rho : Int) (w : World) (hw : Way w A n f) (hok : okN f n) (hn0 : 0 < n) (hnc : n ≤ c) (hn2 : n * 16 ≤ 140737488351232) (hat : -9223372036854775808 ≤ at_ ∧ at_ ≤ 9223372036854775807) :
    Calls Try.prog 6 #[.slice A n c, .int .i64 at_, spanV a b, .int .i64 d, .int .i64 m, .int .i64 rho] w fun e w' => e = .returned (.bool true) ∧ Below w.heap.size w w' := by
  have hn := hw.1
  obtain ⟨bl, o, rfl, hcell⟩ := hw.2.2 hn0
  clear hcell
  have hh := (Held.start w).push 34 #[.int .i64 a, .int .i64 b]
  have hc := hh.cells
  have hw := hw.alloc (.cells #[.int .i64 a, .int .i64 b] 34)
  simp only [Cells, and_true] at hc
  have HE := Lib.hid (show wayE f n = 0 by unfold wayE; rw [if_pos hok])
  obtain ⟨t1, t2, t3⟩ := tmod_form at_ (show 0 < (n : Int) by omega)
  have t4 := Int.emod_nonneg at_ (show (n : Int) ≠ 0 by omega)
  have t5 := Int.emod_lt_of_pos at_ (show 0 < (n : Int) by omega)
  obtain ⟨i, hi⟩ := Int.eq_ofNat_of_zero_le t4
  rw [hi] at t1 t5
  obtain ⟨r, hr⟩ : ∃ r, at_.tmod n = r := ⟨_, rfl⟩
  rw [hr] at t1 t2 t3
  have t6 : IntKind.i64.wrap r = r := wrap_i64_id (by omega) (by omega)
  have t7 : IntKind.i64.wrap (r + n) = r + n := wrap_i64_id (by omega) (by omega)
  have t8 : IntKind.i64.wrap (i : Int) = i := wrap_i64_id (by omega) (by omega)
  have hin : i < n := by omega
  have hic : i ≤ c := by omega
  have hic2 : (i : Int) ≤ (c : Int) := by omega
  have hic3 : (i : Int).toNat = i := by omega
  have n0 : ((n : Int) == 0) = false := beq_eq_false_iff_ne.mpr (by omega)
  have n1 : (0 : Int) < (n : Int) := by omega
  clear t4 hi
  unfold spanV
  go_enter Try.func6, Try.ntmps6
  go_upto_region 5 with (first
      | (go_at_call 7; refine (awake2_ok _).mono ?_; rintro e w1 ⟨rfl, hb⟩; have hw := Way.below hw hb; clear hc; have hh := (Held.below hh hb); have hc := hh.cells; simp only [Cells, and_true] at hc)
      | (go_at_call 10; refine (osc_Check _ _ _ _ _ hw).mono ?_; rintro e w1 ⟨rfl, hb⟩; rw [HE.out]; have hw := Way.below hw hb; clear hc; have hh := (Held.below hh hb); have hc := hh.cells; simp only [Cells, and_true] at hc))
  have HH := Lib.hid hh
  have HWW := Lib.hid hw
  obtain ⟨x, hx⟩ : ∃ x, (f i).len = x := ⟨_, rfl⟩
  obtain ⟨p, hp⟩ : ∃ x, (f i).ppm = x := ⟨_, rfl⟩
  have hS : LegS w1 w1 bl o n i f x p := ⟨hw, Below.refl _ _, hin, hx, hp⟩
  obtain ⟨x0, x1, p0, p1⟩ := hok i hin
  rw [hx] at x0 x1
  rw [hp] at p0 p1
  have x2 : x ≤ 1099511627776 := by have := long_bound (okN_mono hok (show i ≤ n by omega)); omega
  have hrow := cut_row f i
  rw [hx, hp] at hrow
  obtain ⟨q, hq⟩ : ∃ q, x.tdiv 3 = q := ⟨_, rfl⟩
  have q0 : 0 ≤ q := by rw [← hq]; exact Int.tdiv_nonneg x0 (by omega)
  have q1 : q ≤ x := by rw [← hq, Int.tdiv_eq_ediv_of_nonneg x0]; omega
  rw [hq] at hrow
  obtain ⟨u, hu⟩ : ∃ u, x - q = u := ⟨_, rfl⟩
  rw [hu] at hrow
  have q3 : IntKind.i64.wrap q = q := wrap_i64_id (by omega) (by omega)
  have q4 : IntKind.i64.wrap u = u := wrap_i64_id (by omega) (by omega)
  have by0 : (0 + i) * 16 ≤ 140737488355328 := by omega
  have by1 : (0 + i + 2) * 16 ≤ 140737488355328 := by omega
  have HROW := Lib.hid hrow
  have HX := Lib.hid hx
  have HP := Lib.hid hp
  have HOK := Lib.hid hok
  clear hrow hx hp hok hc hh hw
  go_cut [14] (fun s wc => ∃ v, v = s ∧ LegS w1 wc bl o n i f x p ∧ wc.ownsRow w1.heap.size 45 2 v (i + 2) (legCells (cutW f i) 0 (i + 2)))
  case first =>
    have hSb := hS.both
    go_region_held_law (fun w' => LegS w1 w' bl o n i f x p ∧ w'.cell? ⟨bl, o + i * 2, none⟩ = some (.int .i64 x) ∧ w'.cell? ⟨bl, o + i * 2 + 1, none⟩ = some (.int .i64 p))
      (first | assumption | exact LegS.both (by assumption) | exact LegS.both (LegS.drew (by assumption)) | exact LegS.both (LegS.alloc (by assumption) _) | exact LegS.both (LegS.drew (LegS.alloc (by assumption) _)) | exact LegS.both (LegS.anew (by assumption) _) | exact LegS.both (LegS.anew (And.left (by assumption)) _) | exact LegS.both (LegS.alloc (And.left (by assumption)) _) | exact LegS.both (LegS.drew (LegS.alloc (And.left (by assumption)) _)))
      (first
        | (refine app_step _ rfl 51 rfl (.tmp 47) (.tmp 50) rfl w1.heap.size (.slice (some ⟨w1.heap.size, 0, none⟩) 0 0) 0 [] (by simp [Act.eval, Act.put]) (row_empty (by first | exact heap_alloc_new w1 _ | exact hp1 w1 _ _) (by omega)) (some ⟨bl, o, none⟩) i c (legCells f 0 i) (by simp [Act.eval, Act.put]) (legCells_length _ _ _) (fun h => by cases h) (fun ad he => by cases he; exact LegS.newsS (by assumption)) (legCells_one _ _ _) by0 (by simp <;> omega) ?_; intro v1 wg hown1 hgrow1; have hSg := LegS.grownS (w1 := w1) (bl := bl) (o := o) (n := n) (i := i) (f := f) (x := x) (p := p) (by assumption) hgrow1 (by intro k hk; simp only [Value.ownBlock, Option.some.injEq] at hk; omega);
           first
             | have hL2 : wg.heap[w1.heap.size + 1]? = some (.cells #[.int .i64 q, .int .i64 p, .int .i64 u, .int .i64 p] 45) := (hgrow1.block _ (by simp <;> omega) (by simp [Value.ownBlock])).trans (hp2 w1 _ _)
             | have hL2 : wg.heap[w1.heap.size]? = some (.cells #[.int .i64 q, .int .i64 p, .int .i64 u, .int .i64 p] 45) := (hgrow1.block _ (by simp <;> omega) (by simp [Value.ownBlock])).trans (hp1 w1 _ _)
             | have hL2 := trivial)
        | (refine app_step _ rfl 51 rfl (.tmp 47) (.tmp 50) rfl w1.heap.size (.slice (some ⟨w1.heap.size + 1, 0, none⟩) 0 0) 0 [] (by simp [Act.eval, Act.put]) (row_empty (by exact hp2 w1 _ _) (by omega)) (some ⟨bl, o, none⟩) i c (legCells f 0 i) (by simp [Act.eval, Act.put]) (legCells_length _ _ _) (fun h => by cases h) (fun ad he => by cases he; exact LegS.newsS (by assumption)) (legCells_one _ _ _) by0 (by simp <;> omega) ?_; intro v1 wg hown1 hgrow1; have hSg := LegS.grownS (w1 := w1) (bl := bl) (o := o) (n := n) (i := i) (f := f) (x := x) (p := p) (by assumption) hgrow1 (by intro k hk; simp only [Value.ownBlock, Option.some.injEq] at hk; omega);
           first
             | have hL2 : wg.heap[w1.heap.size + 1]? = some (.cells #[.int .i64 q, .int .i64 p, .int .i64 u, .int .i64 p] 45) := (hgrow1.block _ (by simp <;> omega) (by simp [Value.ownBlock])).trans (hp2 w1 _ _)
             | have hL2 : wg.heap[w1.heap.size]? = some (.cells #[.int .i64 q, .int .i64 p, .int .i64 u, .int .i64 p] 45) := (hgrow1.block _ (by simp <;> omega) (by simp [Value.ownBlock])).trans (hp1 w1 _ _)
             | have hL2 := trivial)
        | (refine app_step _ rfl 83 rfl (.tmp 51) (.tmp 82) rfl w1.heap.size v1 (0 + i) ([] ++ legCells f 0 i) (by simp [Act.eval, Act.put]) (by first | assumption | exact World.ownsRow.alloc (by assumption) _ | exact World.ownsRow.drew (by assumption) | exact World.ownsRow.drew (World.ownsRow.alloc (by assumption) _)) (some ⟨wg.heap.size, 0, none⟩) 2 2 [.int .i64 q, .int .i64 p, .int .i64 u, .int .i64 p] (by simp [Act.eval, Act.put]) rfl (fun h => by cases h) (fun ad he => by cases he; exact World.news_of_block (by first | assumption | exact heap_alloc_new wg _)) (all4 _ _ _) by1 (by have := hSg.bel.size; simp <;> omega) ?_; intro v2 wh hown2 hgrow2; have hrb := row_base hown1; have hSh := LegS.grownS (w1 := w1) (bl := bl) (o := o) (n := n) (i := i) (f := f) (x := x) (p := p) (by assumption) hgrow2 hrb)
        | (refine app_step _ rfl 83 rfl (.tmp 51) (.tmp 82) rfl w1.heap.size v1 (0 + i) ([] ++ legCells f 0 i) (by simp [Act.eval, Act.put]) (by first | assumption | exact World.ownsRow.alloc (by assumption) _ | exact World.ownsRow.drew (by assumption) | exact World.ownsRow.drew (World.ownsRow.alloc (by assumption) _)) (some ⟨w1.heap.size + 1, 0, none⟩) 2 2 [.int .i64 q, .int .i64 p, .int .i64 u, .int .i64 p] (by simp [Act.eval, Act.put]) rfl (fun h => by cases h) (fun ad he => by cases he; exact World.news_of_block (by first | assumption | exact heap_alloc_new wg _)) (all4 _ _ _) by1 (by have := hSg.bel.size; simp <;> omega) ?_; intro v2 wh hown2 hgrow2; have hrb := row_base hown1; have hSh := LegS.grownS (w1 := w1) (bl := bl) (o := o) (n := n) (i := i) (f := f) (x := x) (p := p) (by assumption) hgrow2 hrb)
        | (refine app_step _ rfl 83 rfl (.tmp 51) (.tmp 82) rfl w1.heap.size v1 (0 + i) ([] ++ legCells f 0 i) (by simp [Act.eval, Act.put]) (by first | assumption | exact World.ownsRow.alloc (by assumption) _ | exact World.ownsRow.drew (by assumption) | exact World.ownsRow.drew (World.ownsRow.alloc (by assumption) _)) (some ⟨w1.heap.size, 0, none⟩) 2 2 [.int .i64 q, .int .i64 p, .int .i64 u, .int .i64 p] (by simp [Act.eval, Act.put]) rfl (fun h => by cases h) (fun ad he => by cases he; exact World.news_of_block (by first | assumption | exact heap_alloc_new wg _)) (all4 _ _ _) by1 (by have := hSg.bel.size; simp <;> omega) ?_; intro v2 wh hown2 hgrow2; have hrb := row_base hown1; have hSh := LegS.grownS (w1 := w1) (bl := bl) (o := o) (n := n) (i := i) (f := f) (x := x) (p := p) (by assumption) hgrow2 hrb))
    all_goals
      go_wp2_with fail
      go_meet
      case rel => exact ⟨_, rfl, by assumption, by have h2 := hown2; rw [List.nil_append, HROW.out] at h2; simpa using h2⟩
  case rest =>
    obtain ⟨v, rfl, hls, hrow⟩ := hcut
    have hh := HH.out.below hls.bel
    have hw := hls.way.below hls.bel
    have hbase := hls.bel.size
    have BEL := Lib.hid hls.bel
    clear hls hS
    have i2 : ((i : Int) + 1) ≤ (n : Int) := by omega
    have i3 : ((i : Int) + 1).toNat = i + 1 := by omega
    have i4 : i + 1 ≤ n := hin
    have i5 : i + 1 ≤ c := by omega
    have i6 : ((i : Int) + 1) ≤ (c : Int) := by omega
    have HROW2 := Lib.hid hrow
    have hgb := row_base hrow
    go_upto_region 6 with (fail)
    go_cut [14] (fun s wc => ∃ A' c', s = .slice A' (n + 1) c' ∧ Way wc A' (n + 1) (cutW f i) ∧ Way wc (some ⟨bl, o, none⟩) n f ∧ Held w wc [(w.heap.size, 34, #[.int .i64 a, .int .i64 b])])
    case first =>
      by_cases hcc : c = i + 1
      · have hm0 : n - (i + 1) = 0 := by omega
        have hnews : ∀ j u, (legCells f (i + 1) (n - (i + 1)))[j]? = some u → wc.cell? ((⟨bl, o, none⟩ : Addr).add j) = some u := by
          rw [hm0]
          intro j u hu
          cases hu
        go_wp2_with (at_builtin; go_loud (refine app_list _ rfl 89 rfl (.tmp 84) (.tmp 88) rfl w1.heap.size v (i + 2) _ (by simp [Act.eval, Act.put]) hrow (some ⟨bl, o, none⟩) (n - (i + 1)) (c - (i + 1)) (legCells f (i + 1) (n - (i + 1))) (by simp [Act.eval, Act.put, hcc] <;> omega) (legCells_length _ _ _) (fun h => by cases h) (fun ad he => by cases he; exact hnews) (legCells_one _ _ _) (by omega) hbase ?_); intro v2 wg hown2 hgrow2)
        rw [← hcc]
        go_meet
        case rel => exact cut_done hin hn2 HWW.out HH.out BEL.out hgb hown2 hgrow2
      · have hnews := way_cells (k := i + 1) (m := n - (i + 1)) hw (by omega)
        go_wp2_with (at_builtin; go_loud (refine app_list _ rfl 89 rfl (.tmp 84) (.tmp 88) rfl w1.heap.size v (i + 2) _ (by simp [Act.eval, Act.put]) hrow (some ⟨bl, o + (i + 1) * 2, none⟩) (n - (i + 1)) (c - (i + 1)) (legCells f (i + 1) (n - (i + 1))) (by simp [Act.eval, Act.put, hcc] <;> omega) (legCells_length _ _ _) (fun h => by cases h) (fun ad he => by cases he; exact hnews) (legCells_one _ _ _) (by omega) hbase ?_); intro v2 wg hown2 hgrow2)
        go_meet
        case rel => exact cut_done hin hn2 HWW.out HH.out BEL.out hgb hown2 hgrow2
    case rest =>
      obtain ⟨A', c', rfl, hcw, hw, hh⟩ := hcut
      clear hrow HROW2 hgb BEL hbase i2 i3 i4 i5 i6
      have HW1 := Lib.hid hw
      have HC1 := Lib.hid hcw
      have HH1 := Lib.hid hh
      go_wp2_with fail
      generalize wc = W at *
      have hloop : (i : Int) + 1 ≤ n := by omega
      go_loopg [15, 16] (i + 1) (fun m s k wr => SumRel f (i + 1) m s k ∧ wr = W)
      case atStart => exact ⟨⟨0, by omega, rfl, rfl⟩, rfl⟩
      case round =>
        obtain ⟨⟨k, hkm, rfl, rfl⟩, rfl⟩ := hrel
        obtain ⟨l0, l1⟩ := long_bound (okN_mono HOK.out (show k ≤ n by omega))
        rcases Nat.lt_or_ge k (i + 1) with hlt | hge
        · have hkn : (k : Int) ≤ (i : Int) := by omega
          have hkn2 : (k : Int) < (n : Int) := by omega
          obtain ⟨b', o', e, hcell⟩ := HW1.out.2.2 (by omega)
          simp only [Option.some.injEq, Addr.mk.injEq, and_true] at e
          obtain ⟨rfl, rfl⟩ := e
          obtain ⟨e0, e1, eb⟩ := hcell k (by omega)
          obtain ⟨m0, m1⟩ := long_bound (okN_mono HOK.out (show k + 1 ≤ n by omega))
          have hl : long f (k + 1) = long f k + (f k).len := rfl
          obtain ⟨x', hx'⟩ : ∃ x, (f k).len = x := ⟨_, rfl⟩
          obtain ⟨s', hs'⟩ : ∃ x, long f k = x := ⟨_, rfl⟩
          rw [hx'] at e0 hl
          rw [hs'] at hl l0 l1 ⊢
          rw [hl] at m0 m1
          have HL := Lib.hid hl
          clear hl hx' hs' hcell hw hh hcw
          go_wp2_with fail
          go_roundg (gk - 1)
          case measure => omega
          case rel => exact ⟨⟨k + 1, by omega, by rw [HL.out], by go_num⟩, rfl⟩
        · have hkn : ¬ (k : Int) ≤ (i : Int) := by omega
          have hkn' : k = i + 1 := by omega
          subst hkn'
          have hlm := long_mono HOK.out (show i + 1 ≤ n by omega)
          obtain ⟨S, hs⟩ : ∃ x, long f (i + 1) = x := ⟨_, rfl⟩
          rw [hs] at l0 l1 hlm ⊢
          obtain ⟨T, hT⟩ : ∃ x, S.tdiv 2 = x := ⟨_, rfl⟩
          have hT2 : T = S / 2 := by rw [← hT, Int.tdiv_eq_ediv_of_nonneg l0]
          have T0 : 0 ≤ T := by omega
          have T1 : T ≤ S := by omega
          have T2 : IntKind.i64.wrap T = T := wrap_i64_id (by omega) (by omega)
          obtain ⟨hv, he, he'⟩ := cut_raw HOK.out hin T0 (by omega)
          obtain ⟨V, hV⟩ : ∃ x, rawV f n T = x := ⟨_, rfl⟩
          rw [hV] at hv
          have VV := Lib.hid hV
          have VC := Lib.hid hv
          have EV := Lib.hid he
          have EC := Lib.hid he'
          clear hs hT2 hlm hV hv he he' hh
          have q0' := Int.emod_nonneg d (show (274877906944 : Int) ≠ 0 by omega)
          have q1' := Int.emod_lt_of_pos d (show (0 : Int) < 274877906944 by omega)
          have q2' := Int.emod_nonneg m (show (274877906944 : Int) ≠ 0 by omega)
          have q3' := Int.emod_lt_of_pos m (show (0 : Int) < 274877906944 by omega)
          obtain ⟨D, hD⟩ : ∃ x, d % 274877906944 = x := ⟨_, rfl⟩
          obtain ⟨M, hM⟩ : ∃ x, m % 274877906944 = x := ⟨_, rfl⟩
          rw [hD] at q0' q1'
          rw [hM] at q2' q3'
          have MD := Lib.hid hD
          have MM := Lib.hid hM
          obtain ⟨x1, x2, y1, y2, z1, z2, e, g, v1, e1, v2, e2, v3, e3, hcase⟩ := splits_facts a b D M rho q0' q1' q2' q3'
          have V1 := Lib.hid v1
          have V2 := Lib.hid v2
          have V3 := Lib.hid v3
          have E1 := Lib.hid e1
          have E2 := Lib.hid e2
          have E3 := Lib.hid e3
          clear hD hM v1 v2 v3 e1 e2 e3
          have hh := HH1.out
          have hw := HW1.out
          have hcw := HC1.out
          have hc := hh.cells
          simp only [Cells, and_true] at hc
          rcases hcase with ⟨rfl, rfl, k1, k2⟩ | rfl | rfl
          all_goals
            go_wp2_with (first
              | (go_at_call 8; refine (osc_Raw _ _ _ _ _ _ (by assumption) (by omega)).mono ?_; rintro e w1 ⟨rfl, hb⟩; (first | rw [VV.out, EV.out] | rw [VC.out, EC.out]); have hw := Way.below hw hb; have hcw := Way.below hcw hb; clear hc; have hh := (Held.below hh hb); have hc := hh.cells; simp only [Cells, and_true] at hc)
              | (go_at_call 16; refine (law_into _ _ (by omega) (by omega) _).mono ?_; rintro e w' ⟨rfl, rfl⟩; (first | rw [MD.out] | rw [MM.out]))
              | (go_at_call 14; refine (osc_Age _ _ _ _ _).mono ?_; rintro e w1 ⟨rfl, hb⟩; first | (rw [V1.out, E1.out]; clear hc; have hh := (Held.below hh hb).push 34 #[.int .i64 x1, .int .i64 x2]; have hc := hh.cells; simp only [Cells, and_true] at hc) | (rw [V2.out, E2.out]; clear hc; have hh := (Held.below hh hb).push 34 #[.int .i64 y1, .int .i64 y2]; have hc := hh.cells; simp only [Cells, and_true] at hc) | (rw [V3.out, E3.out]; clear hc; have hh := (Held.below hh hb).push 34 #[.int .i64 z1, .int .i64 z2]; have hc := hh.cells; simp only [Cells, and_true] at hc)))
            go_ret
            exact ⟨rfl, hh.1⟩
end Go.Proofs.Ytgahmboecbfplaa
