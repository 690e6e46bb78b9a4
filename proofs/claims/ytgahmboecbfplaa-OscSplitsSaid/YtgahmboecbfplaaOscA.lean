/- Legs are appended: the kit's law at this type. -/
import Derived.Test.YtgahmboecbfplaaOscW
import Derived.Deep.AppendLies
import Derived.Laws.OwnMore
import Derived.OwnWalk
namespace Go.Proofs.Ytgahmboecbfplaa
set_option linter.unusedVariables false
set_option linter.unusedSimpArgs false
open Go.RowKit

theorem legInfo : (Try.prog.info? 45).map (fun i => (i.zero, i.size, i.bytes)) = some (some (.agg #[.int .i64 0, .int .i64 0]), 2, 16) := by kernel_rfl
theorem app_legs (w : World) {ops : Array Oper} {o : Oper} {a : Act} {K : Act → World → Prop} {Q : Exit → Act → World → Prop} {E : Prop} (hgd : o.guard = none) (s x : Operand)
    (ho : o.op = .call { callee := .builtin .append, args := #[s, x], argTypes := #[22, 22] }) (base : Nat)
    (v : Value) (n : Nat) (xs : List Value) (hs : a.eval s = v) (hown : w.ownsRow base 45 2 v n xs)
    (ad : Addr) (m c : Nat) (news : List Value) (hx : a.eval x = .slice (some ad) m c) (hl : news.length = m * 2) (hnews : ∀ j u, news[j]? = some u → w.cell? (ad.add j) = some u) (h1 : ∀ u ∈ news, u.oneCell' = true)
    (hm : 0 < m) (hbytes : (n + m) * 16 ≤ 140737488355328) (hbase : base ≤ w.heap.size)
    (h : ∀ g cap w', w'.ownsRow base 45 2 (.slice (some ⟨g, 0, none⟩) (n + m) cap) (n + m) (xs ++ news) → w.grownBy w' v.ownBlock → (v.ownBlock = some g ∨ g = w.heap.size) → g < w'.heap.size → K (a.put o.dst (.slice (some ⟨g, 0, none⟩) (n + m) cap)) w') :
    if Region.wanted o (yielded ops a.tmps) = true then Oper.wp Try.prog o a w K Q else E := by
  obtain ⟨i0, hi, hzz⟩ := Option.map_eq_some_iff.1 legInfo
  simp only [Prod.mk.injEq] at hzz
  obtain ⟨hz0, hz1, hz2⟩ := hzz
  exact step_append_lies w hgd s x 22 ho base 45 i0 _ 2 16 Try.underlying22 hi hz0 hz1 hz2 rfl (by omega) v n xs hs hown ad m c news hx hl hnews h1 hm (by simp only [maxLen]; omega) hbytes hbase w.heap.size rfl h

/-- Any slice is appended, nil and empty ones too. -/
theorem app_run (w : World) (ty : TypeId) (base : Nat) (v : Value) (n : Nat) (xs : List Value) (hown : w.ownsRow base 45 2 v n xs)
    (ao : Option Addr) (m c : Nat) (news : List Value) (hl : news.length = m * 2) (hnone : ao = none → m = 0 ∧ c = 0) (hnews : ∀ ad, ao = some ad → ∀ j u, news[j]? = some u → w.cell? (ad.add j) = some u) (h1 : ∀ u ∈ news, u.oneCell' = true)
    (hbytes : (n + m) * 16 ≤ 140737488355328) (hbase : base ≤ w.heap.size) :
    ∃ v' w', (Builtin.append_ #[22, 22] ty #[v, .slice ao m c]).run Try.prog w = .ok v' w' ∧ w'.ownsRow base 45 2 v' (n + m) (xs ++ news) ∧ w.grownBy w' v.ownBlock ∧ (v'.ownBlock = v.ownBlock ∨ v'.ownBlock = some w.heap.size) := by
  obtain ⟨i0, hi, hzz⟩ := Option.map_eq_some_iff.1 legInfo
  simp only [Prod.mk.injEq] at hzz
  obtain ⟨hz0, hz1, hz2⟩ := hzz
  cases ao with
  | some ad =>
    obtain ⟨v', w', hr, h2, h3, _, h5⟩ := run_append_own_at (P := Try.prog) w base 22 ty 45 i0 _ 2 16 Try.underlying22 hi hz0 hz1 hz2 rfl (by omega) v n xs hown ad m c news hl (hnews ad rfl) h1 (by simp only [maxLen]; omega) hbytes hbase
    exact ⟨v', w', hr, h2, h3, h5⟩
  | none =>
    obtain ⟨rfl, rfl⟩ := hnone rfl
    have hn : news = [] := List.eq_nil_of_length_eq_zero (by simpa using hl)
    subst hn
    exact ⟨v, w, run_append_owned_none (P := Try.prog) w base 22 ty 45 i0 2 Try.underlying22 hi v n xs hown, by simpa using hown, World.grownBy.refl _ _, Or.inl rfl⟩
/-- At a step of a region that draws. -/
theorem app_step (w : World) {ops : Array Oper} {o : Oper} {a : Act} {K : Act → World → Prop} {Q : Exit → Act → World → Prop} {E : Prop} (hgd : o.guard = none) (d : Nat) (hd : o.dst = some d) (s x : Operand)
    (ho : o.op = .call { callee := .builtin .append, args := #[s, x], argTypes := #[22, 22] }) (base : Nat)
    (v : Value) (n : Nat) (xs : List Value) (hs : a.eval s = v) (hown : w.ownsRow base 45 2 v n xs)
    (ao : Option Addr) (m c : Nat) (news : List Value) (hx : a.eval x = .slice ao m c) (hl : news.length = m * 2) (hnone : ao = none → m = 0 ∧ c = 0) (hnews : ∀ ad, ao = some ad → ∀ j u, news[j]? = some u → w.cell? (ad.add j) = some u) (h1 : ∀ u ∈ news, u.oneCell' = true)
    (hbytes : (n + m) * 16 ≤ 140737488355328) (hbase : base ≤ w.heap.size)
    (h : ∀ v' w', w'.ownsRow base 45 2 v' (n + m) (xs ++ news) → w.grownBy w' v.ownBlock → K (a.put (some d) v') w') :
    if Region.wanted o (yielded ops a.tmps) = true then Oper.wp Try.prog o a w K Q else E := by
  have hw : Region.wanted o (yielded ops a.tmps) = true := by unfold Region.wanted; rw [hgd]
  rw [if_pos hw]
  obtain ⟨v', w', hr, h2, h3, h5⟩ := app_run w o.type base v n xs hown ao m c news hl hnone hnews h1 hbytes hbase
  unfold Oper.wp execOp
  simp only [ho, resolve, invoke, builtin, Sem.run_bind, Sem.run_pure, Result.andThen_ok, List.map_toArray, List.map_cons, List.map_nil, hs, hx, hr]
  have hk := h v' w' h2 h3
  rw [← hd] at hk
  exact hk
/-- In a plain region. -/
theorem app_list (w : World) {ops : Array Oper} {rest : List Oper} {o : Oper} {a : Act} {Q : Exit → Act → World → Prop} (hgd : o.guard = none) (d : Nat) (hd : o.dst = some d) (s x : Operand)
    (ho : o.op = .call { callee := .builtin .append, args := #[s, x], argTypes := #[22, 22] }) (base : Nat)
    (v : Value) (n : Nat) (xs : List Value) (hs : a.eval s = v) (hown : w.ownsRow base 45 2 v n xs)
    (ao : Option Addr) (m c : Nat) (news : List Value) (hx : a.eval x = .slice ao m c) (hl : news.length = m * 2) (hnone : ao = none → m = 0 ∧ c = 0) (hnews : ∀ ad, ao = some ad → ∀ j u, news[j]? = some u → w.cell? (ad.add j) = some u) (h1 : ∀ u ∈ news, u.oneCell' = true)
    (hbytes : (n + m) * 16 ≤ 140737488355328) (hbase : base ≤ w.heap.size)
    (h : ∀ v' w', w'.ownsRow base 45 2 v' (n + m) (xs ++ news) → w.grownBy w' v.ownBlock → wpList Try.prog ops Q rest (a.put (some d) v') w') : wpList Try.prog ops Q (o :: rest) a w := by
  refine wpList_plain hgd fun K hK => ?_
  obtain ⟨v', w', hr, h2, h3, h5⟩ := app_run w o.type base v n xs hown ao m c news hl hnone hnews h1 hbytes hbase
  unfold Oper.wp execOp
  simp only [ho, resolve, invoke, builtin, Sem.run_bind, Sem.run_pure, Result.andThen_ok, List.map_toArray, List.map_cons, List.map_nil, hs, hx, hr]
  have hk := h v' w' h2 h3
  rw [← hd] at hk
  exact hK _ _ hk
/-- An empty row. -/
theorem row_empty {w : World} {g base : Nat} (hg : w.heap[g]? = some (.cells #[] 45)) (hb : base ≤ g) : w.ownsRow base 45 2 (.slice (some ⟨g, 0, none⟩) 0 0) 0 [] :=
  ⟨rfl, .inr ⟨g, 0, #[], rfl, hb, hg, Nat.le_refl _, by simp [maxLen], rfl, rfl⟩⟩
/-- What a row owns lies behind its base. -/
theorem row_base {w : World} {base e size n : Nat} {v : Value} {xs : List Value} (h : w.ownsRow base e size v n xs) : ∀ k, v.ownBlock = some k → base ≤ k := by
  intro k hk
  rcases h.2 with ⟨rfl, _⟩ | ⟨g, cap, cur, rfl, hb, _⟩
  · cases hk
  · simp only [Value.ownBlock, Option.some.injEq] at hk
    omega

/-- The cells of the legs from k on, m of them. -/
def legCells (f : Nat → Leg) (k : Nat) : Nat → List Value
  | 0 => []
  | m + 1 => .int .i64 (f k).len :: .int .i64 (f k).ppm :: legCells f (k + 1) m
theorem legCells_length (f : Nat → Leg) (k m : Nat) : (legCells f k m).length = m * 2 := by
  induction m generalizing k with
  | zero => rfl
  | succ m ih => simp only [legCells, List.length_cons, ih]; omega
theorem legCells_one (f : Nat → Leg) (k m : Nat) : ∀ u ∈ legCells f k m, u.oneCell' = true := by
  induction m generalizing k with
  | zero => intro u hu; cases hu
  | succ m ih =>
    intro u hu
    simp only [legCells, List.mem_cons] at hu
    rcases hu with rfl | rfl | hu
    · rfl
    · rfl
    · exact ih _ u hu
theorem legCells_get (f : Nat → Leg) (k m j : Nat) (hj : j < m) : (legCells f k m)[j * 2]? = some (.int .i64 (f (k + j)).len) ∧ (legCells f k m)[j * 2 + 1]? = some (.int .i64 (f (k + j)).ppm) := by
  induction m generalizing k j with
  | zero => omega
  | succ m ih =>
    rcases j with _ | j
    · exact ⟨rfl, rfl⟩
    · have := ih (k + 1) j (by omega)
      rw [show (j + 1) * 2 = j * 2 + 1 + 1 by omega]
      simp only [legCells, List.getElem?_cons_succ]
      rw [show k + (j + 1) = k + 1 + j by omega]
      exact this
/-- A row of legs reads as a way. -/
theorem way_cells {w : World} {bl o n k m : Nat} {f : Nat → Leg} (h : Way w (some ⟨bl, o, none⟩) n f) (hk : k + m ≤ n) : ∀ j u, (legCells f k m)[j]? = some u → w.cell? ((⟨bl, o + k * 2, none⟩ : Addr).add j) = some u := by
  intro j u hu
  have hj : j < m * 2 := by
    have := (List.getElem?_eq_some_iff.1 hu).1
    rw [legCells_length] at this
    exact this
  obtain ⟨b, o', e, hc⟩ := h.2.2 (by omega)
  simp only [Option.some.injEq, Addr.mk.injEq, and_true] at e
  obtain ⟨rfl, rfl⟩ := e
  have ha : (⟨bl, o + k * 2, none⟩ : Addr).add j = ⟨bl, o + k * 2 + j, none⟩ := by unfold Addr.add; split <;> simp_all
  rw [ha]
  rcases (show j = (j / 2) * 2 ∨ j = (j / 2) * 2 + 1 by omega) with e | e
  · have g := (legCells_get f k m (j / 2) (by omega)).1
    have c0 := (hc (k + j / 2) (by omega)).c0
    rw [← e, hu] at g
    rw [g, ← c0]
    congr 2
    omega
  · have g := (legCells_get f k m (j / 2) (by omega)).2
    have c0 := (hc (k + j / 2) (by omega)).c1
    rw [← e, hu] at g
    rw [g, ← c0]
    congr 2
    omega
theorem legCells_snoc (f : Nat → Leg) (k m : Nat) : legCells f k (m + 1) = legCells f k m ++ [.int .i64 (f (k + m)).len, .int .i64 (f (k + m)).ppm] := by
  induction m generalizing k with
  | zero => simp [legCells]
  | succ m ih =>
    rw [legCells, ih (k + 1), legCells, show k + 1 + m = k + (m + 1) by omega]
    rfl
theorem legCells_congr {f g : Nat → Leg} {k k' m : Nat} (h : ∀ j, j < m → f (k + j) = g (k' + j)) : legCells f k m = legCells g k' m := by
  induction m generalizing k k' with
  | zero => rfl
  | succ m ih =>
    have h0 := h 0 (by omega)
    simp only [Nat.add_zero] at h0
    simp only [legCells, h0]
    rw [ih (k := k + 1) (k' := k' + 1) (fun j hj => by have := h (j + 1) (by omega); rw [show k + 1 + j = k + (j + 1) by omega, show k' + 1 + j = k' + (j + 1) by omega]; exact this)]
theorem legCells_add (f : Nat → Leg) (k a b : Nat) : legCells f k (a + b) = legCells f k a ++ legCells f (k + a) b := by
  induction a generalizing k with
  | zero => simp [legCells]
  | succ a ih =>
    rw [show a + 1 + b = a + b + 1 by omega, legCells, ih (k + 1), legCells, show k + 1 + a = k + (a + 1) by omega]
    rfl
/-- A row of legs that the call owns is a way. -/
theorem way_row {w : World} {base n : Nat} {v : Value} {f : Nat → Leg} (h : w.ownsRow base 45 2 v n (legCells f 0 n)) (hn : n ≤ 140737488351232) (h0 : 0 < n) : ∃ A c, v = .slice A n c ∧ Way w A n f := by
  obtain ⟨g, cap, rfl, hb, hlt⟩ := h.form h0
  refine ⟨_, _, rfl, hn, (fun h => by cases h), fun _ => ⟨g, 0, rfl, fun i hi => ?_⟩⟩
  obtain ⟨g0, g1⟩ := legCells_get f 0 n i hi
  refine ⟨?_, ?_, hlt⟩
  · rw [Nat.zero_add, h.cellAt (i * 2) (by omega), g0, Nat.zero_add]
  · rw [Nat.zero_add, h.cellAt (i * 2 + 1) (by omega), g1, Nat.zero_add]
end Go.Proofs.Ytgahmboecbfplaa
