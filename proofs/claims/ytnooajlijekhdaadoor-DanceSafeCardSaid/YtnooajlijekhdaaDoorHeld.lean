/- Blocks that this call has made (or found), known whole, while other calls make more memory: of no program. -/
import Derived.Test.YtnooajlijekhdaaDoorK
namespace Go.Proofs.YtnooajlijekhdaaDoor
set_option linter.unusedVariables false
set_option linter.unusedSimpArgs false
open Go.RowKit

/-- Nothing of w0 has turned, and the blocks of the list stand. -/
def Held (w0 w : World) (l : List (Nat × TypeId × Array Value)) : Prop := Below w0.heap.size w0 w ∧ w0.heap.size ≤ w.heap.size ∧ ∀ x ∈ l, Blk w x.1 x.2.1 x.2.2
/-- What the blocks hold, cell by cell. -/
def Cells (w : World) : List (Nat × TypeId × Array Value) → Prop
  | [] => True
  | x :: l => (∀ i, w.cell? ⟨x.1, i, none⟩ = x.2.2[i]?) ∧ (∀ i, w.frozen? ⟨x.1, i, none⟩ = false) ∧ Cells w l
section
variable {w0 w w' : World} {l : List (Nat × TypeId × Array Value)} {t : TypeId} {cs : Array Value}
theorem Held.start (w : World) : Held w w [] := ⟨Below.refl _ _, Nat.le_refl _, fun x hx => by cases hx⟩
theorem Held.of (h : Below w0.heap.size w0 w) : Held w0 w [] := ⟨h, h.size, fun x hx => by cases hx⟩
theorem Held.bel (h : Held w0 w l) : Below w0.heap.size w0 w := h.1
theorem Held.below (h : Held w0 w l) (b : Below w.heap.size w w') : Held w0 w' l :=
  ⟨below_then h.1 h.2.1 b, Nat.le_trans h.2.1 b.size, fun x hx => (h.2.2 x hx).below b (h.2.2 x hx).lt⟩
theorem Held.alloc (h : Held w0 w l) (o : Obj) : Held w0 (w.alloc o) l := h.below ((Below.refl _ _).alloc (Nat.le_refl _) _)
theorem Held.drew (h : Held w0 w l) : Held w0 w.drew l := h.below ⟨rfl, rfl, rfl, Nat.le_refl _, fun _ _ => rfl⟩
theorem Held.drewN (h : Held w0 w l) (n : Nat) : Held w0 (w.drewN n) l := h.below ⟨rfl, rfl, rfl, Nat.le_refl _, fun _ _ => rfl⟩
theorem Held.push (h : Held w0 w l) (t : TypeId) (cs : Array Value) : Held w0 (w.alloc (.cells cs t)) ((w.heap.size, t, cs) :: l) := by
  refine ⟨(h.alloc _).1, (h.alloc _).2.1, fun x hx => ?_⟩
  rcases List.mem_cons.1 hx with rfl | hx
  · exact Blk.new w t cs
  · exact (h.alloc _).2.2 x hx
theorem Held.cells (h : Held w0 w l) : Cells w l := by
  obtain ⟨_, _, h⟩ := h
  induction l with
  | nil => trivial
  | cons x l ih => exact ⟨fun i => (h x (by simp)).cell i, fun i => (h x (by simp)).frozen i, ih fun y hy => h y (by simp [hy])⟩
theorem Held.tail {x : Nat × TypeId × Array Value} (h : Held w0 w (x :: l)) : Held w0 w l := ⟨h.1, h.2.1, fun y hy => h.2.2 y (by simp [hy])⟩
theorem Held.frozen {x : Nat × TypeId × Array Value} (h : Held w0 w l) (hx : x ∈ l) (i : Nat) : w.frozen? ⟨x.1, i, none⟩ = false := (h.2.2 x hx).frozen i
theorem Held.setCell (h : Held w0 w l) {p : Addr} (hp : w0.heap.size ≤ p.block) (hn : ∀ x ∈ l, x.1 ≠ p.block) (u : Value) : Held w0 (w.setCell p u) l :=
  ⟨h.1.setCell hp u, by simpa [World.setCell] using h.2.1, fun x hx => (h.2.2 x hx).far (hn x hx) u⟩
/-- One cell of one block is written. -/
theorem Held.put (h : Held w0 w l) (g i : Nat) (u : Value) (hg : w0.heap.size ≤ g) :
    Held w0 (w.setCell ⟨g, i, none⟩ u) (l.map fun x => if x.1 = g then (x.1, x.2.1, x.2.2.setIfInBounds i u) else x) := by
  refine ⟨h.1.setCell hg u, by simpa [World.setCell] using h.2.1, fun x hx => ?_⟩
  obtain ⟨y, hy, rfl⟩ := List.mem_map.1 hx
  by_cases e : y.1 = g
  · rw [if_pos e]
    have := (h.2.2 y hy).set_ i u
    rw [e] at this ⊢
    exact this
  · rw [if_neg e]
    exact (h.2.2 y hy).far e u
/-- A two-cell block, written whole: what it reads as. -/
theorem Held.res {g : Nat} {a b : Value} (h : Held w0 w l) (u v : Value) (hx : (g, t, #[a, b]) ∈ l) :
    ((w.setCell ⟨g, 0, none⟩ u).setCell ⟨g, 1, none⟩ v).cell? ⟨g, 0, none⟩ = some u ∧ ((w.setCell ⟨g, 0, none⟩ u).setCell ⟨g, 1, none⟩ v).cell? ⟨g, 1, none⟩ = some v := by
  have hb := ((h.2.2 _ hx).set_ 0 u).set_ 1 v
  exact ⟨by rw [hb.cell 0]; rfl, by rw [hb.cell 1]; rfl⟩
/-- In a region that draws: the state and its cells. -/
theorem Held.hc (h : Held w0 w l) : Held w0 w l ∧ Cells w l := ⟨h, h.cells⟩
theorem Held.hc1 {g1 : Nat} {t1 : TypeId} {c1 : Array Value} (h : Held w0 w [(g1, t1, c1)]) : Held w0 w [(g1, t1, c1)] ∧ ∀ i, w.cell? ⟨g1, i, none⟩ = c1[i]? := ⟨h, h.cells.1⟩
theorem Held.hc2 {g1 g2 : Nat} {t1 t2 : TypeId} {c1 c2 : Array Value} (h : Held w0 w [(g1, t1, c1), (g2, t2, c2)]) :
    Held w0 w [(g1, t1, c1), (g2, t2, c2)] ∧ (∀ i, w.cell? ⟨g1, i, none⟩ = c1[i]?) ∧ ∀ i, w.cell? ⟨g2, i, none⟩ = c2[i]? := ⟨h, h.cells.1, h.cells.2.2.1⟩
/-- Two spans: in a region that draws. -/
def Two2 (w0 w : World) (g1 g2 : Nat) (t : TypeId) (a b c d : Value) : Prop := Held w0 w [(g1, t, #[a, b]), (g2, t, #[c, d])]
theorem Two2.start {t : TypeId} (w : World) (a b c d : Value) : Two2 w ((w.alloc (.cells #[c, d] t)).alloc (.cells #[a, b] t)) (w.heap.size + 1) w.heap.size t a b c d := by
  have := ((Held.start w).push t #[c, d]).push t #[a, b]
  rw [World.size_alloc] at this
  exact this
section
variable {g1 g2 : Nat} {t : TypeId} {a b c d : Value}
theorem Two2.both (h : Two2 w0 w g1 g2 t a b c d) : Two2 w0 w g1 g2 t a b c d ∧ w.cell? ⟨g1, 0, none⟩ = some a ∧ w.cell? ⟨g1, 1, none⟩ = some b ∧ w.cell? ⟨g2, 0, none⟩ = some c ∧ w.cell? ⟨g2, 1, none⟩ = some d :=
  ⟨h, (Held.cells h).1 0, (Held.cells h).1 1, (Held.cells h).2.2.1 0, (Held.cells h).2.2.1 1⟩
theorem Two2.drew (h : Two2 w0 w g1 g2 t a b c d) : Two2 w0 w.drew g1 g2 t a b c d := Held.drew h
theorem Two2.below (h : Two2 w0 w g1 g2 t a b c d) (hb : Below w.heap.size w w') : Two2 w0 w' g1 g2 t a b c d := Held.below h hb
theorem Two2.of_both (s : Two2 w0 w g1 g2 t a b c d ∧ w.cell? ⟨g1, 0, none⟩ = some a ∧ w.cell? ⟨g1, 1, none⟩ = some b ∧ w.cell? ⟨g2, 0, none⟩ = some c ∧ w.cell? ⟨g2, 1, none⟩ = some d) : Two2 w0 w g1 g2 t a b c d := s.1
theorem Two2.more_both (s : Two2 w0 w g1 g2 t a b c d ∧ w.cell? ⟨g1, 0, none⟩ = some a ∧ w.cell? ⟨g1, 1, none⟩ = some b ∧ w.cell? ⟨g2, 0, none⟩ = some c ∧ w.cell? ⟨g2, 1, none⟩ = some d) (hb : Below w.heap.size w w') :
    Two2 w0 w' g1 g2 t a b c d ∧ w'.cell? ⟨g1, 0, none⟩ = some a ∧ w'.cell? ⟨g1, 1, none⟩ = some b ∧ w'.cell? ⟨g2, 0, none⟩ = some c ∧ w'.cell? ⟨g2, 1, none⟩ = some d := (s.1.below hb).both
end
end
end Go.Proofs.YtnooajlijekhdaaDoor
