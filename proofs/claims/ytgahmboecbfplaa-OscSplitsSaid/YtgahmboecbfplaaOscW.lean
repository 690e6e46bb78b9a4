/- A way in memory. -/
import Derived.Test.YtgahmboecbfplaaKO
import Derived.Test.YtgahmboecbfplaaOscP
namespace Go.Proofs.Ytgahmboecbfplaa
set_option linter.unusedVariables false
set_option linter.unusedSimpArgs false
open Go.RowKit Go.ChangeShapes Go.WideShapes

structure LegAt (w : World) (b o : Nat) (i : Nat) (a : Leg) : Prop where
  c0 : w.cell? ⟨b, o + i * 2, none⟩ = some (.int .i64 a.len)
  c1 : w.cell? ⟨b, o + i * 2 + 1, none⟩ = some (.int .i64 a.ppm)
  lt : b < w.heap.size
theorem LegAt.below {w w' : World} {b o i : Nat} {a : Leg} (h : LegAt w b o i a) (hb : Below w.heap.size w w') : LegAt w' b o i a :=
  ⟨(hb.cell (p := ⟨b, o + i * 2, none⟩) h.lt).trans h.c0, (hb.cell (p := ⟨b, o + i * 2 + 1, none⟩) h.lt).trans h.c1, Nat.lt_of_lt_of_le h.lt hb.size⟩
/-- n legs, f i the i-th. -/
def Way (w : World) (A : Option Addr) (n : Nat) (f : Nat → Leg) : Prop := n ≤ 140737488351232 ∧ (A = none → n = 0) ∧ (0 < n → ∃ b o, A = some ⟨b, o, none⟩ ∧ ∀ i, i < n → LegAt w b o i (f i))
theorem Way.below {w w' : World} {A : Option Addr} {n : Nat} {f : Nat → Leg} (h : Way w A n f) (hb : Below w.heap.size w w') : Way w' A n f :=
  ⟨h.1, h.2.1, fun hn => by
    obtain ⟨b, o, e, hc⟩ := h.2.2 hn
    exact ⟨b, o, e, fun i hi => (hc i hi).below hb⟩⟩
theorem Way.alloc {w : World} {A : Option Addr} {n : Nat} {f : Nat → Leg} (h : Way w A n f) (o : Obj) : Way (w.alloc o) A n f := h.below ((Below.refl _ _).alloc (Nat.le_refl _) _)

theorem cellsLeg : Try.prog.cellsOf 45 = 2 := by kernel_rfl
theorem cellsTime : Try.prog.cellsOf 23 = 1 := by kernel_rfl
theorem cellsInt : Try.prog.cellsOf 3 = 1 := by kernel_rfl
theorem bytesLeg : Try.prog.bytesOf 45 = 16 := by kernel_rfl

theorem open_way {H : Type} {enc : TypeId × Value → H} {W : World} {base : Nat} {v : Value} {d : DataW H} {p : List MemPlace} {ts : List TypeId} {ds : List (DataW H)}
    (hok : Value.okWide Try.prog W .any base 22 v) (h : DataW.Trod enc Try.prog W 0 (fun _ => true) true 22 v d p)
    (hsz : (DataW.weightsEach Try.prog ts ds).all (· ≤ reachBytes) = true) {j : Nat} (hj : ts[j]? = some 22) (hd : ds[j]? = some d) :
    ∃ A n c f, v = .slice A n c ∧ n ≤ c ∧ Way W A n f := by
  obtain ⟨A, n, c, rfl, hnc, hb, hA, hc⟩ := open_structs Try.underlying22 Try.underlying45 cellsLeg (by omega) (by
    intro j f h
    match j with
    | 0 => cases h; exact ⟨rfl, cellsTime, by omega⟩
    | 1 => cases h; exact ⟨rfl, cellsInt, by omega⟩
    | n + 2 => simp at h) rfl hok h hsz hj hd
  rw [bytesLeg] at hb
  rcases Nat.eq_zero_or_pos n with h0 | h0
  · exact ⟨A, n, c, fun _ => Leg.zero, rfl, hnc, by omega, hA, fun h => by omega⟩
  · obtain ⟨b, o, rfl, hcell⟩ := hc h0
    have one : ∀ i, i < n → ∃ a, LegAt W b o i a := by
      intro i hi
      obtain ⟨u0, h0, m0, y0, t0⟩ := hcell i 0 _ hi rfl
      obtain ⟨u1, h1, m1, y1, t1⟩ := hcell i 1 _ hi rfl
      obtain ⟨x0, e0, _, w0⟩ := DataW.trod_int Try.underlying23 t0
      obtain ⟨x1, e1, _, w1⟩ := DataW.trod_int Try.underlying3 t1
      simp only [List.cons.injEq, and_true] at e0 e1
      subst e0 e1
      exact ⟨⟨x0, x1, (bounds_i64 w0).1, (bounds_i64 w0).2, (bounds_i64 w1).1, (bounds_i64 w1).2⟩, h0, h1, World.block_lt_of_cell? W _ h0⟩
    refine ⟨_, n, c, fun i => if hi : i < n then (one i hi).choose else Leg.zero, rfl, hnc, by omega, (fun h => by cases h), fun _ => ⟨b, o, rfl, fun i hi => ?_⟩⟩
    simp only [dif_pos hi]
    exact (one i hi).choose_spec
end Go.Proofs.Ytgahmboecbfplaa
