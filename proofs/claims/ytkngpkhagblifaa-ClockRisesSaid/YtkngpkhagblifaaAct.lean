/- A script of updates and readings, as it came in. -/
import Derived.Test.YtkngpkhagblifaaKO
namespace Go.Proofs.Ytkngpkhagblifaa
set_option linter.unusedVariables false
set_option linter.unusedSimpArgs false
open Go.RowKit Go.ChangeShapes Go.WideShapes

structure Act where
  rd : Bool
  more : Int
  off : Int
  m0 : -9223372036854775808 ≤ more
  m1 : more ≤ 9223372036854775807
  o0 : -9223372036854775808 ≤ off
  o1 : off ≤ 9223372036854775807
/-- Act i of a script that reads as f, at address b, o. -/
structure ActAt (w : World) (b o : Nat) (i : Nat) (a : Act) : Prop where
  c0 : w.cell? ⟨b, o + i * 3, none⟩ = some (.bool a.rd)
  c1 : w.cell? ⟨b, o + i * 3 + 1, none⟩ = some (.int .i64 a.more)
  c2 : w.cell? ⟨b, o + i * 3 + 2, none⟩ = some (.int .i64 a.off)
  lt : b < w.heap.size
theorem ActAt.below {w w' : World} {b o i : Nat} {a : Act} (h : ActAt w b o i a) (hb : Below w.heap.size w w') : ActAt w' b o i a :=
  ⟨(hb.cell (p := ⟨b, o + i * 3, none⟩) h.lt).trans h.c0, (hb.cell (p := ⟨b, o + i * 3 + 1, none⟩) h.lt).trans h.c1, (hb.cell (p := ⟨b, o + i * 3 + 2, none⟩) h.lt).trans h.c2, Nat.lt_of_lt_of_le h.lt hb.size⟩
/-- What a script is in memory: n acts, f i the i-th. -/
def Script (w : World) (A : Option Addr) (n : Nat) (f : Nat → Act) : Prop := n ≤ 140737488351232 ∧ (A = none → n = 0) ∧ (0 < n → ∃ b o, A = some ⟨b, o, none⟩ ∧ ∀ i, i < n → ActAt w b o i (f i))

def Act.zero : Act := ⟨false, 0, 0, by omega, by omega, by omega, by omega⟩
theorem Script.below {w w' : World} {A : Option Addr} {n : Nat} {f : Nat → Act} (h : Script w A n f) (hb : Below w.heap.size w w') : Script w' A n f :=
  ⟨h.1, h.2.1, fun hn => by
    obtain ⟨b, o, e, hc⟩ := h.2.2 hn
    exact ⟨b, o, e, fun i hi => (hc i hi).below hb⟩⟩

theorem cells30 : Try.prog.cellsOf 30 = 3 := by kernel_rfl
theorem cells4 : Try.prog.cellsOf 4 = 1 := by kernel_rfl
theorem cells23 : Try.prog.cellsOf 23 = 1 := by kernel_rfl
theorem bytes30 : Try.prog.bytesOf 30 = 24 := by kernel_rfl

theorem open_script {H : Type} {enc : TypeId × Value → H} {W : World} {base : Nat} {v : Value} {d : DataW H} {p : List MemPlace} {ts : List TypeId} {ds : List (DataW H)}
    (hok : Value.okWide Try.prog W .any base 22 v) (h : DataW.Trod enc Try.prog W 0 (fun _ => true) true 22 v d p)
    (hsz : (DataW.weightsEach Try.prog ts ds).all (· ≤ reachBytes) = true) {j : Nat} (hj : ts[j]? = some 22) (hd : ds[j]? = some d) :
    ∃ A n c f, v = .slice A n c ∧ Script W A n f := by
  obtain ⟨A, n, c, rfl, hnc, hb, hA, hc⟩ := open_structs Try.underlying22 Try.underlying30 cells30 (by omega) (by
    intro j f h
    match j with
    | 0 => cases h; exact ⟨rfl, cells4, by omega⟩
    | 1 => cases h; exact ⟨rfl, cells23, by omega⟩
    | 2 => cases h; exact ⟨rfl, cells23, by omega⟩
    | n + 3 => simp at h) rfl hok h hsz hj hd
  rw [bytes30] at hb
  rcases Nat.eq_zero_or_pos n with h0 | h0
  · exact ⟨A, n, c, fun _ => Act.zero, rfl, by omega, hA, fun h => by omega⟩
  · obtain ⟨b, o, rfl, hcell⟩ := hc h0
    have one : ∀ i, i < n → ∃ a, ActAt W b o i a := by
      intro i hi
      obtain ⟨u0, h0, m0, y0, t0⟩ := hcell i 0 _ hi rfl
      obtain ⟨u1, h1, m1, y1, t1⟩ := hcell i 1 _ hi rfl
      obtain ⟨u2, h2, m2, y2, t2⟩ := hcell i 2 _ hi rfl
      obtain ⟨x0, e0, _⟩ := DataW.trod_bool Try.underlying4 t0
      obtain ⟨x1, e1, _, w1⟩ := DataW.trod_int Try.underlying23 t1
      obtain ⟨x2, e2, _, w2⟩ := DataW.trod_int Try.underlying23 t2
      simp only [List.cons.injEq, and_true] at e0 e1 e2
      subst e0 e1 e2
      exact ⟨⟨x0, x1, x2, (bounds_i64 w1).1, (bounds_i64 w1).2, (bounds_i64 w2).1, (bounds_i64 w2).2⟩, h0, h1, h2, World.block_lt_of_cell? W _ h0⟩
    refine ⟨_, n, c, fun i => if hi : i < n then (one i hi).choose else Act.zero, rfl, by omega, (fun h => by cases h), fun _ => ⟨b, o, rfl, fun i hi => ?_⟩⟩
    simp only [dif_pos hi]
    exact (one i hi).choose_spec

end Go.Proofs.Ytkngpkhagblifaa
