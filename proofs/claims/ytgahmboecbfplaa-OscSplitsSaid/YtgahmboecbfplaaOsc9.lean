/- The law OscSplits: every way. -/
import Derived.Test.YtgahmboecbfplaaOsc8
namespace Go.Proofs.Ytgahmboecbfplaa
set_option linter.unusedVariables false
set_option linter.unusedSimpArgs false
open Go.RowKit Go.ChangeShapes Go.WideShapes

theorem open_way2 {H : Type} {enc : TypeId × Value → H} {W : World} {base : Nat} {v : Value} {d : DataW H} {p : List MemPlace} {ts : List TypeId} {ds : List (DataW H)}
    (hok : Value.okWide Try.prog W .any base 22 v) (h : DataW.Trod enc Try.prog W 0 (fun _ => true) true 22 v d p)
    (hsz : (DataW.weightsEach Try.prog ts ds).all (· ≤ reachBytes) = true) {j : Nat} (hj : ts[j]? = some 22) (hd : ds[j]? = some d) :
    ∃ A n c f, v = .slice A n c ∧ (n ≤ c ∧ n * 16 ≤ 140737488351232) ∧ Way W A n f := by
  obtain ⟨A, n, c, f, rfl, hnc, hw⟩ := open_way hok h hsz hj hd
  obtain ⟨A', n', c', e, hnc', hb, _⟩ := open_structs Try.underlying22 Try.underlying45 cellsLeg (by omega) (by
    intro j f h
    match j with
    | 0 => cases h; exact ⟨rfl, cellsTime, by omega⟩
    | 1 => cases h; exact ⟨rfl, cellsInt, by omega⟩
    | n + 2 => simp at h) rfl hok h hsz hj hd
  rw [bytesLeg] at hb
  simp only [Value.slice.injEq] at e
  obtain ⟨rfl, rfl, rfl⟩ := e
  exact ⟨A, n, c, f, rfl, ⟨hnc, hb⟩, hw⟩
theorem oscSplits_walk (x : Value) (at_ : Int) (wat : (Lit.int .i64 at_).wf = true) (s : Value) (d : Int) (wd : (Lit.int .i64 d).wf = true) (m : Int) (wm : (Lit.int .i64 m).wf = true) (rho : Int) (wr : (Lit.int .i64 rho).wf = true) (w : World)
    (hx : ∃ A n c f, x = .slice A n c ∧ (n ≤ c ∧ n * 16 ≤ 140737488351232) ∧ Way w A n f) (hs : ∃ a b : Int, s = spanV a b) :
    Calls Try.prog 6 #[x, .int .i64 at_, s, .int .i64 d, .int .i64 m, .int .i64 rho] w fun e w' => e = .returned (.bool true) ∧ Below w.heap.size w w' := by
  obtain ⟨A, n, c, f, rfl, ⟨hnc, hb⟩, hw⟩ := hx
  obtain ⟨a, b, rfl⟩ := hs
  by_cases hok : okN f n
  · rcases Nat.eq_zero_or_pos n with h0 | h0
    · exact oscSplits_skip A n c f at_ a b d m rho w hw (Or.inr h0)
    · exact oscSplits_do A n c f at_ a b d m rho w hw hok h0 hnc hb (bounds_i64 wat)
  · exact oscSplits_skip A n c f at_ a b d m rho w hw (Or.inl hok)
end Go.Proofs.Ytgahmboecbfplaa
