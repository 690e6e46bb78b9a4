/- A span that is handed in by value, opened; the row's opening. -/
import Derived.Test.YtgahmboecbfplaaFix3
import Derived.Lib.SmallJoins
namespace Go.Proofs.Ytgahmboecbfplaa
set_option linter.unusedVariables false
set_option linter.unusedSimpArgs false
open Go.ChangeShapes Go.WideShapes Go.RowKit

theorem open_span {H : Type} {enc : TypeId × Value → H} {W : World} {base : Nat} {v : Value} {d : DataW H} {p : List MemPlace} {ts : List TypeId} {ds : List (DataW H)}
    (hok : Value.okWide Try.prog W .any base 34 v) (h : DataW.Trod enc Try.prog W 0 (fun _ => true) true 34 v d p)
    (hsz : (DataW.weightsEach Try.prog ts ds).all (· ≤ reachBytes) = true) {j : Nat} (hj : ts[j]? = some 34) (hd : ds[j]? = some d) :
    ∃ a b : Int, v = spanV a b := by
  obtain ⟨v0, v1, y0, y1, n, rfl, rfl, rfl, h0, h1⟩ := Joins.open_agg2 Try.underlying34 (by kernel_rfl) (by kernel_rfl) hok h
  obtain ⟨a, ha, -⟩ := DataW.trod_int Try.underlying23 h0
  obtain ⟨b, hb, -⟩ := DataW.trod_int Try.underlying23 h1
  simp only [List.cons.injEq, and_true] at ha hb
  exact ⟨a, b, by rw [ha, hb]; rfl⟩
end Go.Proofs.Ytgahmboecbfplaa
