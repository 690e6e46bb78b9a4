/- Layer 1: stamps, short forms. -/
import Derived.Test.YtgahmboecbfplaaFix1
import Derived.Handy
import Derived.Deep.LoopGhost
namespace Go.Proofs.Ytgahmboecbfplaa
set_option linter.unusedVariables false
set_option linter.unusedSimpArgs false
open Go.RowKit
attribute [local go_sem] max2_mm min2_mm max_two min_two

def stampV (t : Int) : Int := if isT t then stampS t else 0
def okE (t : Int) : Int := if isT t then 0 else 2
def shortV (t : Int) : Int := if isT t then shortS t else 0
/-- What Unfold answers. -/
def unfV (s p : Int) : Value := if inPivot p then .agg #[.int .i64 (unfT s p), .int .i64 (unfHi s p)] else .agg #[.int .i64 0, .int .i64 0]
def unfE (p : Int) : Int := if inPivot p then 0 else 2
theorem unf_k {D k : Int} (h : D.tdiv 4503599627370496 = k) : ∃ m, D = k * 4503599627370496 + m ∧ (0 ≤ D → 0 ≤ m ∧ m < 4503599627370496) ∧ (D ≤ 0 → -4503599627370496 < m ∧ m ≤ 0) := by
  rcases Int.lt_or_le D 0 with h' | h'
  · obtain ⟨E, rfl⟩ : ∃ E, D = -E := ⟨-D, by omega⟩
    rw [Int.neg_tdiv, Int.tdiv_eq_ediv_of_nonneg (by omega)] at h
    exact ⟨-E - k * 4503599627370496, by omega, by omega, by omega⟩
  · rw [Int.tdiv_eq_ediv_of_nonneg h'] at h
    exact ⟨D - k * 4503599627370496, by omega, by omega, by omega⟩
/-- Where the first step lands: at the time, or one era below it. -/
theorem unf_near {low t0 k : Int} (h : (low - t0).tdiv 4503599627370496 = k) (b1 : 0 ≤ t0) (b2 : t0 < 4503599627370496) (b3 : -2303591209400008704 ≤ low) (b4 : low ≤ 2299087609772638208) :
    -1024 ≤ k ∧ k ≤ 1024 ∧ ∃ T, low + (t0 - low) % 4503599627370496 = T ∧ low ≤ T ∧ T < low + 4503599627370496 ∧ (t0 + k * 4503599627370496 = T ∨ t0 + k * 4503599627370496 + 4503599627370496 = T) := by
  obtain ⟨m, e, h1, h2⟩ := unf_k h
  refine ⟨by omega, by omega, _, rfl, by omega, by omega, by omega⟩
end Go.Proofs.Ytgahmboecbfplaa
