/- Contracts of the program's clock: Read, Update, Freq, Spiking, New. -/
import Derived.Test.YtkngpkhagblifaaK
import Derived.Test.YtkngpkhagblifaaPu
namespace Go.Proofs.Ytkngpkhagblifaa
set_option linter.unusedVariables false
set_option linter.unusedSimpArgs false
open Go.RowKit
attribute [local go_sem] max2_mm min2_mm max_two min_two

/-! ### The clock in memory -/
def stV : St → Value
  | .unset => .iface 51 (.agg #[])
  | .set => .iface 82 (.agg #[])
  | .spike s => .iface 58 (.agg #[.int .i64 s])
/-- The cells of a clock; `last`: what stands in the field of that name. -/
def clkC (c : Ck) (last : Int) : Array Value := #[.int .i64 c.base, .int .i64 c.at_, .int .i64 c.phase, .int .i64 last, .int .i64 c.freq, stV c.st]
/-- Block g holds the clock c. -/
def IsClk (w : World) (g : Nat) (c : Ck) : Prop := ∃ last : Int, Blk w g 55 (clkC c last) ∧ (c.st = .unset ∨ last = c.at_)

theorem fin_low {A x : Int} (hA : -4611686018427387904 ≤ A) (hA' : A ≤ 4611686018427387904) (h0 : -2000000000000000000 ≤ x) (h1 : x ≤ 2000000000000000000) (h : x.tmod 1000000000 < 0) :
    wrap64 (A + wrap64 (x.tdiv 1000000000 - 1)) = A + x / 1000000000 := by
  rw [tdiv_low h]
  unfold wrap64
  omega
theorem fin_flat {A x : Int} (hA : -4611686018427387904 ≤ A) (hA' : A ≤ 4611686018427387904) (h0 : -2000000000000000000 ≤ x) (h1 : x ≤ 2000000000000000000) (h : 0 ≤ x.tmod 1000000000) :
    wrap64 (A + x.tdiv 1000000000) = A + x / 1000000000 := by
  rw [tdiv_flat h]
  unfold wrap64
  omega

set_option maxHeartbeats 400000 in
theorem read_cells (g : Nat) (c0 c1 c2 c4 raw : Int) (w : World) (e0 : w.cell? ⟨g, 0, none⟩ = some (.int .i64 c0)) (e1 : w.cell? ⟨g, 1, none⟩ = some (.int .i64 c1)) (e2 : w.cell? ⟨g, 2, none⟩ = some (.int .i64 c2)) (e4 : w.cell? ⟨g, 4, none⟩ = some (.int .i64 c4))
   (h0 : -2305843009213693952 ≤ c0) (h0' : c0 ≤ 2305843009213693952) (h1 : 0 ≤ c1) (h1' : c1 ≤ 2305843009213693952) (h2 : -134217 ≤ c2) (h2' : c2 ≤ 134217)
   (hr : c1 ≤ raw) (hr' : raw ≤ c1 + 1099511627776) (p1 : -549755813888000000 ≤ (raw - c1) * c4) (p2 : (raw - c1) * c4 ≤ 549755813888000000):
    Calls Try.prog 9 #[.pointer (some ⟨g, 0, none⟩), .int .i64 raw] w fun e w' => e = .returned (.tuple #[.int .i64 (rdv c0 c2 c4 (raw - c1)), .int .i64 0]) ∧ w = w' := by
  unfold rdv
  go_enter Try.func9, Try.ntmps9
  go_wp2
  · go_ret2
    refine ⟨ret2i ?_ rfl, rfl⟩
    refine fin_low ?_ ?_ ?_ ?_ ?_ <;> first | assumption | omega
  · go_ret2
    refine ⟨ret2i ?_ rfl, rfl⟩
    refine fin_flat ?_ ?_ ?_ ?_ ?_ <;> first | assumption | omega

set_option maxHeartbeats 400000 in
theorem read_not (g : Nat) (c1 raw : Int) (w : World) (e1 : w.cell? ⟨g, 1, none⟩ = some (.int .i64 c1))
   (h1 : 0 ≤ c1) (h1' : c1 ≤ 2305843009213693952) (hr0 : -9223372036854775808 ≤ raw) (hr1 : raw ≤ 9223372036854775807) (hr : ¬ (c1 ≤ raw ∧ raw ≤ c1 + 1099511627776)) :
    Calls Try.prog 9 #[.pointer (some ⟨g, 0, none⟩), .int .i64 raw] w fun e w' => e = .returned (.tuple #[.int .i64 0, .int .i64 2]) ∧ w = w' := by
  by_cases hlt : raw < c1
  · go_enter Try.func9, Try.ntmps9
    go_wp2
    go_ret2
    exact ⟨rfl, rfl⟩
  · have hgt : 1099511627776 < raw - c1 := by omega
    go_enter Try.func9, Try.ntmps9
    go_wp2
    go_ret2
    exact ⟨rfl, rfl⟩

set_option maxHeartbeats 400000 in
theorem read_nil (raw : Int) (w : World) :
    Calls Try.prog 9 #[.pointer none, .int .i64 raw] w fun e w' => e = .returned (.tuple #[.int .i64 0, .int .i64 1]) ∧ w = w' := by
  go_enter Try.func9, Try.ntmps9
  go_wp2
  go_ret2
  exact ⟨rfl, rfl⟩

/-- Read, as a whole. -/
theorem read_yes {w : World} {g : Nat} {c : Ck} {B raw : Int} (h : IsClk w g c) (ok : c.Ok B) (hB : B ≤ 2305843009213693952) (hc : c.can raw) :
    Calls Try.prog 9 #[.pointer (some ⟨g, 0, none⟩), .int .i64 raw] w fun e w' => e = .returned (.tuple #[.int .i64 (c.now raw), .int .i64 0]) ∧ w = w' := by
  obtain ⟨last, hb, _⟩ := h
  have hm := mul_between (d := raw - c.at_) (by have := hc.1; omega) ok.f0 ok.f1
  have hc1 := hc.1
  have hc2 := hc.2
  exact read_cells g c.base c.at_ c.phase c.freq raw w (hb.cell 0) (hb.cell 1) (hb.cell 2) (hb.cell 4) (by have := ok.b0; omega) (by have := ok.b1; omega) ok.a0 ok.a1 ok.p0 ok.p1 hc.1 hc.2 (by omega) (by omega)
theorem read_no {w : World} {g : Nat} {c : Ck} {B raw : Int} (h : IsClk w g c) (ok : c.Ok B) (hr0 : -9223372036854775808 ≤ raw) (hr1 : raw ≤ 9223372036854775807) (hc : ¬ c.can raw) :
    Calls Try.prog 9 #[.pointer (some ⟨g, 0, none⟩), .int .i64 raw] w fun e w' => e = .returned (.tuple #[.int .i64 0, .int .i64 2]) ∧ w = w' := by
  obtain ⟨last, hb, _⟩ := h
  exact read_not g c.at_ raw w (hb.cell 1) ok.a0 ok.a1 hr0 hr1 hc

end Go.Proofs.Ytkngpkhagblifaa
