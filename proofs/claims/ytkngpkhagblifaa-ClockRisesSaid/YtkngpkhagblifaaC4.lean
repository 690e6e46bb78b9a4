/- The laws' side of the clock: contracts at a clock that the law itself has made; awake. -/
import Derived.Test.YtkngpkhagblifaaC3
namespace Go.Proofs.Ytkngpkhagblifaa
set_option linter.unusedVariables false
set_option linter.unusedSimpArgs false
open Go.RowKit

/-- The law began in w0; in w its clock c lies at block g, and nothing that was there has turned. -/
structure Has (w0 w : World) (g : Nat) (c : Ck) : Prop where
  clk : IsClk w g c
  bel : Below w0.heap.size w0 w
  ge : w0.heap.size ≤ g
theorem Has.onto {w0 w w' : World} {g : Nat} {c c' : Ck} (h : Has w0 w g c) (hc : IsClk w' g c') (hg : w.grownBy w' (some g)) : Has w0 w' g c' :=
  ⟨hc, below_only h.bel h.bel.size hg (fun k e => by injection e with e; have := h.ge; omega), h.ge⟩
theorem Has.more {w0 w w' : World} {g : Nat} {c : Ck} (h : Has w0 w g c) (hb : Below w.heap.size w w') : Has w0 w' g c :=
  ⟨h.clk.grown (only_of_below hb none) (by simp), below_then h.bel h.bel.size hb, h.ge⟩
theorem Has.new {w0 w : World} (hb : Below w0.heap.size w0 w) (raw base freq : Int) : Has w0 (w.alloc (.cells (clkC (newCk raw base freq) 0) 55)) w.heap.size (newCk raw base freq) :=
  ⟨new_clk w raw base freq, hb.alloc hb.size _, hb.size⟩

section
variable {w0 w : World} {g : Nat} {c : Ck} {B raw off : Int}
theorem L_new (hb : Below w0.heap.size w0 w) {base freq : Int} (h : inNew raw base freq) :
    Calls Try.prog 8 #[.int .i64 raw, .int .i64 base, .int .i64 freq] w fun e w' => e = .returned (.tuple #[.pointer (some ⟨w.heap.size, 0, none⟩), .int .i64 0]) ∧ Has w0 w' w.heap.size (newCk raw base freq) := by
  refine (new_yes h).mono ?_
  rintro e w' ⟨rfl, rfl⟩
  exact ⟨rfl, Has.new hb raw base freq⟩
theorem L_update (h : Has w0 w g c) (ok : c.Ok B) (hB : B ≤ 1152921504606846976) (hc : c.can raw) (hr : raw ≤ 2305843009213693952) (h0 : -68719476736 ≤ off) (h1 : off ≤ 68719476736) :
    Calls Try.prog 10 #[.pointer (some ⟨g, 0, none⟩), .int .i64 raw, .int .i64 off] w fun e w' => e = .returned (.tuple #[.int .i64 (c.upd raw off).2, .int .i64 0]) ∧ Has w0 w' g (c.upd raw off).1 :=
  (update_yes h.clk ok hB hc hr h0 h1).mono fun _ _ ⟨he, hk, hg⟩ => ⟨he, h.onto hk hg⟩
theorem L_spiking (h : Has w0 w g c) :
    Calls Try.prog 11 #[.pointer (some ⟨g, 0, none⟩)] w fun e w' => e = .returned (.bool c.st.spiking) ∧ Has w0 w' g c :=
  (spiking_any h.clk).mono fun _ _ ⟨he, hb⟩ => ⟨he, h.more hb⟩
end

def awC : Ck := { base := 2001500, at_ := 500, phase := 0, freq := 0, st := .set }
theorem aw_upd : (newCk 0 1000 0).upd 500 2000000 = (awC, 1) := by rfl
theorem aw_now : awC.now 1500 = 2002500 := by rfl

set_option maxHeartbeats 400000 in
theorem awake_any (w : World) : Calls Try.prog 7 #[] w fun e w' => e = .returned (.bool true) ∧ Below w.heap.size w w' := by
  have a0 : inNew 0 1000 0 := by unfold inNew; omega
  have a1 := new_ok a0
  have a2 : (newCk 0 1000 0).can 500 := by decide
  have a3 := Ck.upd_ok (off := 2000000) a1 a2 (by omega) (by omega) (by omega) (by omega)
  rw [aw_upd] at a3
  have A0 := Lib.hid a0
  have A1 := Lib.hid a1
  have A2 := Lib.hid a2
  have A3 := Lib.hid a3
  clear a0 a1 a2 a3
  go_enter Try.func7, Try.ntmps7
  go_wp2_with fail
  refine (L_new (Below.refl _ w) A0.out).mono ?_
  rintro e w1 ⟨rfl, h1⟩
  have H1 := Lib.hid h1
  clear h1
  go_wp2_with fail
  refine (L_update H1.out A1.out (by omega) A2.out (by omega) (by omega) (by omega)).mono ?_
  rw [aw_upd]
  rintro e w2 ⟨rfl, h2⟩
  have H2 := Lib.hid h2
  clear h2
  go_wp2_with fail
  refine (read_yes H2.out.clk A3.out (by omega) (by decide)).mono ?_
  rw [aw_now]
  rintro e w3 ⟨rfl, rfl⟩
  go_wp2
  go_ret
  exact ⟨rfl, H2.out.bel⟩

set_option maxHeartbeats 400000 in
theorem ClockNil_walk (raw : Int) (_ : (Lit.int .i64 raw).wf = true) (off : Int) (_ : (Lit.int .i64 off).wf = true) (w : World) : Calls Try.prog 6 #[.int .i64 raw, .int .i64 off] w fun e w' => e = .returned (.bool true) ∧ Below w.heap.size w w' := by
  go_enter Try.func6, Try.ntmps6
  go_wp2_with fail
  refine (awake_any w).mono ?_
  rintro e w1 ⟨rfl, h1⟩
  have H1 := Lib.hid h1
  clear h1
  go_wp2_with (first | (go_at_call 9; refine (read_nil _ _).mono ?_; rintro e w' ⟨rfl, rfl⟩) | (go_at_call 10; refine (update_err _ (by omega) (read_nil _ _)).mono ?_; rintro e w' ⟨rfl, rfl⟩) | (go_at_call 15; refine freq_nil.mono ?_; rintro e w' ⟨rfl, rfl⟩) | (go_at_call 11; refine spiking_nil.mono ?_; rintro e w' ⟨rfl, rfl⟩))
  go_ret
  exact ⟨rfl, H1.out⟩

end Go.Proofs.Ytkngpkhagblifaa
