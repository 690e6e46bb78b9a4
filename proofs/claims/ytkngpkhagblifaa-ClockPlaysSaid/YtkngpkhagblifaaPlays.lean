/- ClockPlays: the walk. -/
import Derived.Test.YtkngpkhagblifaaC4
import Derived.Test.YtkngpkhagblifaaCR2
import Derived.Test.YtkngpkhagblifaaAct
import Derived.Deep.LoopGhost
import Derived.Deep.DeepCutAuto
import Derived.Deep.RegionHeld3
import Derived.Deep.RegionWith
namespace Go.Proofs.Ytkngpkhagblifaa
set_option linter.unusedVariables false
set_option linter.unusedSimpArgs false
open Go.RowKit

/-- Both clocks in memory, alike. -/
structure Two (w0 w : World) (g h : Nat) (c : Ck) : Prop where
  clk : IsClk w g c
  ref : IsRef w h c
  bel : Below w0.heap.size w0 w
  gg : w0.heap.size ≤ g
  hh : w0.heap.size ≤ h
  ne : g ≠ h
section
variable {w0 w w' : World} {g h : Nat} {c c' : Ck}
theorem Two.more (t : Two w0 w g h c) (hb : Below w.heap.size w w') : Two w0 w' g h c :=
  ⟨t.clk.grown (only_of_below hb none) (by simp), t.ref.grown (only_of_below hb none) (by simp), below_then t.bel t.bel.size hb, t.gg, t.hh, t.ne⟩
theorem Two.drewN (t : Two w0 w g h c) (n : Nat) : Two w0 (w.drewN n) g h c := t.more (by
  induction n with
  | zero => exact Below.refl _ _
  | succ n ih => exact ⟨rfl, rfl, rfl, Nat.le_refl _, fun _ _ => rfl⟩)
theorem Two.alloc (t : Two w0 w g h c) (o : Obj) : Two w0 (w.alloc o) g h c := t.more ((Below.refl _ _).alloc (Nat.le_refl _) _)
/-- Behind the program's update. -/
structure Half (w0 w : World) (g h : Nat) (c c' : Ck) : Prop where
  clk : IsClk w g c'
  ref : IsRef w h c
  bel : Below w0.heap.size w0 w
  gg : w0.heap.size ≤ g
  hh : w0.heap.size ≤ h
  ne : g ≠ h
theorem Two.half (t : Two w0 w g h c) (hk : IsClk w' g c') (hg : w.grownBy w' (some g)) : Half w0 w' g h c c' :=
  ⟨hk, t.ref.grown hg (fun e => t.ne (by injection e with e; exact e.symm)), below_only t.bel t.bel.size hg (fun k e => by injection e with e; have := t.gg; omega), t.gg, t.hh, t.ne⟩
theorem Half.both (t : Half w0 w g h c c') (hk : IsRef w' h c') (hg : w.grownBy w' (some h)) : Two w0 w' g h c' :=
  ⟨t.clk.grown hg (fun e => t.ne (by injection e)), hk, below_only t.bel t.bel.size hg (fun k e => by injection e with e; have := t.hh; omega), t.gg, t.hh, t.ne⟩
end

theorem Two.drew {w0 w : World} {g h : Nat} {c : Ck} (t : Two w0 w g h c) : Two w0 w.drew g h c := t.more ⟨rfl, rfl, rfl, Nat.le_refl _, fun _ _ => rfl⟩
theorem Two.both {w0 w : World} {g h : Nat} {c : Ck} (t : Two w0 w g h c) : Two w0 w g h c ∧ w.cell? ⟨h, 5, none⟩ = some (.int .i64 c.freq) ∧ w.cell? ⟨h, 6, none⟩ = some (.int .i64 (stN c.st)) :=
  ⟨t, by obtain ⟨l, s, hb, _⟩ := t.ref; exact hb.cell 5, by obtain ⟨l, s, hb, _⟩ := t.ref; exact hb.cell 6⟩
theorem Two.of_both {w0 w : World} {g h : Nat} {c : Ck} (s : Two w0 w g h c ∧ w.cell? ⟨h, 5, none⟩ = some (.int .i64 c.freq) ∧ w.cell? ⟨h, 6, none⟩ = some (.int .i64 (stN c.st))) : Two w0 w g h c := s.1
theorem Two.more_both {w0 w w' : World} {g h : Nat} {c : Ck} (s : Two w0 w g h c ∧ w.cell? ⟨h, 5, none⟩ = some (.int .i64 c.freq) ∧ w.cell? ⟨h, 6, none⟩ = some (.int .i64 (stN c.st))) (hb : Below w.heap.size w w') :
    Two w0 w' g h c ∧ w'.cell? ⟨h, 5, none⟩ = some (.int .i64 c.freq) ∧ w'.cell? ⟨h, 6, none⟩ = some (.int .i64 (stN c.st)) := (s.1.more hb).both
theorem stN_two (s : St) : (stN s == 2) = s.spiking := by cases s <;> rfl

/-- What holds at a round's head. -/
def PlaysRel (w0 : World) (n g h m : Nat) (raw i : Value) (wr : World) : Prop :=
  ∃ (k : Nat) (r : Int) (c : Ck), k ≤ n ∧ k + m = 500 ∧ i = .int .i64 k ∧ raw = .int .i64 r ∧ -1154047404513689600 ≤ r ∧ r ≤ 1154047404513689600 ∧ c.Ok (288230376151711744 + k * 1200000000000) ∧ Two w0 wr g h c
/-- What holds behind a round's calls. -/
def PlaysMid (w0 : World) (g h k : Nat) (wr : World) : Prop :=
  ∃ (c : Ck), c.Ok (288230376151711744 + (k + 1 : Nat) * 1200000000000) ∧ Two w0 wr g h c

set_option maxRecDepth 100000 in
set_option maxHeartbeats 1000000 in
theorem ClockPlays_walk (raw : Int) (_ : (Lit.int .i64 raw).wf = true) (base : Int) (_ : (Lit.int .i64 base).wf = true) (freq : Int) (_ : (Lit.int .i64 freq).wf = true) (v : Value) (w : World)
    (hv : ∃ A n c f, v = .slice A n c ∧ Script w A n f) :
    Calls Try.prog 5 #[.int .i64 raw, .int .i64 base, .int .i64 freq, v] w fun e w' => e = .returned (.bool true) ∧ Below w.heap.size w w' := by
  obtain ⟨A, n, cap, f, rfl, hs⟩ := hv
  have hn := hs.1
  have HS := Lib.hid hs
  clear hs
  by_cases hi : inNew raw base freq
  · have hr0 := hi.1
    have hr1 := hi.2.1
    have HI := Lib.hid hi
    clear hi
    go_enter Try.func5, Try.ntmps5
    go_wp2_with fail
    refine (awake_any w).mono ?_
    rintro e w1 ⟨rfl, h1⟩
    have H1 := Lib.hid h1
    clear h1
    go_wp2_with fail
    refine (new_yes HI.out).mono ?_
    rintro e w' ⟨rfl, rfl⟩
    go_wp2_with fail
    refine (rnew_yes HI.out).mono ?_
    rintro e w' ⟨rfl, rfl⟩
    go_wp2_with fail
    have ht : Two w ((w1.alloc (.cells (clkC (newCk raw base freq) 0) 55)).alloc (.cells (refC (newCk raw base freq) 0 0) 47)) w1.heap.size (w1.heap.size + 1) (newCk raw base freq) := by
      have a := new_clk w1 raw base freq
      have b := rnew_clk (w1.alloc (.cells (clkC (newCk raw base freq) 0) 55)) raw base freq
      rw [World.size_alloc] at b
      exact ⟨a.alloc _, b, (H1.out.alloc H1.out.size _).alloc (by have := H1.out.size; simp; omega) _, H1.out.size, by have := H1.out.size; omega, by omega⟩
    have HT := Lib.hid ht
    clear ht
    generalize ((w1.alloc (.cells (clkC (newCk raw base freq) 0) 55)).alloc (.cells (refC (newCk raw base freq) 0 0) 47)) = w2 at *
    generalize w1.heap.size = g at *
    obtain ⟨h, hh⟩ : ∃ h, g + 1 = h := ⟨_, rfl⟩
    rw [hh] at HT ⊢
    clear hh
    go_loopg [0, 13] 500 (fun m r i wr => PlaysRel w n g h m r i wr)
    case atStart => exact ⟨0, raw, newCk raw base freq, Nat.zero_le _, rfl, rfl, rfl, by omega, by omega, (new_ok HI.out).more (by omega), HT.out⟩
    case round =>
      obtain ⟨k, r, c, hkn, hkm, rfl, rfl, hr2, hr3, hok, htw⟩ := hrel
      have HOK := Lib.hid hok
      have HTW := Lib.hid htw
      clear hok htw HT
      by_cases hlt : k < n
      · by_cases hlt5 : k < 500
        · have hsc := HS.out.below HTW.out.bel
          obtain ⟨b, o, rfl, hcell⟩ := hsc.2.2 (by omega)
          have ha := hcell k hlt
          generalize f k = a at ha
          obtain ⟨rd, more, off, q0, q1, q2, q3⟩ := a
          have e0 := ha.c0
          have e1 := ha.c1
          have e2 := ha.c2
          have eb := ha.lt
          simp only [] at e0 e1 e2
          clear hsc hcell ha HS
          have hkI : (k : Int) < 500 := by omega
          have hkn' : (k : Int) < (n : Int) := by omega
          by_cases hx1 : 1125899906842624 < more
          · go_wp2_with fail
            go_ret
            exact ⟨rfl, HTW.out.bel.alloc (HTW.out.bel.size) _⟩
          by_cases hx2 : more < -1125899906842624
          · go_wp2_with fail
            go_ret
            exact ⟨rfl, HTW.out.bel.alloc (HTW.out.bel.size) _⟩
          by_cases hx3 : 1152921504606846976 < r
          · go_wp2_with fail
            go_ret
            exact ⟨rfl, HTW.out.bel.alloc (HTW.out.bel.size) _⟩
          by_cases hx4 : r < -1152921504606846976
          · go_wp2_with fail
            go_ret
            exact ⟨rfl, HTW.out.bel.alloc (HTW.out.bel.size) _⟩
          have d1 : decide (1125899906842624 < more) = false := decide_eq_false hx1
          have d2 : decide (more < -1125899906842624) = false := decide_eq_false hx2
          have d3 : decide (1152921504606846976 < r) = false := decide_eq_false hx3
          have d4 : decide (r < -1152921504606846976) = false := decide_eq_false hx4
          have hr4 : -1154047404513689600 ≤ r + more := by omega
          have hr5 : r + more ≤ 1154047404513689600 := by omega
          go_upto_if 86 with (fail)
          go_cut [] (fun wc => PlaysMid w g h k wc)
          case first =>
            have ht1 := HTW.out.alloc (.cells #[.bool rd, .int .i64 more, .int .i64 off] 30)
            have HT1 := Lib.hid ht1
            have hB : (288230376151711744 + (k : Int) * 1200000000000 : Int) ≤ 1152921504606846976 := by omega
            have hgz : g ≠ wr.heap.size := by have := HTW.out.clk.lt; omega
            have HGZ := Lib.hid hgz
            have hbz := Blk.new wr 30 #[.bool rd, .int .i64 more, .int .i64 off]
            have z2 : (wr.alloc (.cells #[.bool rd, .int .i64 more, .int .i64 off] 30)).cell? ⟨wr.heap.size, 2, none⟩ = some (.int .i64 off) := hbz.cell 2
            have HBZ := Lib.hid hbz
            clear hbz hgz
            clear ht1 HTW e0 e1 e2 d1 d2 d3 d4 eb
            generalize wr.heap.size = z at *
            generalize (wr.alloc (.cells #[.bool rd, .int .i64 more, .int .i64 off] 30)) = wa at *
            go_wp2_with fail
            · subst rd
              by_cases hc : c.can (r + more)
              · have HC := Lib.hid hc
                clear hc
                refine (read_yes HT1.out.clk HOK.out (by omega) HC.out).mono ?_
                rintro e w' ⟨rfl, rfl⟩
                go_wp2_with fail
                refine (rread_yes HT1.out.ref HOK.out (by omega) HC.out).mono ?_
                rintro e w' ⟨rfl, m, rfl⟩
                go_wp2_with fail
                go_meet
                case rel => exact ⟨c, HOK.out.more (by omega), HT1.out.drewN m⟩
              · have HC := Lib.hid hc
                clear hc
                refine (read_no HT1.out.clk HOK.out (by omega) (by omega) HC.out).mono ?_
                rintro e w' ⟨rfl, rfl⟩
                go_wp2_with fail
                refine (rread_no HT1.out.ref HOK.out (by omega) (by omega) HC.out).mono ?_
                rintro e w' ⟨rfl, m, rfl⟩
                go_wp2_with fail
                go_meet
                case rel => exact ⟨c, HOK.out.more (by omega), HT1.out.drewN m⟩
            · subst rd
              by_cases hc : c.can (r + more)
              · have HC := Lib.hid hc
                clear hc
                by_cases hw : -68719476736 ≤ off ∧ off ≤ 68719476736
                · have hup := Ck.upd_ok HOK.out HC.out (by omega) hw.1 hw.2 (by omega)
                  have HUP := Lib.hid hup
                  obtain ⟨hw0, hw1⟩ := hw
                  clear hup
                  refine (update_yes HT1.out.clk HOK.out (by omega) HC.out (by omega) hw0 hw1).mono ?_
                  rintro e w' ⟨rfl, hk, hg⟩
                  have ht2 := HT1.out.half hk hg
                  have HT2 := Lib.hid ht2
                  have z3 : w'.cell? ⟨z, 2, none⟩ = some (.int .i64 off) := (HBZ.out.grown hg (by have := HGZ.out; intro e; injection e with e; omega)).cell 2
                  clear hk hg ht2
                  go_wp2_with fail
                  refine (rupdate_yes HT2.out.ref HOK.out (by omega) HC.out (by omega) hw0 hw1).mono ?_
                  rintro e w' ⟨rfl, hk, hg⟩
                  have ht3 := HT2.out.both hk hg
                  have HT3 := Lib.hid ht3
                  clear hk hg ht3
                  go_wp2_with fail
                  go_meet
                  case rel => exact ⟨_, HUP.out.more (by omega), HT3.out⟩
                · have HW := Lib.hid hw
                  clear hw
                  refine (update_wide _ HW.out (read_yes HT1.out.clk HOK.out (by omega) HC.out)).mono ?_
                  rintro e w' ⟨rfl, rfl⟩
                  go_wp2_with fail
                  refine (rupdate_wide _ HW.out (rread_yes HT1.out.ref HOK.out (by omega) HC.out)).mono ?_
                  rintro e w' ⟨rfl, m, rfl⟩
                  go_wp2_with fail
                  go_meet
                  case rel => exact ⟨c, HOK.out.more (by omega), HT1.out.drewN m⟩
              · have HC := Lib.hid hc
                clear hc
                refine (update_err _ (by omega) (read_no HT1.out.clk HOK.out (by omega) (by omega) HC.out)).mono ?_
                rintro e w' ⟨rfl, rfl⟩
                go_wp2_with fail
                refine (rupdate_err _ (by omega) (rread_no HT1.out.ref HOK.out (by omega) (by omega) HC.out)).mono ?_
                rintro e w' ⟨rfl, m, rfl⟩
                go_wp2_with fail
                go_meet
                case rel => exact ⟨c, HOK.out.more (by omega), HT1.out.drewN m⟩
          case rest =>
            clear HOK HTW e0 e1 e2 d1 d2 d3 d4 eb hx1 hx2 hx3 hx4
            obtain ⟨c', hok', ht'⟩ := hcut
            have HOK := Lib.hid hok'
            have HT := Lib.hid ht'
            clear hok' ht'
            go_upto_region 25 with (fail)
            go_cut [147] (fun s wc => s = .bool false ∧ Two w wc g h c')
            case first =>
              have HTT := HT.out
              go_region_held3 (fun w' => Two w w' g h c' ∧ w'.cell? ⟨h, 5, none⟩ = some (.int .i64 c'.freq) ∧ w'.cell? ⟨h, 6, none⟩ = some (.int .i64 (stN c'.st))) (first | assumption | exact Two.both (by assumption) | exact Two.both (Two.drew (by assumption)))
                (first
                  | (go_at_call 15; refine (freq_any (g := g) (c := c') ?_).mono ?_; (exact (Two.of_both (w0 := w) (g := g) (h := h) (c := c') (by assumption)).clk); rintro e w' ⟨rfl, rfl⟩)
                  | (go_at_call 11; refine (spiking_any (g := g) (c := c') ?_).mono ?_; (exact (Two.of_both (w0 := w) (g := g) (h := h) (c := c') (by assumption)).clk); rintro e w' ⟨rfl, hb⟩; have hq := Two.more_both (w0 := w) (g := g) (h := h) (c := c') (by assumption) hb))
              go_wp2_with fail
              go_meet
              case rel => exact ⟨by simp [stN_two], hq.1⟩
            case rest =>
              obtain ⟨rfl, ht2⟩ := hcut
              have HT2 := Lib.hid ht2
              clear ht2 HT
              go_wp2_with fail
              go_roundg (gk - 1)
              case measure => omega
              case rel => exact ⟨k + 1, r + more, c', by omega, by omega, by go_num, rfl, by omega, by omega, HOK.out, HT2.out⟩
        · have hkI : ¬ (k : Int) < 500 := by omega
          have d5 : decide ((k : Int) < 500) = false := decide_eq_false hkI
          go_wp2_with fail
          go_ret
          exact ⟨rfl, HTW.out.bel⟩
      · have hkI : ¬ (k : Int) < (n : Int) := by omega
        go_wp2_with fail
        go_ret
        exact ⟨rfl, HTW.out.bel⟩
  · have HI := Lib.hid hi
    clear hi
    go_enter Try.func5, Try.ntmps5
    go_wp2_with fail
    refine (awake_any w).mono ?_
    rintro e w1 ⟨rfl, h1⟩
    have H1 := Lib.hid h1
    clear h1
    go_wp2_with fail
    refine (new_no HI.out).mono ?_
    rintro e w' ⟨rfl, rfl⟩
    go_wp2_with fail
    refine (rnew_no HI.out).mono ?_
    rintro e w' ⟨rfl, rfl⟩
    go_wp2_with fail
    go_ret
    exact ⟨rfl, H1.out⟩

end Go.Proofs.Ytkngpkhagblifaa
