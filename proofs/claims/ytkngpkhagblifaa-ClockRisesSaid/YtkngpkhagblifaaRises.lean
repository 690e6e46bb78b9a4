/- ClockRises: the walk. -/
import Derived.Test.YtkngpkhagblifaaC4
import Derived.Test.YtkngpkhagblifaaAct
import Derived.Test.YtkngpkhagblifaaSteps
import Derived.Deep.LoopGhost
import Derived.Deep.DeepCutAuto
namespace Go.Proofs.Ytkngpkhagblifaa
set_option linter.unusedVariables false
set_option linter.unusedSimpArgs false
open Go.RowKit
attribute [local go_sem] max2_mm min2_mm max_two min_two

theorem rdv_lip {b p f d1 d2 : Int} (h0 : 0 ≤ d1) (h1 : d1 ≤ d2) (f0 : -500000 ≤ f) (f1 : f ≤ 500000) :
    rdv b p f d1 ≤ rdv b p f d2 ∧ rdv b p f d2 - rdv b p f d1 - (d2 - d1) ≤ (d2 - d1) / 1000 + 1 ∧ -((d2 - d1) / 1000) - 1 ≤ rdv b p f d2 - rdv b p f d1 - (d2 - d1) := by
  have hm := mul_between (d := d2 - d1) (by omega) f0 f1
  have e : (d2 - d1) * f = d2 * f - d1 * f := Int.sub_mul _ _ _
  rw [e] at hm
  obtain ⟨m0, m1⟩ := hm
  unfold rdv
  generalize d1 * f = x1 at *
  generalize d2 * f = x2 at *
  have c0 : min (max (p * 1000000000) (-500000 * d2)) (500000 * d2) - min (max (p * 1000000000) (-500000 * d1)) (500000 * d1) ≤ 500000 * (d2 - d1) := by omega
  have c1 : -500000 * (d2 - d1) ≤ min (max (p * 1000000000) (-500000 * d2)) (500000 * d2) - min (max (p * 1000000000) (-500000 * d1)) (500000 * d1) := by omega
  generalize min (max (p * 1000000000) (-500000 * d2)) (500000 * d2) = y2 at *
  generalize min (max (p * 1000000000) (-500000 * d1)) (500000 * d1) = y1 at *
  omega
theorem now_mono {c : Ck} {B r1 r2 : Int} (ok : c.Ok B) (h0 : c.at_ ≤ r1) (h : r1 ≤ r2) : c.now r1 ≤ c.now r2 :=
  (rdv_lip (by omega) (by omega) ok.f0 ok.f1).1
theorem now_near {c : Ck} {B r a : Int} (ok : c.Ok B) (h0 : c.at_ ≤ r) (h : 0 ≤ a) : max (c.now (r + a) - c.now r - a) (-(c.now (r + a) - c.now r - a)) ≤ a / 1000 + 2 := by
  have := rdv_lip (b := c.base) (p := c.phase) (d1 := r - c.at_) (d2 := r + a - c.at_) (by omega) (by omega) ok.f0 ok.f1
  rw [show r + a - c.at_ - (r - c.at_) = a by omega] at this
  unfold Ck.now
  omega
theorem now_one {c : Ck} {B r : Int} (ok : c.Ok B) (h0 : c.at_ ≤ r) : c.now r ≤ c.now (r + 1) ∧ c.now (r + 1) ≤ c.now r + 2 := by
  have := rdv_lip (b := c.base) (p := c.phase) (d1 := r - c.at_) (d2 := r + 1 - c.at_) (by omega) (by omega) ok.f0 ok.f1
  rw [show r + 1 - c.at_ - (r - c.at_) = 1 by omega] at this
  unfold Ck.now
  omega
theorem rdv_at {b p f : Int} : rdv b p f 0 = b := by
  unfold rdv
  omega
/-- Behind an update that doesn't step, the clock reads what it read; and it stands no later than then. -/
theorem upd_reads {c : Ck} {B r off : Int} (ok : c.Ok B) (h0 : c.at_ ≤ r) : ((c.upd r off).2 ≠ 1 → (c.upd r off).1.now r = c.now r) ∧ (c.upd r off).1.at_ ≤ r := by
  have sl : (c.slewTo r off).now r = c.now r := by
    show rdv (c.now r) off _ (r - r) = _
    rw [Int.sub_self, rdv_at]
  unfold Ck.upd
  split
  · exact ⟨fun h => absurd rfl h, Int.le_refl _⟩
  · split
    · exact ⟨fun _ => sl, Int.le_refl _⟩
    · exact ⟨fun _ => rfl, h0⟩
  · split
    · exact ⟨fun _ => sl, Int.le_refl _⟩
    · split
      · exact ⟨fun _ => rfl, h0⟩
      · exact ⟨fun h => absurd rfl h, Int.le_refl _⟩
theorem upd_move {c : Ck} {r off : Int} : (c.upd r off).2 = 0 ∨ (c.upd r off).2 = 1 ∨ (c.upd r off).2 = 2 := by
  unfold Ck.upd
  split
  · exact .inr (.inl rfl)
  · split
    · exact .inl rfl
    · exact .inr (.inr rfl)
  · split
    · exact .inl rfl
    · split
      · exact .inr (.inr rfl)
      · exact .inr (.inl rfl)

/-- What holds at a round's head. -/
def RisesRel (w0 : World) (n g m : Nat) (raw last at_ i : Value) (wr : World) : Prop :=
  ∃ (k : Nat) (r l t : Int) (c : Ck), k ≤ n ∧ k + m = 60 ∧ i = .int .i64 k ∧ raw = .int .i64 r ∧ last = .int .i64 l ∧ at_ = .int .i64 t ∧ 0 ≤ r ∧ r ≤ k * 17179869184 ∧ c.at_ ≤ r ∧ (t = 0 ∨ t = 1 ∧ l = c.now r) ∧ c.Ok (1099511627776 + k * 1200000000000) ∧ Has w0 wr g c

set_option maxRecDepth 100000 in
set_option maxHeartbeats 1000000 in
theorem ClockRises_walk (freq : Int) (_ : (Lit.int .i64 freq).wf = true) (v : Value) (a : Int) (_ : (Lit.int .i64 a).wf = true) (b : Int) (_ : (Lit.int .i64 b).wf = true) (w : World)
    (hv : ∃ A n c f, v = .slice A n c ∧ Script w A n f) :
    Calls Try.prog 3 #[.int .i64 freq, v, .int .i64 a, .int .i64 b] w fun e w' => e = .returned (.bool true) ∧ Below w.heap.size w w' := by
  obtain ⟨A, n, cap, f, rfl, hs⟩ := hv
  have hn := hs.1
  have HS := Lib.hid hs
  clear hs
  obtain ⟨q, hq, q0, q1⟩ := st_mod freq 500001 (by omega)
  have HI := Lib.hid (show inNew 0 1099511627776 q from by unfold inNew; omega)
  go_enter Try.func3, Try.ntmps3
  go_wp2_with fail
  refine (awake_any w).mono ?_
  rintro e w1 ⟨rfl, h1⟩
  have H1 := Lib.hid h1
  clear h1
  go_wp2_with fail
  refine (L_new H1.out HI.out).mono ?_
  rintro e w2 ⟨rfl, h2⟩
  have H2 := Lib.hid h2
  clear h2 hq
  generalize w1.heap.size = g at *
  go_wp2_with fail
  go_loopg [11, 12, 13, 14] 60 (fun m r l t i wr => RisesRel w n g m r l t i wr)
  case atStart => exact ⟨0, 0, 0, 0, newCk 0 1099511627776 q, Nat.zero_le _, rfl, rfl, rfl, rfl, rfl, by omega, by omega, Int.le_refl _, .inl rfl, ⟨by show _ ≤ (1099511627776 : Int); omega, by show (1099511627776 : Int) ≤ _; omega, by show (0 : Int) ≤ 0; omega, by show (0 : Int) ≤ _; omega, by show _ ≤ (0 : Int); omega, by show (0 : Int) ≤ _; omega, by show _ ≤ q; omega, by show q ≤ _; omega, fun s hs => by cases hs⟩, H2.out⟩
  case round =>
    obtain ⟨k, r, l, t, c, hkn, hkm, rfl, rfl, rfl, rfl, hr0, hr1, hat, ht, hok, hha⟩ := hrel
    have HOK := Lib.hid hok
    have HH := Lib.hid hha
    have HT := Lib.hid ht
    have hat0 := hok.a0
    clear hok hha H2 ht
    by_cases hlt : k < n ∧ k < 60
    · obtain ⟨hlt, hlt5⟩ := hlt
      have hsc := HS.out.below HH.out.bel
      obtain ⟨bb, o, rfl, hcell⟩ := hsc.2.2 (by omega)
      have ha := hcell k hlt
      generalize f k = x at ha
      obtain ⟨rd, more, off, m0, m1, o0, o1⟩ := x
      have e1 := ha.c1
      have e2 := ha.c2
      have eb := ha.lt
      simp only [] at e1 e2
      clear hsc hcell ha HS
      have hkI : (k : Int) < 60 := by omega
      have hkn' : (k : Int) < (n : Int) := by omega
      obtain ⟨u, hu, u0, u1⟩ := st_mod more 17179869184 (by omega)
      obtain ⟨s, hs, s0, s1⟩ := st_emod (u + 17179869184) 17179869184 (by omega)
      obtain ⟨p, hp, p0, p1⟩ := st_mod off 68719476736 (by omega)
      have hc : c.can (r + s) := ⟨by omega, by omega⟩
      have HC := Lib.hid hc
      have hrd := upd_reads (off := p) HOK.out hc.1
      have hup := Ck.upd_ok (off := p) HOK.out hc (by omega) (by omega) (by omega) (by omega)
      have HRD := Lib.hid hrd
      have HUP := Lib.hid hup
      clear hrd hup
      have hm2 : ((c.upd (r + s) p).2 != 1) = false ∨ ((c.upd (r + s) p).2 != 1) = true ∧ ((c.upd (r + s) p).1.now (r + s) != c.now (r + s)) = false := by
        by_cases hh : (c.upd (r + s) p).2 = 1
        · left; rw [hh]; rfl
        · right; exact ⟨bne_iff_ne.2 hh, by rw [HRD.out.1 hh]; simp⟩
      have hc2 : (c.upd (r + s) p).1.can (r + s) := ⟨HRD.out.2, by have := HUP.out.a0; have := HRD.out.2; omega⟩
      have HC2 := Lib.hid hc2
      have HM2 := Lib.hid hm2
      clear hm2 hc2 hc
      have hmo : t = 0 ∨ t = 1 ∧ decide (c.now (r + s) < l) = false := by
        rcases HT.out with h | ⟨h, hl⟩
        · exact .inl h
        · exact .inr ⟨h, decide_eq_false (by rw [hl]; have := now_mono HOK.out hat (show r ≤ r + s by omega); omega)⟩
      clear HT
      generalize hupd : c.upd (r + s) p = up at *
      obtain ⟨c', mv⟩ := up
      have HUD := Lib.hid hupd
      clear hupd
      rcases HM2.out with hm | ⟨hm, hm'⟩
      all_goals
        rcases hmo with rfl | ⟨rfl, hl⟩
      all_goals
        go_wp2_with fail
        refine (read_yes HH.out.clk HOK.out (by omega) HC.out).mono ?_
        rintro e w' ⟨rfl, rfl⟩
        go_wp2_with fail
        refine (L_update HH.out HOK.out (by omega) HC.out (by omega) (by omega) (by omega)).mono ?_
        rw [HUD.out]
        rintro e w3 ⟨rfl, h3⟩
        have H3 := Lib.hid h3
        clear h3 HH
        go_wp2_with fail
        refine (read_yes H3.out.clk HUP.out (by omega) HC2.out).mono ?_
        rintro e w4 ⟨rfl, rfl⟩
        go_wp2_with fail
        go_roundg (gk - 1)
        case measure => omega
        case rel => exact ⟨k + 1, r + s, _, 1, c', by omega, by omega, by go_num, rfl, rfl, rfl, by omega, by omega, HRD.out.2, .inr ⟨rfl, rfl⟩, HUP.out.more (by omega), H3.out⟩
    · have hex : ¬ (k : Int) < (n : Int) ∨ (k : Int) < (n : Int) ∧ ¬ (k : Int) < 60 := by omega
      clear hlt
      obtain ⟨pa, hpa, pa0, pa1⟩ := st_mod a 1099511627776 (by omega)
      obtain ⟨la, hla, la0, la1⟩ := st_emod (pa + 1099511627776) 1099511627776 (by omega)
      obtain ⟨pb, hpb, pb0, pb1⟩ := st_mod b 1099511627776 (by omega)
      obtain ⟨lb, hlb, lb0, lb1⟩ := st_emod (pb + 1099511627776) 1099511627776 (by omega)
      have hbd : ∀ d : Int, 0 ≤ d → r + d ≤ c.at_ + 1099511627776 → -1154047404513689600 ≤ c.now (r + d) ∧ c.now (r + d) ≤ 1154047404513689600 := by
        intro d hd hd2
        have := Ck.now_ok HOK.out (raw := r + d) ⟨by omega, by omega⟩
        omega
      have HBD := Lib.hid hbd
      clear hbd
      have hz := HBD.out 0 (by omega) (by omega)
      rw [Int.add_zero] at hz
      obtain ⟨hz0, hz1⟩ := hz
      rcases (show lb < la ∨ ¬ lb < la by omega) with hab | hab
      case' inl =>
        obtain ⟨lo, hi, hlo, hhi⟩ : ∃ lo hi, lo = lb ∧ hi = la := ⟨_, _, rfl, rfl⟩
      case' inr =>
        obtain ⟨lo, hi, hlo, hhi⟩ : ∃ lo hi, lo = la ∧ hi = lb := ⟨_, _, rfl, rfl⟩
      all_goals
        subst hlo hhi
        have g1 := now_mono HOK.out (show c.at_ ≤ r + lo by omega) (show r + lo ≤ r + hi by omega)
        have g2 := now_near HOK.out hat (show 0 ≤ lo by omega)
        have g3 := (now_one HOK.out (show c.at_ ≤ r + lo by omega)).1
        have g4 := (now_one HOK.out (show c.at_ ≤ r + lo by omega)).2
        by_cases hh1 : r + hi ≤ c.at_ + 1099511627776
      case' neg =>
        by_cases hh2 : r + lo ≤ c.at_ + 1099511627776
      all_goals
        rcases hex with hex | ⟨hex, hex5⟩
      all_goals
        by_cases hh2 : r + lo ≤ c.at_ + 1099511627776
      all_goals
        by_cases hh3 : r + lo + 1 ≤ c.at_ + 1099511627776
      all_goals
        first
        | (exfalso; omega)
        | skip
      all_goals
        have hx := HBD.out lo (by omega)
        have G := Lib.hid (And.intro g1 (And.intro g2 (And.intro g3 g4)))
        clear g1 g2 g3 g4 hx
        go_wp2_with fail
        first
        | refine (read_yes HH.out.clk HOK.out (by omega) ⟨by omega, by omega⟩).mono ?_
        | refine (read_no HH.out.clk HOK.out (by omega) (by omega) (by intro hh; have := hh.2; omega)).mono ?_
        rintro e w' ⟨rfl, rfl⟩
        go_wp2_with fail
        first
        | refine (read_yes HH.out.clk HOK.out (by omega) ⟨by omega, by omega⟩).mono ?_
        | refine (read_no HH.out.clk HOK.out (by omega) (by omega) (by intro hh; have := hh.2; omega)).mono ?_
        rintro e w' ⟨rfl, rfl⟩
        go_wp2_with fail
        first
        | refine (read_yes HH.out.clk HOK.out (by omega) ⟨by omega, by omega⟩).mono ?_
        | refine (read_no HH.out.clk HOK.out (by omega) (by omega) (by intro hh; have := hh.2; omega)).mono ?_
        rintro e w' ⟨rfl, rfl⟩
        go_wp2_with fail
      all_goals
        first
        | (go_ret; exact ⟨rfl, HH.out.bel⟩)
        | (refine (read_yes HH.out.clk HOK.out (by omega) ⟨by omega, by omega⟩).mono ?_
           rintro e w' ⟨rfl, rfl⟩
           obtain ⟨g1, g2, g3, g4⟩ := G.out
           obtain ⟨b1, b2⟩ := HBD.out lo (by omega) (by omega)
           clear HBD G
           generalize c.now (r + lo) = X at *
           generalize c.now (r + hi) = Y at *
           generalize c.now (r + lo + 1) = Z at *
           generalize c.now r = M at *
           go_wp2
           go_ret
           exact ⟨rfl, HH.out.bel⟩)

end Go.Proofs.Ytkngpkhagblifaa
