/- ClockSteps: the walk. -/
import Derived.Test.YtkngpkhagblifaaC4
namespace Go.Proofs.Ytkngpkhagblifaa
set_option linter.unusedVariables false
set_option linter.unusedSimpArgs false
open Go.RowKit

theorem rdv_flat {b d : Int} (h : 0 ≤ d) : rdv b 0 0 d = b + d := by
  unfold rdv
  omega
def stC0 : Ck := newCk 0 1125899906842624 0
def stC1 (o : Int) : Ck := { base := 1125899906843624 + o, at_ := 1000, phase := 0, freq := 0, st := .set }
def stC2 (o : Int) : Ck := { base := 1125899906843624 + o, at_ := 1000, phase := 0, freq := 0, st := .spike 5243880 }
def stC3 (o b t : Int) : Ck := { base := 1125899906843624 + o + (5242880 + t) + b, at_ := 5243880 + t, phase := 0, freq := 0, st := .set }
theorem st_now0 : stC0.now 1000 = 1125899906843624 := by rfl
theorem st_upd0 {o : Int} (h0 : -68719476736 ≤ o) (h1 : o ≤ 68719476736) : stC0.upd 1000 o = (stC1 o, 1) := by
  have e : bnd (1125899906843624 + o) = 1125899906843624 + o := by unfold bnd; omega
  show (stC0.stepTo 1000 o, (1 : Int)) = _
  unfold Ck.stepTo
  rw [st_now0, e]
  rfl
theorem st_now1 {o : Int} : (stC1 o).now 1000 = 1125899906843624 + o := by
  show rdv (1125899906843624 + o) 0 0 (1000 - 1000) = _
  rw [rdv_flat (by omega)]; omega
theorem st_upd1 {o b : Int} (h : 134218 ≤ b) : (stC1 o).upd 5243880 b = (stC2 o, 2) := by
  have h' : ¬ small b := by unfold small; omega
  show (if small b then _ else _) = _
  rw [if_neg h']
  rfl
theorem st_now2 {o t : Int} (h : 0 ≤ t) : (stC2 o).now (5243880 + t) = 1125899906843624 + o + (5242880 + t) := by
  show rdv (1125899906843624 + o) 0 0 (5243880 + t - 1000) = _
  rw [rdv_flat (by omega)]; omega
theorem st_upd2 {o b t : Int} (hb : 134218 ≤ b) (ht : t < 314572800) : (stC2 o).upd (5243880 + t) b = (stC2 o, 2) := by
  have h' : ¬ small b := by unfold small; omega
  show (if small b then _ else if 5243880 + t - 5243880 < 314572800 then _ else _) = _
  rw [if_neg h', if_pos (by omega)]
theorem st_upd3 {o b t : Int} (h0 : -68719476736 ≤ o) (h1 : o ≤ 68719476736) (hb : 134218 ≤ b) (hb1 : b ≤ 68719476736) (ht : ¬ t < 314572800) (ht1 : t ≤ 629145600) : (stC2 o).upd (5243880 + t) b = (stC3 o b t, 1) := by
  have h' : ¬ small b := by unfold small; omega
  show (if small b then _ else if 5243880 + t - 5243880 < 314572800 then _ else _) = _
  rw [if_neg h', if_neg (by omega)]
  unfold Ck.stepTo
  rw [st_now2 (by omega)]
  have e : bnd (1125899906843624 + o + (5242880 + t) + b) = 1125899906843624 + o + (5242880 + t) + b := by unfold bnd; omega
  rw [e]
  rfl
theorem st_now3 {o b t : Int} : (stC3 o b t).now (5243880 + t) = 1125899906843624 + o + (5242880 + t) + b := by
  show rdv (1125899906843624 + o + (5242880 + t) + b) 0 0 (5243880 + t - (5243880 + t)) = _
  rw [rdv_flat (by omega)]; omega
theorem st_ok0 : stC0.Ok 1152921504606846976 := (new_ok (by unfold inNew; omega)).more (by omega)
theorem st_ok1 {o : Int} (h0 : -68719476736 ≤ o) (h1 : o ≤ 68719476736) : (stC1 o).Ok 1152921504606846976 :=
  ⟨by show _ ≤ 1125899906843624 + o; omega, by show 1125899906843624 + o ≤ _; omega, by show (0 : Int) ≤ 1000; omega, by show (1000 : Int) ≤ _; omega, by show _ ≤ (0 : Int); omega, by show (0 : Int) ≤ _; omega, by show _ ≤ (0 : Int); omega, by show (0 : Int) ≤ _; omega, fun s hs => by cases hs⟩
theorem st_ok2 {o : Int} (h0 : -68719476736 ≤ o) (h1 : o ≤ 68719476736) : (stC2 o).Ok 1152921504606846976 :=
  ⟨by show _ ≤ 1125899906843624 + o; omega, by show 1125899906843624 + o ≤ _; omega, by show (0 : Int) ≤ 1000; omega, by show (1000 : Int) ≤ _; omega, by show _ ≤ (0 : Int); omega, by show (0 : Int) ≤ _; omega, by show _ ≤ (0 : Int); omega, by show (0 : Int) ≤ _; omega, fun s hs => by cases hs; omega⟩
theorem st_ok3 {o b t : Int} (h0 : -68719476736 ≤ o) (h1 : o ≤ 68719476736) (hb : 134218 ≤ b) (hb1 : b ≤ 68719476736) (ht : 0 ≤ t) (ht1 : t ≤ 629145600) : (stC3 o b t).Ok 1152921504606846976 :=
  ⟨by show _ ≤ 1125899906843624 + o + (5242880 + t) + b; omega, by show 1125899906843624 + o + (5242880 + t) + b ≤ _; omega, by show 0 ≤ 5243880 + t; omega, by show 5243880 + t ≤ _; omega, by show _ ≤ (0 : Int); omega, by show (0 : Int) ≤ _; omega, by show _ ≤ (0 : Int); omega, by show (0 : Int) ≤ _; omega, fun s hs => by cases hs⟩

theorem can3 (o b t : Int) : (stC3 o b t).can (5243880 + t) := by
  constructor
  · show 5243880 + t ≤ 5243880 + t; omega
  · show 5243880 + t ≤ 5243880 + t + 1099511627776; omega
theorem st_mod (x n : Int) (hn : 0 < n) : ∃ o, x.tmod n = o ∧ -n < o ∧ o < n :=
  ⟨_, rfl, Int.lt_tmod_of_pos x hn, Int.tmod_lt_of_pos x hn⟩
theorem st_emod (x n : Int) (hn : 0 < n) : ∃ o, x % n = o ∧ 0 ≤ o ∧ o < n :=
  ⟨_, rfl, Int.emod_nonneg x (by omega), Int.emod_lt_of_pos x hn⟩

set_option maxHeartbeats 1000000 in
theorem ClockSteps_walk (off : Int) (_ : (Lit.int .i64 off).wf = true) (big : Int) (_ : (Lit.int .i64 big).wf = true) (wait : Int) (_ : (Lit.int .i64 wait).wf = true) (w : World) :
    Calls Try.prog 4 #[.int .i64 off, .int .i64 big, .int .i64 wait] w fun e w' => e = .returned (.bool true) ∧ Below w.heap.size w w' := by
  obtain ⟨o, ho, o0, o1⟩ := st_mod off 68719476736 (by omega)
  obtain ⟨m, hm, m0, m1⟩ := st_mod big 1073741824 (by omega)
  obtain ⟨k, hk, k0, k1⟩ := st_emod (m + 1073741824) 1073741824 (by omega)
  obtain ⟨n, hn, n0, n1⟩ := st_mod wait 629145600 (by omega)
  obtain ⟨t, ht, t0, t1⟩ := st_emod (n + 629145600) 629145600 (by omega)
  have u0 := st_upd0 (o := o) (by omega) (by omega)
  have u1 := st_upd1 (o := o) (b := 134218 + k) (by omega)
  have O1 := Lib.hid (st_ok1 (o := o) (by omega) (by omega))
  have O2 := Lib.hid (st_ok2 (o := o) (by omega) (by omega))
  have N2 := Lib.hid (st_now2 (o := o) t0)
  have U0 := Lib.hid u0
  have U1 := Lib.hid u1
  clear u0 u1
  by_cases hlt : t < 314572800
  · have U2 := Lib.hid (st_upd2 (o := o) (b := 134218 + k) (by omega) hlt)
    go_enter Try.func4, Try.ntmps4
    go_wp2_with fail
    refine (awake_any w).mono ?_
    rintro e w1 ⟨rfl, h1⟩
    have H1 := Lib.hid h1
    clear h1
    go_wp2_with fail
    refine (L_new H1.out (by unfold inNew; omega)).mono ?_
    rintro e w2 ⟨rfl, h2⟩
    have H2 := Lib.hid h2
    clear h2
    generalize w1.heap.size = g at *
    go_wp2_with fail
    refine (read_yes H2.out.clk st_ok0 (by omega) (by decide)).mono ?_
    rw [show (newCk 0 1125899906842624 0).now 1000 = _ from st_now0]
    rintro e w3 ⟨rfl, rfl⟩
    go_wp2_with fail
    refine (L_update H2.out st_ok0 (by omega) (by decide) (by omega) (by omega) (by omega)).mono ?_
    rw [show (newCk 0 1125899906842624 0).upd 1000 o = _ from U0.out]
    rintro e w3 ⟨rfl, h3⟩
    have H3 := Lib.hid h3
    clear h3 H2
    go_wp2_with fail
    refine (read_yes H3.out.clk O1.out (by omega) (by constructor <;> (unfold stC1; simp))).mono ?_
    rw [st_now1]
    rintro e w4 ⟨rfl, rfl⟩
    go_wp2_with fail
    refine (L_spiking H3.out).mono ?_
    rintro e w4 ⟨rfl, h4⟩
    have H4 := Lib.hid h4
    clear h4 H3
    go_wp2_with fail
    refine (L_update H4.out O1.out (by omega) (by constructor <;> (unfold stC1; simp)) (by omega) (by omega) (by omega)).mono ?_
    rw [U1.out]
    rintro e w5 ⟨rfl, h5⟩
    have H5 := Lib.hid h5
    clear h5 H4
    go_wp2_with fail
    refine (L_spiking H5.out).mono ?_
    rintro e w6 ⟨rfl, h6⟩
    have H6 := Lib.hid h6
    clear h6 H5
    go_wp2_with fail
    refine (read_yes H6.out.clk O2.out (by omega) (by constructor <;> (show (_ : Int) ≤ _; unfold stC2; simp; omega))).mono ?_
    rw [N2.out]
    rintro e w7 ⟨rfl, rfl⟩
    go_wp2_with fail
    refine (L_update H6.out O2.out (by omega) (by constructor <;> (show (_ : Int) ≤ _; unfold stC2; simp; omega)) (by omega) (by omega) (by omega)).mono ?_
    rw [U2.out]
    rintro e w7 ⟨rfl, h7⟩
    have H7 := Lib.hid h7
    clear h7 H6
    go_wp2_with fail
    refine (read_yes H7.out.clk O2.out (by omega) (by constructor <;> (show (_ : Int) ≤ _; unfold stC2; simp; omega))).mono ?_
    rw [N2.out]
    rintro e w8 ⟨rfl, rfl⟩
    go_wp2_with fail
    refine (L_spiking H7.out).mono ?_
    rintro e w9 ⟨rfl, h9⟩
    have H9 := Lib.hid h9
    clear h9 H7
    go_wp2
    go_ret
    exact ⟨rfl, H9.out.bel⟩
  · have U2 := Lib.hid (st_upd3 (o := o) (b := 134218 + k) (by omega) (by omega) (by omega) (by omega) hlt (by omega))
    have O3 := Lib.hid (st_ok3 (o := o) (b := 134218 + k) (t := t) (by omega) (by omega) (by omega) (by omega) (by omega) (by omega))
    go_enter Try.func4, Try.ntmps4
    go_wp2_with fail
    refine (awake_any w).mono ?_
    rintro e w1 ⟨rfl, h1⟩
    have H1 := Lib.hid h1
    clear h1
    go_wp2_with fail
    refine (L_new H1.out (by unfold inNew; omega)).mono ?_
    rintro e w2 ⟨rfl, h2⟩
    have H2 := Lib.hid h2
    clear h2
    generalize w1.heap.size = g at *
    go_wp2_with fail
    refine (read_yes H2.out.clk st_ok0 (by omega) (by decide)).mono ?_
    rw [show (newCk 0 1125899906842624 0).now 1000 = _ from st_now0]
    rintro e w3 ⟨rfl, rfl⟩
    go_wp2_with fail
    refine (L_update H2.out st_ok0 (by omega) (by decide) (by omega) (by omega) (by omega)).mono ?_
    rw [show (newCk 0 1125899906842624 0).upd 1000 o = _ from U0.out]
    rintro e w3 ⟨rfl, h3⟩
    have H3 := Lib.hid h3
    clear h3 H2
    go_wp2_with fail
    refine (read_yes H3.out.clk O1.out (by omega) (by constructor <;> (unfold stC1; simp))).mono ?_
    rw [st_now1]
    rintro e w4 ⟨rfl, rfl⟩
    go_wp2_with fail
    refine (L_spiking H3.out).mono ?_
    rintro e w4 ⟨rfl, h4⟩
    have H4 := Lib.hid h4
    clear h4 H3
    go_wp2_with fail
    refine (L_update H4.out O1.out (by omega) (by constructor <;> (unfold stC1; simp)) (by omega) (by omega) (by omega)).mono ?_
    rw [U1.out]
    rintro e w5 ⟨rfl, h5⟩
    have H5 := Lib.hid h5
    clear h5 H4
    go_wp2_with fail
    refine (L_spiking H5.out).mono ?_
    rintro e w6 ⟨rfl, h6⟩
    have H6 := Lib.hid h6
    clear h6 H5
    go_wp2_with fail
    refine (read_yes H6.out.clk O2.out (by omega) (by constructor <;> (show (_ : Int) ≤ _; unfold stC2; simp; omega))).mono ?_
    rw [N2.out]
    rintro e w7 ⟨rfl, rfl⟩
    go_wp2_with fail
    refine (L_update H6.out O2.out (by omega) (by constructor <;> (show (_ : Int) ≤ _; unfold stC2; simp; omega)) (by omega) (by omega) (by omega)).mono ?_
    rw [U2.out]
    rintro e w7 ⟨rfl, h7⟩
    have H7 := Lib.hid h7
    clear h7 H6
    go_wp2_with fail
    refine (read_yes H7.out.clk O3.out (by omega) (can3 _ _ _)).mono ?_
    rw [st_now3]
    rintro e w8 ⟨rfl, rfl⟩
    go_wp2_with fail
    refine (L_spiking H7.out).mono ?_
    rintro e w9 ⟨rfl, h9⟩
    have H9 := Lib.hid h9
    clear h9 H7
    go_wp2
    go_ret
    exact ⟨rfl, H9.out.bel⟩

end Go.Proofs.Ytkngpkhagblifaa
