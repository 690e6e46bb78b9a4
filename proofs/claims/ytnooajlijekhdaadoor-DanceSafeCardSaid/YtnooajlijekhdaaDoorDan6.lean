/- Layer 19: headers as they come in; the law DanceCodes. -/
import Derived.Test.YtnooajlijekhdaaDoorDan5
import Derived.ProofKit
import Derived.OpenShut
import Derived.Lib.SmallJoins
namespace Go.Proofs.YtnooajlijekhdaaDoor
set_option linter.unusedVariables false
set_option linter.unusedSimpArgs false
open Go.RowKit Go.ChangeShapes Go.WideShapes

section
variable {H : Type} {enc : TypeId × Value → H} {P : Program}
/-- A struct of one-cell fields, by value, as it came in. -/
theorem open_aggN {W : World} {r : Reach} {base : Nat} {t : TypeId} {fs : Array Field} {v : Value} {d : DataW H} {p : List MemPlace} (hs : P.underlying t = some (.struct fs))
    (hone : ∀ (i : Nat) (f : Field), fs[i]? = some f → f.offset = i ∧ P.cellsOf f.type = 1) (hC : P.cellsOf t = fs.size) (hv : Value.okWide P W r base t v) (h : DataW.Trod enc P W 0 (fun _ => true) true t v d p) :
    ∃ cs : Array Value, v = .agg cs ∧ cs.size = fs.size ∧ ∀ (i : Nat) (f : Field), fs[i]? = some f → ∃ u, cs[i]? = some u ∧ ∃ m y, DataW.trod enc P W 0 (fun _ => true) true m f.type [u] = some y := by
  obtain ⟨cs, rfl, hsz⟩ := okWide_struct hs hv
  obtain ⟨fuel, hf⟩ := h
  obtain ⟨xs, n, _, _, hl, hlen, hall⟩ := DataW.trod_struct hs hf
  refine ⟨cs, rfl, hsz.trans hC, fun i f hi => ?_⟩
  have hlt : i < fs.size := (Array.getElem?_eq_some_iff.1 hi).1
  have hc : i < cs.size := by rw [hsz, hC]; exact hlt
  obtain ⟨ho, hk⟩ := hone i f hi
  have h1 := hall i f hi
  rw [ho, hk] at h1
  have hxl : i < xs.length := by omega
  rw [List.getElem?_eq_getElem hxl] at h1
  refine ⟨cs[i], Array.getElem?_eq_getElem hc, n, xs[i], ?_⟩
  have e : ((Value.agg cs).cells.toList.drop i).take 1 = [cs[i]] := by
    show (cs.toList.drop i).take 1 = [cs[i]]
    rw [List.drop_eq_getElem_cons (by simpa using hc)]
    simp
  rw [e] at h1
  exact h1
end
theorem array13 {α : Type} {cs : Array α} (h : cs.size = 13) : ∃ c0 c1 c2 c3 c4 c5 c6 c7 c8 c9 c10 c11 c12, cs = #[c0, c1, c2, c3, c4, c5, c6, c7, c8, c9, c10, c11, c12] := by
  obtain ⟨l⟩ := cs
  match l, h with
  | [c0, c1, c2, c3, c4, c5, c6, c7, c8, c9, c10, c11, c12], _ => exact ⟨c0, c1, c2, c3, c4, c5, c6, c7, c8, c9, c10, c11, c12, rfl⟩
theorem open_hdr {H : Type} {enc : TypeId × Value → H} {W : World} {base : Nat} {v : Value} {d : DataW H} {p : List MemPlace} {ts : List TypeId} {ds : List (DataW H)}
    (hok : Value.okWide Tryd.prog W .any base 35 v) (h : DataW.Trod enc Tryd.prog W 0 (fun _ => true) true 35 v d p)
    (hsz : (DataW.weightsEach Tryd.prog ts ds).all (· ≤ reachBytes) = true) {j : Nat} (hj : ts[j]? = some 35) (hd : ds[j]? = some d) :
    ∃ x : Hd, v = x.v ∧ x.Ok := by
  obtain ⟨cs, rfl, hs, hall⟩ := open_aggN Tryd.underlying35 (by
    intro i f hi
    match i with
    | 0 => cases hi; exact ⟨rfl, by kernel_rfl⟩
    | 1 => cases hi; exact ⟨rfl, by kernel_rfl⟩
    | 2 => cases hi; exact ⟨rfl, by kernel_rfl⟩
    | 3 => cases hi; exact ⟨rfl, by kernel_rfl⟩
    | 4 => cases hi; exact ⟨rfl, by kernel_rfl⟩
    | 5 => cases hi; exact ⟨rfl, by kernel_rfl⟩
    | 6 => cases hi; exact ⟨rfl, by kernel_rfl⟩
    | 7 => cases hi; exact ⟨rfl, by kernel_rfl⟩
    | 8 => cases hi; exact ⟨rfl, by kernel_rfl⟩
    | 9 => cases hi; exact ⟨rfl, by kernel_rfl⟩
    | 10 => cases hi; exact ⟨rfl, by kernel_rfl⟩
    | 11 => cases hi; exact ⟨rfl, by kernel_rfl⟩
    | 12 => cases hi; exact ⟨rfl, by kernel_rfl⟩
    | n + 13 => simp at hi) (by kernel_rfl) hok h
  obtain ⟨c0, c1, c2, c3, c4, c5, c6, c7, c8, c9, c10, c11, c12, rfl⟩ := array13 hs
  obtain ⟨u0, e0, m0, y0, t0⟩ := hall 0 _ rfl
  obtain rfl := Option.some.inj e0
  obtain ⟨leap, z0, _, w0⟩ := DataW.trod_int Tryd.underlying3 t0
  simp only [List.cons.injEq, and_true] at z0
  subst z0
  obtain ⟨u1, e1, m1, y1, t1⟩ := hall 1 _ rfl
  obtain rfl := Option.some.inj e1
  obtain ⟨ver, z1, _, w1⟩ := DataW.trod_int Tryd.underlying3 t1
  simp only [List.cons.injEq, and_true] at z1
  subst z1
  obtain ⟨u2, e2, m2, y2, t2⟩ := hall 2 _ rfl
  obtain rfl := Option.some.inj e2
  obtain ⟨mode, z2, _, w2⟩ := DataW.trod_int Tryd.underlying3 t2
  simp only [List.cons.injEq, and_true] at z2
  subst z2
  obtain ⟨u3, e3, m3, y3, t3⟩ := hall 3 _ rfl
  obtain rfl := Option.some.inj e3
  obtain ⟨str, z3, _, w3⟩ := DataW.trod_int Tryd.underlying3 t3
  simp only [List.cons.injEq, and_true] at z3
  subst z3
  obtain ⟨u4, e4, m4, y4, t4⟩ := hall 4 _ rfl
  obtain rfl := Option.some.inj e4
  obtain ⟨poll, z4, _, w4⟩ := DataW.trod_int Tryd.underlying3 t4
  simp only [List.cons.injEq, and_true] at z4
  subst z4
  obtain ⟨u5, e5, m5, y5, t5⟩ := hall 5 _ rfl
  obtain rfl := Option.some.inj e5
  obtain ⟨prec, z5, _, w5⟩ := DataW.trod_int Tryd.underlying3 t5
  simp only [List.cons.injEq, and_true] at z5
  subst z5
  obtain ⟨u6, e6, m6, y6, t6⟩ := hall 6 _ rfl
  obtain rfl := Option.some.inj e6
  obtain ⟨rdel, z6, _, w6⟩ := DataW.trod_int Tryd.underlying30 t6
  simp only [List.cons.injEq, and_true] at z6
  subst z6
  obtain ⟨u7, e7, m7, y7, t7⟩ := hall 7 _ rfl
  obtain rfl := Option.some.inj e7
  obtain ⟨rdisp, z7, _, w7⟩ := DataW.trod_int Tryd.underlying30 t7
  simp only [List.cons.injEq, and_true] at z7
  subst z7
  obtain ⟨u8, e8, m8, y8, t8⟩ := hall 8 _ rfl
  obtain rfl := Option.some.inj e8
  obtain ⟨rid, z8, _, w8⟩ := DataW.trod_int Tryd.underlying30 t8
  simp only [List.cons.injEq, and_true] at z8
  subst z8
  obtain ⟨u9, e9, m9, y9, t9⟩ := hall 9 _ rfl
  obtain rfl := Option.some.inj e9
  obtain ⟨rf, z9, _, w9⟩ := DataW.trod_int Tryd.underlying31 t9
  simp only [List.cons.injEq, and_true] at z9
  subst z9
  obtain ⟨u10, e10, m10, y10, t10⟩ := hall 10 _ rfl
  obtain rfl := Option.some.inj e10
  obtain ⟨org, z10, _, w10⟩ := DataW.trod_int Tryd.underlying31 t10
  simp only [List.cons.injEq, and_true] at z10
  subst z10
  obtain ⟨u11, e11, m11, y11, t11⟩ := hall 11 _ rfl
  obtain rfl := Option.some.inj e11
  obtain ⟨rcv, z11, _, w11⟩ := DataW.trod_int Tryd.underlying31 t11
  simp only [List.cons.injEq, and_true] at z11
  subst z11
  obtain ⟨u12, e12, m12, y12, t12⟩ := hall 12 _ rfl
  obtain rfl := Option.some.inj e12
  obtain ⟨tx, z12, _, w12⟩ := DataW.trod_int Tryd.underlying31 t12
  simp only [List.cons.injEq, and_true] at z12
  subst z12
  exact ⟨⟨leap, ver, mode, str, poll, prec, rdel, rdisp, rid, rf, org, rcv, tx⟩, rfl, ⟨(bounds_u32 w6).1, (bounds_u32 w6).2, (bounds_u32 w7).1, (bounds_u32 w7).2, (bounds_u32 w8).1, (bounds_u32 w8).2, (bounds_u64 w9).1, (bounds_u64 w9).2, (bounds_u64 w12).1, (bounds_u64 w12).2⟩⟩

/-- Taken apart and put together again. -/
theorem code_back (l : List UInt8) (h : l.length = 4) : strOfNums [kissB (codeP l 4) 0, kissB (codeP l 4) 1, kissB (codeP l 4) 2, kissB (codeP l 4) 3] = ⟨l.toArray⟩ := by
  match l, h with
  | [a, b, c, d], _ =>
    have ha := a.toNat_lt
    have hb := b.toNat_lt
    have hc := c.toNat_lt
    have hd := d.toNat_lt
    have e : codeP [a, b, c, d] 4 = ((a.toNat * 256 + b.toNat) * 256 + c.toNat) * 256 + d.toNat := by simp [codeP, List.getD]
    have k0 : kissB (codeP [a, b, c, d] 4) 0 = a.toNat := by rw [e]; show _ / 16777216 % 256 = _; omega
    have k1 : kissB (codeP [a, b, c, d] 4) 1 = b.toNat := by rw [e]; show _ / 65536 % 256 = _; omega
    have k2 : kissB (codeP [a, b, c, d] 4) 2 = c.toNat := by rw [e]; show _ / 256 % 256 = _; omega
    have k3 : kissB (codeP [a, b, c, d] 4) 3 = d.toNat := by rw [e]; show _ / 1 % 256 = _; omega
    rw [k0, k1, k2, k3]
    simp [strOfNums]

theorem dance_KissX (leap ver mode str poll prec rdel rdisp rid rf org rcv tx : Int) (ho : Hd.Ok ⟨leap, ver, mode, str, poll, prec, rdel, rdisp, rid, rf, org, rcv, tx⟩) (w : World) :
    Calls Tryd.prog 13 #[.agg #[.int .i64 leap, .int .i64 ver, .int .i64 mode, .int .i64 str, .int .i64 poll, .int .i64 prec, .int .u32 rdel, .int .u32 rdisp, .int .u32 rid, .int .u64 rf, .int .u64 org, .int .u64 rcv, .int .u64 tx]] w
      fun e w' => e = .returned (.tuple #[.string (kissV ⟨leap, ver, mode, str, poll, prec, rdel, rdisp, rid, rf, org, rcv, tx⟩), .bool (decide (kissOk ⟨leap, ver, mode, str, poll, prec, rdel, rdisp, rid, rf, org, rcv, tx⟩))]) ∧ Below w.heap.size w w' := dance_Kiss _ ho w
set_option maxRecDepth 100000 in
set_option maxHeartbeats 1000000 in
theorem danceCodes_walk (s : ByteArray) (hs : s.size ≤ 140737488351232) (x : Value) (w : World) (hx : ∃ h : Hd, x = h.v ∧ h.Ok) :
    Calls Tryd.prog 6 #[.string s, x] w fun e w' => e = .returned (.bool true) ∧ Below w.heap.size w w' := by
  obtain ⟨h, rfl, ho⟩ := hx
  obtain ⟨leap, ver, mode, str, poll, prec, rdel, rdisp, rid, rf, org, rcv, tx⟩ := h
  obtain ⟨d0, d1, p0, p1, i0, i1, r0, r1, t0, t1⟩ := ho
  simp only at d0 d1 p0 p1 i0 i1 r0 r1 t0 t1
  have hs63 : s.size ≤ 9223372036854775807 := by omega
  have hh := (Held.start w).push 35 #[.int .i64 leap, .int .i64 ver, .int .i64 mode, .int .i64 str, .int .i64 poll, .int .i64 prec, .int .u32 rdel, .int .u32 rdisp, .int .u32 rid, .int .u64 rf, .int .u64 org, .int .u64 rcv, .int .u64 tx]
  have hc := hh.cells
  simp only [Cells, and_true] at hc
  unfold Hd.v
  simp only [Hd.cells]
  by_cases hcap : isCap s.data.toList
  · have HV := Lib.hid (show codeV s.data.toList = codeP s.data.toList 4 from if_pos hcap)
    have HE := Lib.hid (show codeE s.data.toList = 0 from if_pos hcap)
    obtain ⟨n, hn⟩ : ∃ n, codeP s.data.toList 4 = n := ⟨_, rfl⟩
    have hnb := codeP_bound s.data.toList 4
    have hk : kissS n = s := by
      have := code_back s.data.toList hcap.1
      rw [hn] at this
      rw [kissS, this]
    rw [hn] at HV hnb
    have n0 : 0 ≤ n ∧ n ≤ 4294967295 := ⟨hnb.1, by have := hnb.2; omega⟩
    have K1 := Lib.hid (show decide (kissOk ⟨leap, ver, 4, 0, poll, prec, rdel, rdisp, n, rf, org, rcv, tx⟩) = true from decide_eq_true ⟨rfl, rfl, by show isCap (kissS n).data.toList; rw [hk]; exact hcap⟩)
    have K2 := Lib.hid (show kissV ⟨leap, ver, 4, 0, poll, prec, rdel, rdisp, n, rf, org, rcv, tx⟩ = s from (if_pos ⟨rfl, rfl, by show isCap (kissS n).data.toList; rw [hk]; exact hcap⟩).trans hk)
    have K3 := Lib.hid (show decide (kissOk ⟨leap, ver, 4, 1, poll, prec, rdel, rdisp, n, rf, org, rcv, tx⟩) = false from decide_eq_false (fun h => by have := h.2.1; simp at this))
    clear hcap hn hnb hk
    go_enter Tryd.func6, Tryd.ntmps6
    go_wp2_with (first
      | (go_at_call 7; refine (awake_ok _).mono ?_; rintro e w1 ⟨rfl, hb⟩; clear hc; have hh := Held.below hh hb; have hc := hh.cells; simp only [Cells, and_true] at hc)
      | (go_at_call 16; refine (dance_Code _ _ hs63).mono ?_; rintro e w1 ⟨rfl, hb⟩; rw [HV.out, HE.out]; clear hc; have hh := Held.below hh hb; have hc := hh.cells; simp only [Cells, and_true] at hc)
      | (go_at_call 17; refine (ref_Code _ _ hs63).mono ?_; rintro e w1 ⟨rfl, rfl⟩; rw [HV.out, HE.out])
      | (go_at_call 13; refine (dance_KissX _ _ _ _ _ _ _ _ _ _ _ _ _ (ok_by (by omega)) _).mono ?_; rintro e w1 ⟨rfl, hb⟩;
          first
          | (rw [K1.out, K2.out]; have hh0 := ((Held.put hh w.heap.size 8 (.int .u32 n) (Nat.le_refl _)).put w.heap.size 3 (.int .i64 0) (Nat.le_refl _)).put w.heap.size 2 (.int .i64 4) (Nat.le_refl _); clear hc; have hh : Held w _ [(w.heap.size, 35, #[.int .i64 leap, .int .i64 ver, .int .i64 4, .int .i64 0, .int .i64 poll, .int .i64 prec, .int .u32 rdel, .int .u32 rdisp, .int .u32 n, .int .u64 rf, .int .u64 org, .int .u64 rcv, .int .u64 tx])] := (by simpa using Held.below hh0 hb); clear hh0; have hc := hh.cells; simp only [Cells, and_true] at hc)
          | (rw [K3.out]; have hh0 := Held.put hh w.heap.size 3 (.int .i64 1) (Nat.le_refl _); clear hc; have hh : Held w _ [(w.heap.size, 35, #[.int .i64 leap, .int .i64 ver, .int .i64 4, .int .i64 1, .int .i64 poll, .int .i64 prec, .int .u32 rdel, .int .u32 rdisp, .int .u32 n, .int .u64 rf, .int .u64 org, .int .u64 rcv, .int .u64 tx])] := (by simpa using Held.below hh0 hb); clear hh0; have hc := hh.cells; simp only [Cells, and_true] at hc)))
    go_ret
    exact ⟨rfl, hh.1⟩
  · have HV := Lib.hid (show codeV s.data.toList = 0 from if_neg hcap)
    have HE := Lib.hid (show codeE s.data.toList = 4 from if_neg hcap)
    clear hcap
    go_enter Tryd.func6, Tryd.ntmps6
    go_wp2_with (first
      | (go_at_call 7; refine (awake_ok _).mono ?_; rintro e w1 ⟨rfl, hb⟩; clear hc; have hh := Held.below hh hb; have hc := hh.cells; simp only [Cells, and_true] at hc)
      | (go_at_call 16; refine (dance_Code _ _ hs63).mono ?_; rintro e w1 ⟨rfl, hb⟩; rw [HV.out, HE.out]; clear hc; have hh := Held.below hh hb; have hc := hh.cells; simp only [Cells, and_true] at hc)
      | (go_at_call 17; refine (ref_Code _ _ hs63).mono ?_; rintro e w1 ⟨rfl, rfl⟩; rw [HV.out, HE.out]))
    go_ret
    exact ⟨rfl, hh.1⟩
end Go.Proofs.YtnooajlijekhdaaDoor
