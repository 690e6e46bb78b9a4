/- The pure clock: what a disciplined clock reads and how it moves, in plain integers. -/
namespace Go.Proofs.Ytkngpkhagblifaa
set_option linter.unusedVariables false
set_option linter.unusedSimpArgs false

inductive St where
  | unset
  | set
  | spike (s : Int)
structure Ck where
  base : Int
  at_ : Int
  phase : Int
  freq : Int
  st : St

/-- What is read, d counts behind `at_`. -/
def rdv (base phase freq d : Int) : Int := base + d + (d * freq + min (max (phase * 1000000000) (-500000 * d)) (500000 * d)) / 1000000000
def Ck.now (c : Ck) (raw : Int) : Int := rdv c.base c.phase c.freq (raw - c.at_)
def Ck.can (c : Ck) (raw : Int) : Prop := c.at_ ≤ raw ∧ raw ≤ c.at_ + 1099511627776
instance (c : Ck) (raw : Int) : Decidable (c.can raw) := inferInstanceAs (Decidable (_ ∧ _))
def bnd (t : Int) : Int := min (max t (-2305843009213693952)) 2305843009213693952
def Ck.stepTo (c : Ck) (raw off : Int) : Ck := { base := bnd (c.now raw + off), at_ := raw, phase := 0, freq := c.freq, st := .set }
def slewF (freq d off : Int) : Int := if 1048576 ≤ d then min (max (freq + off * 62500000 / d) (-500000)) 500000 else freq
def Ck.slewTo (c : Ck) (raw off : Int) : Ck := { base := c.now raw, at_ := raw, phase := off, freq := slewF c.freq (raw - c.at_) off, st := .set }
def small (off : Int) : Prop := -134217 ≤ off ∧ off ≤ 134217
instance (off : Int) : Decidable (small off) := inferInstanceAs (Decidable (_ ∧ _))
/-- An update that is taken: the clock behind it, and the move (0 slewed, 1 stepped, 2 ignored). -/
def Ck.upd (c : Ck) (raw off : Int) : Ck × Int :=
  match c.st with
  | .unset => (c.stepTo raw off, 1)
  | .set => if small off then (c.slewTo raw off, 0) else ({ c with st := .spike raw }, 2)
  | .spike s => if small off then (c.slewTo raw off, 0) else if raw - s < 314572800 then (c, 2) else (c.stepTo raw off, 1)

theorem tdiv_low {x : Int} (h : x.tmod 1000000000 < 0) : x.tdiv 1000000000 - 1 = x / 1000000000 := by
  have h1 := Int.tmod_add_mul_tdiv x 1000000000
  rcases Int.lt_or_le x 0 with hx | hx
  · have h2 := Int.neg_tdiv (-x) 1000000000
    rw [Int.neg_neg] at h2
    rw [Int.tdiv_eq_ediv_of_nonneg (by omega : 0 ≤ -x)] at h2
    omega
  · rw [Int.tdiv_eq_ediv_of_nonneg hx] at *
    omega
theorem tdiv_flat {x : Int} (h : 0 ≤ x.tmod 1000000000) : x.tdiv 1000000000 = x / 1000000000 := by
  have h1 := Int.tmod_add_mul_tdiv x 1000000000
  rcases Int.lt_or_le x 0 with hx | hx
  · have h2 := Int.neg_tdiv (-x) 1000000000
    rw [Int.neg_neg] at h2
    rw [Int.tdiv_eq_ediv_of_nonneg (by omega : 0 ≤ -x)] at h2
    omega
  · rw [Int.tdiv_eq_ediv_of_nonneg hx]

/-- What a clock in order has: bounds by B. -/
structure Ck.Ok (c : Ck) (B : Int) : Prop where
  b0 : -B ≤ c.base
  b1 : c.base ≤ B
  a0 : 0 ≤ c.at_
  a1 : c.at_ ≤ 2305843009213693952
  p0 : -134217 ≤ c.phase
  p1 : c.phase ≤ 134217
  f0 : -500000 ≤ c.freq
  f1 : c.freq ≤ 500000
  s0 : ∀ s, c.st = .spike s → 0 ≤ s ∧ s ≤ 2305843009213693952

/-- d * f between d times bounds. -/
theorem mul_between {d f : Int} (hd : 0 ≤ d) (h0 : -500000 ≤ f) (h1 : f ≤ 500000) : -500000 * d ≤ d * f ∧ d * f ≤ 500000 * d := by
  have a := Int.mul_le_mul_of_nonneg_left h0 hd
  have b := Int.mul_le_mul_of_nonneg_left h1 hd
  omega
theorem rdv_near {base phase freq d : Int} (hd : 0 ≤ d) (h0 : -500000 ≤ freq) (h1 : freq ≤ 500000) :
    base + d - d / 1000 - 1 ≤ rdv base phase freq d ∧ rdv base phase freq d ≤ base + d + d / 1000 + 1 := by
  have := mul_between hd h0 h1
  unfold rdv
  omega
theorem slewF_ok {freq d off : Int} (h0 : -500000 ≤ freq) (h1 : freq ≤ 500000) : -500000 ≤ slewF freq d off ∧ slewF freq d off ≤ 500000 := by
  unfold slewF
  split <;> omega
theorem Ck.now_ok {c : Ck} {B raw : Int} (h : c.Ok B) (hc : c.can raw) : -B - 1101000000000 ≤ c.now raw ∧ c.now raw ≤ B + 1101000000000 := by
  have := rdv_near (base := c.base) (phase := c.phase) (d := raw - c.at_) (by have := hc.1; omega) h.f0 h.f1
  have := h.b0
  have := h.b1
  have := hc.1
  have := hc.2
  unfold Ck.now
  omega
theorem Ck.step_ok {c : Ck} {B raw off : Int} (h : c.Ok B) (hc : c.can raw) (hr : raw ≤ 2305843009213693952) (h0 : -68719476736 ≤ off) (h1 : off ≤ 68719476736) (hB : B ≤ 1152921504606846976) :
    (c.stepTo raw off).Ok (B + 1200000000000) ∧ bnd (c.now raw + off) = c.now raw + off := by
  have hn := Ck.now_ok h hc
  have ha := h.a0
  have hc1 := hc.1
  have e : bnd (c.now raw + off) = c.now raw + off := by
    have hb := h.b0
    unfold bnd
    omega
  refine ⟨⟨?_, ?_, ?_, ?_, ?_, ?_, h.f0, h.f1, ?_⟩, e⟩
  · show _ ≤ bnd (c.now raw + off); rw [e]; omega
  · show bnd (c.now raw + off) ≤ _; rw [e]; omega
  · show 0 ≤ raw; omega
  · exact hr
  · show (-134217 : Int) ≤ 0; omega
  · show (0 : Int) ≤ 134217; omega
  · intro s hs; cases hs
theorem Ck.slew_ok {c : Ck} {B raw off : Int} (h : c.Ok B) (hc : c.can raw) (hr : raw ≤ 2305843009213693952) (hs : small off) :
    (c.slewTo raw off).Ok (B + 1200000000000) := by
  have hn := Ck.now_ok h hc
  have ha := h.a0
  have hc1 := hc.1
  have hf := slewF_ok (d := raw - c.at_) (off := off) h.f0 h.f1
  refine ⟨?_, ?_, ?_, hr, hs.1, hs.2, hf.1, hf.2, ?_⟩
  · show _ ≤ c.now raw; omega
  · show c.now raw ≤ _; omega
  · show 0 ≤ raw; omega
  · intro s hs; cases hs
theorem Ck.Ok.more {c : Ck} {B B' : Int} (h : c.Ok B) (hB : B ≤ B') : c.Ok B' := ⟨by have := h.b0; omega, by have := h.b1; omega, h.a0, h.a1, h.p0, h.p1, h.f0, h.f1, h.s0⟩
theorem Ck.upd_ok {c : Ck} {B raw off : Int} (h : c.Ok B) (hc : c.can raw) (hr : raw ≤ 2305843009213693952) (h0 : -68719476736 ≤ off) (h1 : off ≤ 68719476736) (hB : B ≤ 1152921504606846976) :
    (c.upd raw off).1.Ok (B + 1200000000000) := by
  have ha := h.a0
  have hc1 := hc.1
  unfold Ck.upd
  split
  · exact (Ck.step_ok h hc hr h0 h1 hB).1
  · split
    · exact Ck.slew_ok h hc hr ‹_›
    · exact ⟨by have := h.b0; show _ ≤ c.base; omega, by have := h.b1; show c.base ≤ _; omega, h.a0, h.a1, h.p0, h.p1, h.f0, h.f1, fun s hs => by injection hs with hs; omega⟩
  · split
    · exact Ck.slew_ok h hc hr ‹_›
    · split
      · exact h.more (by omega)
      · exact (Ck.step_ok h hc hr h0 h1 hB).1

theorem tdiv_low' {x d : Int} (hd : 0 < d) (h : x.tmod d < 0) : x.tdiv d - 1 = x / d := by
  have h2 := Int.tdiv_eq_ediv (a := x) (b := d)
  rw [if_neg, Int.sign_eq_one_of_pos hd] at h2
  · omega
  · rintro (h' | h')
    · have := Int.tmod_nonneg d h'
      omega
    · have := Int.tmod_eq_zero_of_dvd h'
      omega
theorem tdiv_flat' {x d : Int} (hd : 0 < d) (h : 0 ≤ x.tmod d) : x.tdiv d = x / d := by
  rcases Int.lt_or_le x 0 with hx | hx
  · have h2 := Int.tdiv_eq_ediv (a := x) (b := d)
    rw [if_pos] at h2
    · omega
    · right
      have h3 := Int.tmod_nonneg (a := -x) d (by omega)
      rw [Int.neg_tmod] at h3
      exact Int.dvd_of_tmod_eq_zero (by omega)
  · rw [Int.tdiv_eq_ediv_of_nonneg hx]
theorem ediv_near {x d B : Int} (hd : 1 ≤ d) (hB : 0 ≤ B) (h0 : -B ≤ x) (h1 : x ≤ B) : -B ≤ x / d ∧ x / d ≤ B := by
  have m : d * (x / d) + x % d = x := Int.mul_ediv_add_emod x d
  have r0 := Int.emod_nonneg x (b := d) (by omega)
  have r1 := Int.emod_lt_of_pos x (b := d) (by omega)
  constructor
  · rcases Int.lt_or_le (x / d) (-B) with h | h
    · have := Int.mul_le_mul_of_nonneg_right hd (show 0 ≤ -(x / d) by omega)
      have e : d * -(x / d) = -(d * (x / d)) := Int.mul_neg _ _
      have h2 : d * (x / d + 1) ≤ 1 * (x / d + 1) := by
        have := Int.mul_le_mul_of_nonneg_right hd (show 0 ≤ -(x / d + 1) by omega)
        rw [Int.mul_neg, Int.mul_neg] at this
        omega
      rw [Int.mul_add] at h2
      omega
    · exact h
  · rcases Int.lt_or_le B (x / d) with h | h
    · have := Int.mul_le_mul_of_nonneg_right hd (show 0 ≤ x / d by omega)
      omega
    · exact h

end Go.Proofs.Ytkngpkhagblifaa
