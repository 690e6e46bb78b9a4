/- Layer 1: stamps, short forms. -/
import Derived.Test.YtcdphaejnmdpoaaFix1
import Derived.Handy
import Derived.Deep.LoopGhost
namespace Go.Proofs.Ytcdphaejnmdpoaa
set_option linter.unusedVariables false
set_option linter.unusedSimpArgs false
open Go.RowKit
attribute [local go_sem] max2_mm min2_mm max_two min_two

def stampV (t : Int) : Int := if isT t then stampS t else 0
def okE (t : Int) : Int := if isT t then 0 else 2
def shortV (t : Int) : Int := if isT t then shortS t else 0
theorem fix_Stamp (t : Int) (w : World) : Calls Try.prog 14 #[.int .i64 t] w fun e w' => e = .returned (.tuple #[.int .u64 (stampV t), .int .i64 (okE t)]) ∧ w = w' := by
  unfold stampV okE
  by_cases h : isT t
  · rw [if_pos h, if_pos h]
    have hd := decide_eq_true h
    go_enter Try.func14, Try.ntmps14
    go_wp2_with (go_at_call 31; refine (fix_is _ _).mono ?_; rintro e w' ⟨rfl, rfl⟩)
    go_ret2
    exact ⟨ret2i (by unfold stampS; simp only [IntKind.wrap_u64]; omega) rfl, rfl⟩
  · rw [if_neg h, if_neg h]
    have hd := decide_eq_false h
    go_enter Try.func14, Try.ntmps14
    go_wp2_with (go_at_call 31; refine (fix_is _ _).mono ?_; rintro e w' ⟨rfl, rfl⟩)
    go_ret2
    exact ⟨rfl, rfl⟩
theorem ref_Stamp (t : Int) (w : World) : Calls Try.prog 15 #[.int .i64 t] w fun e w' => e = .returned (.tuple #[.int .u64 (stampV t), .int .i64 (okE t)]) ∧ w = w' := by
  unfold stampV okE
  by_cases h : isT t
  · rw [if_pos h, if_pos h]
    have hd := decide_eq_true h
    go_enter Try.func15, Try.ntmps15
    go_wp2_with (go_at_call 35; refine (ref_Is _ _).mono ?_; rintro e w' ⟨rfl, rfl⟩)
    go_ret2
    exact ⟨ret2i (by unfold stampS; simp only [IntKind.wrap_u64]; omega) rfl, rfl⟩
  · rw [if_neg h, if_neg h]
    have hd := decide_eq_false h
    go_enter Try.func15, Try.ntmps15
    go_wp2_with (go_at_call 35; refine (ref_Is _ _).mono ?_; rintro e w' ⟨rfl, rfl⟩)
    go_ret2
    exact ⟨rfl, rfl⟩
theorem fix_Short (t : Int) (w : World) : Calls Try.prog 18 #[.int .i64 t] w fun e w' => e = .returned (.tuple #[.int .u32 (shortV t), .int .i64 (okE t)]) ∧ w = w' := by
  unfold shortV okE
  by_cases h : isT t
  · rw [if_pos h, if_pos h]
    have hd := decide_eq_true h
    obtain ⟨h1, h2⟩ := isT_le h
    obtain ⟨m, hm⟩ : ∃ m, max t 0 = m := ⟨_, rfl⟩
    have h3 : 0 ≤ m := by omega
    have h4 : m ≤ 2305843009213693952 := by omega
    clear h h1 h2
    go_enter Try.func18, Try.ntmps18
    go_wp2_with (go_at_call 31; refine (fix_is _ _).mono ?_; rintro e w' ⟨rfl, rfl⟩)
    go_ret2
    exact ⟨ret2i (by unfold shortS; rw [hm] <;> first | omega | (simp only [IntKind.wrap_u32]; omega)) rfl, rfl⟩
  · rw [if_neg h, if_neg h]
    have hd := decide_eq_false h
    go_enter Try.func18, Try.ntmps18
    go_wp2_with (go_at_call 31; refine (fix_is _ _).mono ?_; rintro e w' ⟨rfl, rfl⟩)
    go_ret2
    exact ⟨rfl, rfl⟩
theorem ref_Short (t : Int) (w : World) : Calls Try.prog 19 #[.int .i64 t] w fun e w' => e = .returned (.tuple #[.int .u32 (shortV t), .int .i64 (okE t)]) ∧ w = w' := by
  unfold shortV okE
  by_cases h : isT t
  · rw [if_pos h, if_pos h]
    have hd := decide_eq_true h
    obtain ⟨h1, h2⟩ := isT_le h
    clear h
    rcases Int.lt_or_le 0 t with h3 | h3
    · go_enter Try.func19, Try.ntmps19
      go_wp2_with (go_at_call 35; refine (ref_Is _ _).mono ?_; rintro e w' ⟨rfl, rfl⟩)
      go_ret2
      exact ⟨ret2i (by unfold shortS; first | omega | (simp only [IntKind.wrap_u32]; omega)) rfl, rfl⟩
    · go_enter Try.func19, Try.ntmps19
      go_wp2_with (go_at_call 35; refine (ref_Is _ _).mono ?_; rintro e w' ⟨rfl, rfl⟩)
      go_ret2
      exact ⟨ret2i (by unfold shortS; omega) rfl, rfl⟩
  · rw [if_neg h, if_neg h]
    have hd := decide_eq_false h
    go_enter Try.func19, Try.ntmps19
    go_wp2_with (go_at_call 35; refine (ref_Is _ _).mono ?_; rintro e w' ⟨rfl, rfl⟩)
    go_ret2
    exact ⟨rfl, rfl⟩
theorem fix_Long (x : Int) (hx : 0 ≤ x ∧ x ≤ 4294967295) (w : World) : Calls Try.prog 20 #[.int .u32 x] w fun e w' => e = .returned (.int .i64 (16 * x)) ∧ w = w' := by
  obtain ⟨h1, h2⟩ := hx
  go_enter Try.func20, Try.ntmps20
  go_wp2_with fail
  go_ret
  exact ⟨ret1i (by first | rfl | omega | (simp only [IntKind.wrap_i64]; omega)), rfl⟩
theorem ref_Long (x : Int) (hx : 0 ≤ x ∧ x ≤ 4294967295) (w : World) : Calls Try.prog 21 #[.int .u32 x] w fun e w' => e = .returned (.int .i64 (16 * x)) ∧ w = w' := by
  obtain ⟨h1, h2⟩ := hx
  go_enter Try.func21, Try.ntmps21
  go_wp2_with fail
  go_ret
  exact ⟨ret1i (by first | rfl | omega | (simp only [IntKind.wrap_i64]; omega)), rfl⟩

/-- What Unfold answers. -/
def unfV (s p : Int) : Value := if inPivot p then .agg #[.int .i64 (unfT s p), .int .i64 (unfHi s p)] else .agg #[.int .i64 0, .int .i64 0]
def unfE (p : Int) : Int := if inPivot p then 0 else 2
theorem fix_Unfold (s p : Int) (hs : 0 ≤ s ∧ s ≤ 18446744073709551615) (hp : -9223372036854775808 ≤ p ∧ p ≤ 9223372036854775807) (w : World) :
    Calls Try.prog 16 #[.int .u64 s, .int .i64 p] w fun e w' => e = .returned (.tuple #[unfV s p, .int .i64 (unfE p)]) ∧ Below w.heap.size w w' := by
  obtain ⟨s1, s2⟩ := hs
  obtain ⟨p1, p2⟩ := hp
  unfold unfV unfE
  by_cases h : inPivot p
  · rw [if_pos h, if_pos h]
    obtain ⟨h1, h2⟩ : -2301339409586323456 ≤ p ∧ p ≤ 2301339409586323456 := h
    obtain ⟨U, hU⟩ : ∃ U, IntKind.u64.wrap (s / 4096 - IntKind.u64.wrap (p - 2251799813685248)) = U := ⟨_, rfl⟩
    have hU0 : 0 ≤ U ∧ U ≤ 18446744073709551615 ∧ U % 4503599627370496 = (s / 4096 - (p - 2251799813685248)) % 4503599627370496 := by rw [← hU]; simp only [IntKind.wrap_u64]; omega
    obtain ⟨hU1, hU2, hU3⟩ := hU0
    obtain ⟨T, hT⟩ : ∃ T, p - 2251799813685248 + U % 4503599627370496 = T := ⟨_, rfl⟩
    have hT1 : -2305843009213693952 ≤ T ∧ T ≤ 2305843009213693952 := by omega
    obtain ⟨hT1, hT2⟩ := hT1
    have HT := Lib.hid (show unfT s p = T by unfold unfT; rw [← hU3, hT])
    clear hU3
    go_enter Try.func16, Try.ntmps16
    by_cases hz : s % 4096 = 0
    · have hz' : (s % 4096 == 0) = true := by rw [hz]; rfl
      go_wp2_with fail
      go_returns
      refine ⟨?_, (Below.refl _ _).alloc (Nat.le_refl _) _⟩
      unfold unfHi
      rw [HT.out, if_pos hz]
    · have hz' : (s % 4096 == 0) = false := beq_eq_false_iff_ne.mpr hz
      go_wp2_with fail
      go_returns
      refine ⟨?_, (Below.refl _ _).alloc (Nat.le_refl _) _⟩
      unfold unfHi
      rw [HT.out, if_neg hz]
  · rw [if_neg h, if_neg h]
    have h1 : ¬ (-2301339409586323456 ≤ p ∧ p ≤ 2301339409586323456) := h
    clear h
    go_enter Try.func16, Try.ntmps16
    go_wp2_with fail
    all_goals
      go_returns
      exact ⟨rfl, (Below.refl _ _).alloc (Nat.le_refl _) _⟩
theorem unf_k {D k : Int} (h : D.tdiv 4503599627370496 = k) : ∃ m, D = k * 4503599627370496 + m ∧ (0 ≤ D → 0 ≤ m ∧ m < 4503599627370496) ∧ (D ≤ 0 → -4503599627370496 < m ∧ m ≤ 0) := by
  rcases Int.lt_or_le D 0 with h' | h'
  · obtain ⟨E, rfl⟩ : ∃ E, D = -E := ⟨-D, by omega⟩
    rw [Int.neg_tdiv, Int.tdiv_eq_ediv_of_nonneg (by omega)] at h
    exact ⟨-E - k * 4503599627370496, by omega, by omega, by omega⟩
  · rw [Int.tdiv_eq_ediv_of_nonneg h'] at h
    exact ⟨D - k * 4503599627370496, by omega, by omega, by omega⟩
/-- Where the first step lands: at the time, or one era below it. -/
theorem unf_near {low t0 k : Int} (h : (low - t0).tdiv 4503599627370496 = k) (b1 : 0 ≤ t0) (b2 : t0 < 4503599627370496) (b3 : -2303591209400008704 ≤ low) (b4 : low ≤ 2299087609772638208) :
    -1024 ≤ k ∧ k ≤ 1024 ∧ ∃ T, low + (t0 - low) % 4503599627370496 = T ∧ low ≤ T ∧ T < low + 4503599627370496 ∧ (t0 + k * 4503599627370496 = T ∨ t0 + k * 4503599627370496 + 4503599627370496 = T) := by
  obtain ⟨m, e, h1, h2⟩ := unf_k h
  refine ⟨by omega, by omega, _, rfl, by omega, by omega, by omega⟩
theorem ref_Unfold (s p : Int) (hs : 0 ≤ s ∧ s ≤ 18446744073709551615) (hp : -9223372036854775808 ≤ p ∧ p ≤ 9223372036854775807) (w : World) :
    Calls Try.prog 17 #[.int .u64 s, .int .i64 p] w fun e w' => e = .returned (.tuple #[unfV s p, .int .i64 (unfE p)]) ∧ Below w.heap.size w w' := by
  obtain ⟨s1, s2⟩ := hs
  obtain ⟨p1, p2⟩ := hp
  unfold unfV unfE
  by_cases h : inPivot p
  · rw [if_pos h, if_pos h]
    obtain ⟨h1, h2⟩ : -2301339409586323456 ≤ p ∧ p ≤ 2301339409586323456 := h
    obtain ⟨t0, ht0⟩ : ∃ t, s / 4096 = t := ⟨_, rfl⟩
    obtain ⟨low, hlow⟩ : ∃ t, p - 2251799813685248 = t := ⟨_, rfl⟩
    have b1 : 0 ≤ t0 ∧ t0 < 4503599627370496 := by omega
    obtain ⟨b1, b2⟩ := b1
    have b3 : -2303591209400008704 ≤ low ∧ low ≤ 2299087609772638208 := by omega
    obtain ⟨b3, b4⟩ := b3
    obtain ⟨k, hk⟩ : ∃ k, (low - t0).tdiv 4503599627370496 = k := ⟨_, rfl⟩
    obtain ⟨k1, k2, T, hT, T1, T2, ht⟩ := unf_near hk b1 b2 b3 b4
    have HU := Lib.hid (show unfT s p = T by unfold unfT; rw [ht0, hlow, hT])
    obtain ⟨t1, ht1⟩ : ∃ t, t0 + k * 4503599627370496 = t := ⟨_, rfl⟩
    rw [ht1] at ht
    have c1 : -2310000000000000000 ≤ t1 := by omega
    have c2 : t1 ≤ 2305843009213693952 := by omega
    have HT := Lib.hid ht
    clear ht hT
    have hwk : IntKind.i64.wrap k = k := wrap_i64_id (by omega) (by omega)
    go_enter Try.func17, Try.ntmps17
    go_wp2_with fail
    go_loopg [7] 1 (fun m v wr => (∃ t : Int, v = .int .i64 t ∧ -2310000000000000000 ≤ t ∧ t ≤ 2305843009213693952 ∧ (t = T ∨ (t + 4503599627370496 = T ∧ m = 1))) ∧ wr = (w.alloc (Obj.cells #[Value.int IntKind.i64 0, Value.int IntKind.i64 0] 40)))
    case atStart => exact ⟨⟨t1, rfl, c1, c2, by have := HT.out; omega⟩, rfl⟩
    case round =>
      obtain ⟨⟨t, rfl, d1, d2, d3⟩, rfl⟩ := hrel
      rcases d3 with rfl | ⟨d3, rfl⟩
      · have d4 : ¬ t < low := by omega
        go_wp2_with fail
        go_loopg [7] 1 (fun m v wr => v = .int .i64 t ∧ wr = (w.alloc (Obj.cells #[Value.int IntKind.i64 0, Value.int IntKind.i64 0] 40)))
        case atStart => exact ⟨rfl, rfl⟩
        case round =>
          obtain ⟨rfl, rfl⟩ := hrel
          by_cases hz : s % 4096 = 0
          · have hz' : (s % 4096 == 0) = true := by rw [hz]; rfl
            go_wp2_with fail
            go_returns
            refine ⟨?_, (Below.refl _ _).alloc (Nat.le_refl _) _⟩
            unfold unfHi
            rw [HU.out, if_pos hz]
          · have hz' : (s % 4096 == 0) = false := beq_eq_false_iff_ne.mpr hz
            go_wp2_with fail
            go_returns
            refine ⟨?_, (Below.refl _ _).alloc (Nat.le_refl _) _⟩
            unfold unfHi
            rw [HU.out, if_neg hz]
      · have d4 : t < low := by omega
        go_wp2_with fail
        go_roundg 0
        case measure => omega
        case rel => exact ⟨⟨_, rfl, by omega, by omega, Or.inl (by first | rfl | exact d3)⟩, rfl⟩
  · rw [if_neg h, if_neg h]
    have h1 : ¬ (-2301339409586323456 ≤ p ∧ p ≤ 2301339409586323456) := h
    clear h
    go_enter Try.func17, Try.ntmps17
    go_wp2_with fail
    all_goals
      go_returns
      exact ⟨rfl, (Below.refl _ _).alloc (Nat.le_refl _) _⟩
end Go.Proofs.Ytcdphaejnmdpoaa
