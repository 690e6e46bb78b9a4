/- Layer 19: capital letters. -/
import Derived.Test.YtnooajlijekhdaaDoorHeld
import Derived.Test.YtnooajlijekhdaaDoorShelf
import Derived.Shelf.Strings.SlTrimAscii
import Derived.Laws.RangeString
import Derived.Laws.Strings3
import Derived.Lib.IndexBytes
import Derived.Deep.LoopGhost
import Derived.Laws.BitsAllLaws
namespace Go.Proofs.YtnooajlijekhdaaDoor
set_option linter.unusedVariables false
set_option linter.unusedSimpArgs false
open Go.RowKit

/-- The capital letters. -/
def caps : List UInt8 := [65, 66, 67, 68, 69, 70, 71, 72, 73, 74, 75, 76, 77, 78, 79, 80, 81, 82, 83, 84, 85, 86, 87, 88, 89, 90]
theorem caps_mem (b : UInt8) : caps.contains b = decide (65 ≤ b.toNat ∧ b.toNat ≤ 90) := by
  have h : ∀ n : Nat, n < 256 → caps.contains (UInt8.ofNat n) = decide (65 ≤ n ∧ n ≤ 90) := by decide +kernel
  have := h b.toNat b.toNat_lt
  rwa [UInt8.ofNat_toNat] at this
/-- Four capital letters. -/
def isCap (l : List UInt8) : Prop := l.length = 4 ∧ ∀ b ∈ l, 65 ≤ b.toNat ∧ b.toNat ≤ 90
instance (l : List UInt8) : Decidable (isCap l) := by unfold isCap; infer_instance

theorem dropWhile_nil {α : Type} (p : α → Bool) (l : List α) : l.dropWhile p = [] ↔ ∀ x ∈ l, p x = true := by
  induction l with
  | nil => simp
  | cons a l ih =>
    rw [List.dropWhile_cons]
    by_cases h : p a = true
    · rw [if_pos h, ih]; simp [h]
    · rw [if_neg h]; simp [h]
theorem trimS_nil (l cs : List UInt8) : Lib.trimS l cs = [] ↔ ∀ x ∈ l, cs.contains x = true := by
  unfold Lib.trimS Lib.trimLeftS Lib.trimRightS
  rw [dropWhile_nil]
  constructor
  · intro h x hx
    rcases h' : l.reverse.dropWhile (cs.contains ·) with _ | ⟨y, ys⟩
    · exact (dropWhile_nil _ _).1 h' x (List.mem_reverse.2 hx)
    · have hy := List.head?_dropWhile_not (cs.contains ·) l.reverse
      rw [h'] at hy h
      simp only [List.head?_cons] at hy
      have := h y (by simp)
      exact absurd this (by rw [hy]; decide)
  · intro h x hx
    refine h x ?_
    have := (List.dropWhile_sublist (cs.contains ·) (l := l.reverse)).subset (List.mem_reverse.1 hx)
    exact List.mem_reverse.1 this
theorem trim_empty (s : ByteArray) (h : s.size = 4) : (⟨(Lib.trimS s.data.toList caps).toArray⟩ : ByteArray).toList.isEmpty = decide (isCap s.data.toList) := by
  rw [Lib.toList_data]
  have e : (Lib.trimS s.data.toList caps).toArray.toList = Lib.trimS s.data.toList caps := by simp
  show (Lib.trimS s.data.toList caps).toArray.toList.isEmpty = _
  rw [e]
  have hl : s.data.toList.length = 4 := by rw [← Lib.size_eq]; exact h
  by_cases hc : isCap s.data.toList
  · rw [decide_eq_true hc, List.isEmpty_iff, trimS_nil]
    intro x hx
    rw [caps_mem]
    exact decide_eq_true (hc.2 x hx)
  · rw [decide_eq_false hc, Bool.eq_false_iff]
    intro he
    rw [List.isEmpty_iff, trimS_nil] at he
    refine hc ⟨hl, fun b hb => ?_⟩
    have := he b hb
    rw [caps_mem] at this
    exact of_decide_eq_true this

set_option maxRecDepth 100000 in
theorem dance_capital (s : ByteArray) (w : World) (hs : s.size ≤ 9223372036854775807) :
    Calls Tryd.prog 19 #[.string s] w fun e w' => e = .returned (.bool (decide (isCap s.data.toList))) ∧ Below w.heap.size w w' := by
  have hl : s.data.toList.length = s.size := (Lib.size_eq s).symm
  by_cases h : s.size = 4
  · have ht := trim_empty s h
    obtain ⟨b, hb⟩ : ∃ b, decide (isCap s.data.toList) = b := ⟨_, rfl⟩
    rw [hb] at ht ⊢
    have n4 : ((s.size : Int) == 4) = true := beq_iff_eq.2 (by omega)
    obtain ⟨T, hT⟩ : ∃ T, (⟨(Lib.trimS s.data.toList caps).toArray⟩ : ByteArray) = T := ⟨_, rfl⟩
    rw [hT] at ht
    have HT := Lib.hid hT
    clear hT hb hl
    have hh := Held.start w
    go_enter Tryd.func19, Tryd.ntmps19
    go_wp2_with (go_at_call 22; refine (Any.strings_Trim_laid Tryd.lays160 (by kernel_rfl) s ⟨caps.toArray⟩ _ hs (by decide) (ascii_of_all (by decide))).mono ?_; rintro e w1 ⟨rfl, hb⟩; have hT := HT.out; have hh := Held.below hh hb)
    go_ret
    exact ⟨rfl, hh.1⟩
  · have n4 : ((s.size : Int) == 4) = false := beq_eq_false_iff_ne.mpr (by omega)
    have e : decide (isCap s.data.toList) = false := decide_eq_false (fun hc => h (by rw [← hl]; exact hc.1))
    rw [e]
    clear e hl
    go_enter Tryd.func19, Tryd.ntmps19
    go_wp2_with fail
    go_ret
    exact ⟨rfl, Below.refl _ _⟩

/-- What a code of capital letters is, read so far. -/
def codeP (l : List UInt8) : Nat → Int
  | 0 => 0
  | i + 1 => codeP l i * 256 + (l.getD i 0).toNat
theorem codeP_bound (l : List UInt8) (i : Nat) : 0 ≤ codeP l i ∧ codeP l i < 256 ^ i := by
  induction i with
  | zero => exact ⟨Int.le_refl _, by rw [codeP]; decide⟩
  | succ i ih =>
    have := (l.getD i 0).toNat_lt
    rw [codeP, Int.pow_succ]
    omega
def codeV (l : List UInt8) : Int := if isCap l then codeP l 4 else 0
def codeE (l : List UInt8) : Int := if isCap l then 0 else 4

theorem notcap {l : List UInt8} {x : UInt8} (h : x ∈ l) (hx : x.toNat < 65 ∨ 90 < x.toNat) : decide (isCap l) = false := decide_eq_false (fun hc => by have := hc.2 x h; omega)
def LetRel (s : ByteArray) (m : Nat) (i : Value) : Prop := ∃ k : Nat, k + m = s.size ∧ (∀ j b, j < k → s.data.toList[j]? = some b → 65 ≤ b.toNat ∧ b.toNat ≤ 90) ∧ i = .int .i64 k
set_option maxRecDepth 100000 in
theorem ref_letters (s : ByteArray) (w : World) (hs : s.size ≤ 9223372036854775807) :
    Calls Tryd.prog 20 #[.string s] w fun e w' => e = .returned (.bool (decide (isCap s.data.toList))) ∧ w = w' := by
  have HL := Lib.hid (Lib.size_eq s)
  go_enter Tryd.func20, Tryd.ntmps20
  go_wp2_with fail
  go_loopg [3] s.size (fun m i wr => LetRel s m i ∧ wr = w)
  case atStart => exact ⟨⟨0, by omega, fun j b h => by omega, rfl⟩, rfl⟩
  case round =>
    obtain ⟨⟨k, hkm, hall, rfl⟩, rfl⟩ := hrel
    have HA := Lib.hid hall
    clear hall
    rcases Nat.lt_or_ge k s.size with hlt | hge
    · have hkn : (k : Int) < (s.size : Int) := by omega
      obtain ⟨x, hx⟩ : ∃ x : UInt8, s[k]'hlt = x := ⟨_, rfl⟩
      have hxl : s.data.toList[k]? = some x := by rw [← hx]; exact Lib.data_getElem? s k hlt
      have HX := Lib.hid hxl
      clear hxl
      rcases Nat.lt_or_ge x.toNat 65 with h1 | h1
      · have c1 : ((x.toNat : Int) < 65) := by omega
        go_wp2_with fail
        go_ret
        exact ⟨by rw [notcap (List.mem_of_getElem? HX.out) (by omega)]; rfl, rfl⟩
      · have c1 : ¬ ((x.toNat : Int) < 65) := by omega
        rcases Nat.lt_or_ge 90 x.toNat with h2 | h2
        · have c2 : ((90 : Int) < (x.toNat : Int)) := by omega
          go_wp2_with fail
          go_ret
          exact ⟨by rw [notcap (List.mem_of_getElem? HX.out) (by omega)]; rfl, rfl⟩
        · have c2 : ¬ ((90 : Int) < (x.toNat : Int)) := by omega
          go_wp2_with fail
          go_roundg (gk - 1)
          case measure => omega
          case rel =>
            refine ⟨⟨k + 1, by omega, fun j b hj hb => ?_, by go_num⟩, rfl⟩
            rcases Nat.lt_or_ge j k with h3 | h3
            · exact HA.out j b h3 hb
            · have : j = k := by omega
              subst this
              rw [HX.out] at hb
              obtain rfl := Option.some.inj hb
              exact ⟨h1, h2⟩
    · have hkn : ¬ (k : Int) < (s.size : Int) := by omega
      have e : decide (isCap s.data.toList) = decide ((s.size : Int) = 4) := by
        refine decide_eq_decide.2 ⟨fun hc => ?_, fun h => ⟨by rw [← HL.out]; omega, fun b hb => ?_⟩⟩
        · have := hc.1; rw [← HL.out] at this; omega
        · obtain ⟨j, hj⟩ := List.getElem?_of_mem hb
          have := (List.getElem?_eq_some_iff.1 hj).1
          rw [← HL.out] at this
          exact HA.out j b (by omega) hj
      have HEE := Lib.hid e
      clear e
      by_cases h4 : s.size = 4
      · have n4 : ((s.size : Int) == 4) = true := beq_iff_eq.2 (by omega)
        go_wp2_with fail
        go_ret
        exact ⟨by rw [HEE.out, decide_eq_true (show (s.size : Int) = 4 by omega)]; rfl, rfl⟩
      · have n4 : ((s.size : Int) == 4) = false := beq_eq_false_iff_ne.mpr (by omega)
        go_wp2_with fail
        go_ret
        exact ⟨by rw [HEE.out, decide_eq_false (show ¬ (s.size : Int) = 4 by omega)]; rfl, rfl⟩

theorem or_join32 (n x : Int) (h0 : 0 ≤ n) (h1 : n < 16777216) (h2 : 0 ≤ x) (h3 : x < 256) : bits .or .u32 (n * 256) x = n * 256 + x := by
  rw [u32_or _ _ (by omega) (by omega) h2 (by omega), nat_join 8 _ _ (by omega) (by omega)]
  omega
def CodeRel (w : World) (s : ByteArray) (m : Nat) (n : Value) (wr : World) : Prop := ∃ k : Nat, k + m = s.size ∧ n = .int .u32 (codeP s.data.toList k) ∧ wr = w.iter s k
theorem getD_of {l : List UInt8} {k : Nat} {x : UInt8} (h : l[k]? = some x) : l.getD k 0 = x := by simp [List.getD, h]
set_option maxRecDepth 100000 in
theorem dance_Code (s : ByteArray) (w : World) (hs : s.size ≤ 9223372036854775807) :
    Calls Tryd.prog 16 #[.string s] w fun e w' => e = .returned (.tuple #[.int .u32 (codeV s.data.toList), .int .i64 (codeE s.data.toList)]) ∧ Below w.heap.size w w' := by
  unfold codeV codeE
  have HL := Lib.hid (Lib.size_eq s)
  by_cases hc : isCap s.data.toList
  · have h4 : s.size = 4 := by rw [HL.out]; exact hc.1
    rw [if_pos hc, if_pos hc]
    have HC := Lib.hid hc
    have HD := Lib.hid (decide_eq_true hc)
    obtain ⟨V, hV⟩ : ∃ V, codeP s.data.toList 4 = V := ⟨_, rfl⟩
    rw [hV]
    have HV := Lib.hid hV
    clear hc hV
    have hh := Held.start w
    go_enter Tryd.func16, Tryd.ntmps16
    go_wp2_with (go_at_call 19; refine (dance_capital _ _ hs).mono ?_; rintro e w1 ⟨rfl, hb⟩; rw [HD.out]; have hh := Held.below hh hb)
    have HH := Lib.hid hh
    generalize w1 = W at *
    go_loopg [4, 6] s.size (fun m n _ wr => CodeRel W s m n wr)
    case atStart => exact ⟨0, by omega, rfl, rfl⟩
    case round =>
      obtain ⟨k, hkm, rfl, rfl⟩ := hrel
      rcases Nat.lt_or_ge k s.size with hlt | hge
      · obtain ⟨x, hx⟩ : ∃ x : UInt8, s[k]'hlt = x := ⟨_, rfl⟩
        have hxl : s.data.toList[k]? = some x := by rw [← hx]; exact Lib.data_getElem? s k hlt
        have hx1 := (HC.out.2 x (List.mem_of_getElem? hxl))
        have hnx := fun ty => run_next_ascii (P := Tryd.prog) W s k ty hlt (by rw [hx]; omega)
        rw [hx] at hnx
        have HX := Lib.hid hxl
        obtain ⟨p0, p1⟩ := codeP_bound s.data.toList k
        have p2 : codeP s.data.toList (k + 1) = codeP s.data.toList k * 256 + x.toNat := by rw [codeP, getD_of hxl]
        have p3 : codeP s.data.toList k < 16777216 := by
          have : k = 0 ∨ k = 1 ∨ k = 2 ∨ k = 3 := by omega
          rcases this with rfl | rfl | rfl | rfl <;> omega
        obtain ⟨n, hn⟩ : ∃ n, codeP s.data.toList k = n := ⟨_, rfl⟩
        rw [hn] at p0 p3 p2 ⊢
        have HP := Lib.hid p2
        have x8 := x.toNat_lt
        have hor := or_join32 n x.toNat p0 p3 (by omega) (by omega)
        rw [← HP.out] at hor
        obtain ⟨n', hn'⟩ : ∃ n', codeP s.data.toList (k + 1) = n' := ⟨_, rfl⟩
        have HN' := Lib.hid hn'
        rw [hn'] at hor
        clear hxl hx p1 p2 hn hn'
        go_wp2_with fail
        go_roundg (gk - 1)
        case measure => omega
        case rel => exact ⟨k + 1, by omega, by rw [HN'.out], rfl⟩
      · have hk : k = s.size := by omega
        subst hk
        have hnx := run_next_end (P := Tryd.prog) W s s.size
        rw [h4] at hnx
        rw [h4, HV.out]
        go_wp2_with fail
        go_ret2
        exact ⟨rfl, (HH.out.alloc _).1⟩
  · rw [if_neg hc, if_neg hc]
    have HD := Lib.hid (decide_eq_false hc)
    clear hc
    have hh := Held.start w
    go_enter Tryd.func16, Tryd.ntmps16
    go_wp2_with (go_at_call 19; refine (dance_capital _ _ hs).mono ?_; rintro e w1 ⟨rfl, hb⟩; rw [HD.out]; have hh := Held.below hh hb)
    go_ret2
    exact ⟨rfl, hh.1⟩

def RCodeRel (s : ByteArray) (m : Nat) (n i : Value) : Prop := ∃ k : Nat, k + m = 4 ∧ n = .int .u32 (codeP s.data.toList k) ∧ i = .int .i64 k
set_option maxRecDepth 100000 in
theorem ref_Code (s : ByteArray) (w : World) (hs : s.size ≤ 9223372036854775807) :
    Calls Tryd.prog 17 #[.string s] w fun e w' => e = .returned (.tuple #[.int .u32 (codeV s.data.toList), .int .i64 (codeE s.data.toList)]) ∧ w = w' := by
  unfold codeV codeE
  have HL := Lib.hid (Lib.size_eq s)
  by_cases hc : isCap s.data.toList
  · have h4 : s.size = 4 := by rw [HL.out]; exact hc.1
    rw [if_pos hc, if_pos hc]
    have HC := Lib.hid hc
    have HD := Lib.hid (decide_eq_true hc)
    obtain ⟨V, hV⟩ : ∃ V, codeP s.data.toList 4 = V := ⟨_, rfl⟩
    rw [hV]
    have HV := Lib.hid hV
    clear hc hV
    go_enter Tryd.func17, Tryd.ntmps17
    go_wp2_with (go_at_call 20; refine (ref_letters _ _ hs).mono ?_; rintro e w' ⟨rfl, rfl⟩; rw [HD.out])
    go_loopg [4, 5] 4 (fun m n i wr => RCodeRel s m n i ∧ wr = w)
    case atStart => exact ⟨⟨0, by omega, rfl, rfl⟩, rfl⟩
    case round =>
      obtain ⟨⟨k, hkm, rfl, rfl⟩, rfl⟩ := hrel
      rcases Nat.lt_or_ge k 4 with hlt | hge
      · obtain ⟨x, hx⟩ : ∃ x : UInt8, s[k]'(by omega) = x := ⟨_, rfl⟩
        have hxl : s.data.toList[k]? = some x := by rw [← hx]; exact Lib.data_getElem? s k (by omega)
        have hkn : (k : Int) < 4 := by omega
        have hkn2 : (k : Int) < (s.size : Int) := by omega
        have hks : k < s.size := by omega
        obtain ⟨p0, p1⟩ := codeP_bound s.data.toList k
        have p2 : codeP s.data.toList (k + 1) = codeP s.data.toList k * 256 + x.toNat := by rw [codeP, getD_of hxl]
        have p3 : codeP s.data.toList k < 16777216 := by
          have : k = 0 ∨ k = 1 ∨ k = 2 ∨ k = 3 := by omega
          rcases this with rfl | rfl | rfl | rfl <;> omega
        obtain ⟨n, hn⟩ : ∃ n, codeP s.data.toList k = n := ⟨_, rfl⟩
        rw [hn] at p0 p3 p2 ⊢
        have HP := Lib.hid p2
        have x8 := x.toNat_lt
        have hor := or_join32 n x.toNat p0 p3 (by omega) (by omega)
        rw [← HP.out] at hor
        obtain ⟨n', hn'⟩ : ∃ n', codeP s.data.toList (k + 1) = n' := ⟨_, rfl⟩
        have HN' := Lib.hid hn'
        rw [hn'] at hor
        clear hxl p1 p2 hn hn'
        go_wp2_with fail
        go_roundg (gk - 1)
        case measure => omega
        case rel => exact ⟨⟨k + 1, by omega, by rw [HN'.out], by go_num⟩, rfl⟩
      · have hk : k = 4 := by omega
        subst hk
        rw [HV.out]
        go_wp2_with fail
        go_ret2
        exact ⟨rfl, rfl⟩
  · rw [if_neg hc, if_neg hc]
    have HD := Lib.hid (decide_eq_false hc)
    clear hc
    go_enter Tryd.func17, Tryd.ntmps17
    go_wp2_with (go_at_call 20; refine (ref_letters _ _ hs).mono ?_; rintro e w' ⟨rfl, rfl⟩; rw [HD.out])
    go_ret2
    exact ⟨rfl, rfl⟩
end Go.Proofs.YtnooajlijekhdaaDoor
