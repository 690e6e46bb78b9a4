/-
  No cell of these rows narrows 'for every input' (looked for: loops, veiled, ifaces, maps, wideKeys, modest, calm, conditions, laid).
  DERIVED. THE GIVEN ROWS OF THIS SEAT. 4 by the template 'for every input the law returns true; each argument reads behind the call as it read before'; 0 by the template 'total and deterministic' (their statements: YtgahmboecbfplaaTotals.lean).
  GIVEN WITH THE SEED: the statements are not yours to turn. If you find one false, say at which input.
  Laid BY PROGRAM, IN A SANDBOX (cutbox-rows.mjs): the forced cells as the released guide's own fill.sh prints them over the translation c00c48e3ad740abd… (all of the seat's roots in one cut). By AI agents, Wed Nov 11 2026. No macro, syntax, notation, axiom, sorry.
-/
import Derived.Test.YtgahmboecbfplaaChecked
import GoSem.Claim
import GoSem.ClaimJoined
import GoSem.ClaimMapViews
import Derived.JoinedTies
import Derived.KernelRfl
namespace Go.Proofs.Ytgahmboecbfplaa
/- THE CELL 'sum', in the pinned program and in every row, IS THE sha256 OF THE DUMP (.gsa) THAT YtgahmboecbfplaaProg.lean LOADS. Nothing in Lean hashes anything: it is a label: what it is worth is what the hold of that sum in a sandbox is worth. -/
noncomputable def Try.pinned : Pinned := { name := "ytgahmboecbfplaa", sum := "c00c48e3ad740abdda8d693672b13ee9286fc74c649837111782c08583b7cf48", checked := Try.checked }
namespace Rows
def none {H : Type} : Left H := { results := [], args := [] }

/-- 'sundiallaw02.OscRaws': WHATEVER THE INPUT: true; the input reads as it did. -/
def oscRawsSpec : ChangeSpec := { name := "oscRaws", fn := fun _ => fun
  | [d1, d2] => { results := [.lit (.bool true)], args := [d1, d2] }
  | _ => none }
def oscRawsRow : OpenClaim := { program := "ytgahmboecbfplaa", sum := "c00c48e3ad740abdda8d693672b13ee9286fc74c649837111782c08583b7cf48", func := "sundial/sundiallaw02.OscRaws", spec := "oscRaws", named := ["math/bits.divideError", "math/bits.overflowError"], apart := false }
def OscRawsSaid : Prop := oscRawsRow.holds Try.pinned (OpenSpec.ofChange oscRawsSpec)

/-- ITS FALSE NEIGHBOUR: 'it returns false'. Refute it at one input. -/
def oscRawsWrong : ChangeSpec := { name := "oscRaws", fn := fun _ => fun
  | [d1, d2] => { results := [.lit (.bool false)], args := [d1, d2] }
  | _ => none }
def OscRawsWrongFalsely : Prop := oscRawsRow.holds Try.pinned (OpenSpec.ofChange oscRawsWrong)

/-- 'sundiallaw02.OscSays': WHATEVER THE INPUT: true; the input reads as it did. -/
def oscSaysSpec : ChangeSpec := { name := "oscSays", fn := fun _ => fun
  | [d1, d2, d3] => { results := [.lit (.bool true)], args := [d1, d2, d3] }
  | _ => none }
def oscSaysRow : OpenClaim := { program := "ytgahmboecbfplaa", sum := "c00c48e3ad740abdda8d693672b13ee9286fc74c649837111782c08583b7cf48", func := "sundial/sundiallaw02.OscSays", spec := "oscSays", named := ["math/bits.divideError", "math/bits.overflowError"], apart := false }
def OscSaysSaid : Prop := oscSaysRow.holds Try.pinned (OpenSpec.ofChange oscSaysSpec)

/-- ITS FALSE NEIGHBOUR: 'it returns false'. Refute it at one input. -/
def oscSaysWrong : ChangeSpec := { name := "oscSays", fn := fun _ => fun
  | [d1, d2, d3] => { results := [.lit (.bool false)], args := [d1, d2, d3] }
  | _ => none }
def OscSaysWrongFalsely : Prop := oscSaysRow.holds Try.pinned (OpenSpec.ofChange oscSaysWrong)

/-- 'sundiallaw02.OscBounds': WHATEVER THE INPUT: true; the input reads as it did. -/
def oscBoundsSpec : ChangeSpec := { name := "oscBounds", fn := fun _ => fun
  | [d1, d2, d3, d4] => { results := [.lit (.bool true)], args := [d1, d2, d3, d4] }
  | _ => none }
def oscBoundsRow : OpenClaim := { program := "ytgahmboecbfplaa", sum := "c00c48e3ad740abdda8d693672b13ee9286fc74c649837111782c08583b7cf48", func := "sundial/sundiallaw02.OscBounds", spec := "oscBounds", named := ["math/bits.divideError", "math/bits.overflowError"], apart := false }
def OscBoundsSaid : Prop := oscBoundsRow.holds Try.pinned (OpenSpec.ofChange oscBoundsSpec)

/-- ITS FALSE NEIGHBOUR: 'it returns false'. Refute it at one input. -/
def oscBoundsWrong : ChangeSpec := { name := "oscBounds", fn := fun _ => fun
  | [d1, d2, d3, d4] => { results := [.lit (.bool false)], args := [d1, d2, d3, d4] }
  | _ => none }
def OscBoundsWrongFalsely : Prop := oscBoundsRow.holds Try.pinned (OpenSpec.ofChange oscBoundsWrong)

/-- 'sundiallaw02.OscSplits': WHATEVER THE INPUT: true; the input reads as it did. -/
def oscSplitsSpec : ChangeSpec := { name := "oscSplits", fn := fun _ => fun
  | [d1, d2, d3, d4, d5, d6] => { results := [.lit (.bool true)], args := [d1, d2, d3, d4, d5, d6] }
  | _ => none }
def oscSplitsRow : OpenClaim := { program := "ytgahmboecbfplaa", sum := "c00c48e3ad740abdda8d693672b13ee9286fc74c649837111782c08583b7cf48", func := "sundial/sundiallaw02.OscSplits", spec := "oscSplits", named := ["math/bits.divideError", "math/bits.overflowError"], apart := false }
def OscSplitsSaid : Prop := oscSplitsRow.holds Try.pinned (OpenSpec.ofChange oscSplitsSpec)

/-- ITS FALSE NEIGHBOUR: 'it returns false'. Refute it at one input. -/
def oscSplitsWrong : ChangeSpec := { name := "oscSplits", fn := fun _ => fun
  | [d1, d2, d3, d4, d5, d6] => { results := [.lit (.bool false)], args := [d1, d2, d3, d4, d5, d6] }
  | _ => none }
def OscSplitsWrongFalsely : Prop := oscSplitsRow.holds Try.pinned (OpenSpec.ofChange oscSplitsWrong)

/- THE SECOND FORM. 'bulk': how many values and letters a reading holds, each counted each time it is reached (what is shared counts as often as it is met; a slice's spare places count too). A statement '..UptoSaid' is the law's where the arguments, and the package variables that the reading takes, are together of bulk at most 1048576: NARROWER than '..Said'. Prove '..Said' where nothing that the law and all that it calls make is longer than what came in: it says more and counts as full. Else prove '..UptoSaid'. A law counts once. -/
mutual
def uptoBulk {H : Type} : DataW H → Nat
  | .lit (.string bytes) => bytes.length + 1
  | .lit _ => 1
  | .nil => 1
  | .ptr d => uptoBulk d + 1
  | .slice elems spare => uptoBulkAll elems + uptoBulkAll spare + 1
  | .agg parts => uptoBulkAll parts + 1
  | .iface _ d => uptoBulk d + 1
  | .map entries => uptoBulkEntries entries + 1
  | .held _ => 1
def uptoBulkAll {H : Type} : List (DataW H) → Nat
  | [] => 0
  | d :: r => uptoBulk d + uptoBulkAll r
def uptoBulkEntries {H : Type} : List (Lit × DataW H) → Nat
  | [] => 0
  | x :: r => uptoBulkEntry x + uptoBulkEntries r
def uptoBulkEntry {H : Type} : Lit × DataW H → Nat
  | (.string bytes, d) => bytes.length + uptoBulk d + 1
  | (_, d) => uptoBulk d + 1
 end
def uptoSmall : (H : Type) → List (DataW H) → Bool := fun _ ds => decide (uptoBulkAll ds ≤ 1048576)
def OpenSpec.upto (s : _root_.Go.ChangeSpec) : _root_.Go.OpenSpec := { _root_.Go.OpenSpec.ofChange s with cond := some uptoSmall }

/-- 'sundiallaw02.OscRaws', WHERE WHAT IT READS IS OF BULK AT MOST 1048576: true; the input reads as it did. -/
def oscRawsUptoRow : OpenClaim := { program := "ytgahmboecbfplaa", sum := "c00c48e3ad740abdda8d693672b13ee9286fc74c649837111782c08583b7cf48", func := "sundial/sundiallaw02.OscRaws", spec := "oscRaws", named := ["math/bits.divideError", "math/bits.overflowError"], apart := false, narrowed := true }
def OscRawsUptoSaid : Prop := oscRawsUptoRow.holds Try.pinned (OpenSpec.upto oscRawsSpec)

/-- 'sundiallaw02.OscSays', WHERE WHAT IT READS IS OF BULK AT MOST 1048576: true; the input reads as it did. -/
def oscSaysUptoRow : OpenClaim := { program := "ytgahmboecbfplaa", sum := "c00c48e3ad740abdda8d693672b13ee9286fc74c649837111782c08583b7cf48", func := "sundial/sundiallaw02.OscSays", spec := "oscSays", named := ["math/bits.divideError", "math/bits.overflowError"], apart := false, narrowed := true }
def OscSaysUptoSaid : Prop := oscSaysUptoRow.holds Try.pinned (OpenSpec.upto oscSaysSpec)

/-- 'sundiallaw02.OscBounds', WHERE WHAT IT READS IS OF BULK AT MOST 1048576: true; the input reads as it did. -/
def oscBoundsUptoRow : OpenClaim := { program := "ytgahmboecbfplaa", sum := "c00c48e3ad740abdda8d693672b13ee9286fc74c649837111782c08583b7cf48", func := "sundial/sundiallaw02.OscBounds", spec := "oscBounds", named := ["math/bits.divideError", "math/bits.overflowError"], apart := false, narrowed := true }
def OscBoundsUptoSaid : Prop := oscBoundsUptoRow.holds Try.pinned (OpenSpec.upto oscBoundsSpec)

/-- 'sundiallaw02.OscSplits', WHERE WHAT IT READS IS OF BULK AT MOST 1048576: true; the input reads as it did. -/
def oscSplitsUptoRow : OpenClaim := { program := "ytgahmboecbfplaa", sum := "c00c48e3ad740abdda8d693672b13ee9286fc74c649837111782c08583b7cf48", func := "sundial/sundiallaw02.OscSplits", spec := "oscSplits", named := ["math/bits.divideError", "math/bits.overflowError"], apart := false, narrowed := true }
def OscSplitsUptoSaid : Prop := oscSplitsUptoRow.holds Try.pinned (OpenSpec.upto oscSplitsSpec)

end Rows
end Go.Proofs.Ytgahmboecbfplaa
