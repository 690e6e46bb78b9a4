/-
  No cell of these rows narrows 'for every input' (looked for: loops, veiled, ifaces, maps, wideKeys, modest, calm, conditions, laid).
  DERIVED. THE GIVEN ROWS OF THIS SEAT. 6 by the template 'for every input the law returns true; each argument reads behind the call as it read before'; 0 by the template 'total and deterministic' (their statements: YtcdphaejnmdpoaaTotals.lean).
  GIVEN WITH THE SEED: the statements are not yours to turn. If you find one false, say at which input.
  Laid BY PROGRAM, IN A SANDBOX (cutbox-rows.mjs): the forced cells as the released guide's own fill.sh prints them over the translation bff5aef39d008971… (all of the seat's roots in one cut). By AI agents, Wed Nov 11 2026. No macro, syntax, notation, axiom, sorry.
-/
import Derived.Test.YtcdphaejnmdpoaaChecked
import GoSem.Claim
import GoSem.ClaimJoined
import GoSem.ClaimMapViews
import Derived.JoinedTies
import Derived.KernelRfl
namespace Go.Proofs.Ytcdphaejnmdpoaa
/- THE CELL 'sum', in the pinned program and in every row, IS THE sha256 OF THE DUMP (.gsa) THAT YtcdphaejnmdpoaaProg.lean LOADS. Nothing in Lean hashes anything: it is a label: what it is worth is what the hold of that sum in a sandbox is worth. -/
noncomputable def Try.pinned : Pinned := { name := "ytcdphaejnmdpoaa", sum := "bff5aef39d008971b9fbd00dd3bd6de61ab044cc6fd279b471649eac4bf42f1a", checked := Try.checked }
namespace Rows
def none {H : Type} : Left H := { results := [], args := [] }

/-- 'sundiallaw01.FixRounds': WHATEVER THE INPUT: true; the input reads as it did. -/
def fixRoundsSpec : ChangeSpec := { name := "fixRounds", fn := fun _ => fun
  | [d1, d2, d3] => { results := [.lit (.bool true)], args := [d1, d2, d3] }
  | _ => none }
def fixRoundsRow : OpenClaim := { program := "ytcdphaejnmdpoaa", sum := "bff5aef39d008971b9fbd00dd3bd6de61ab044cc6fd279b471649eac4bf42f1a", func := "sundial/sundiallaw01.FixRounds", spec := "fixRounds", named := ["math/bits.divideError", "math/bits.overflowError"], apart := false }
def FixRoundsSaid : Prop := fixRoundsRow.holds Try.pinned (OpenSpec.ofChange fixRoundsSpec)

/-- ITS FALSE NEIGHBOUR: 'it returns false'. Refute it at one input. -/
def fixRoundsWrong : ChangeSpec := { name := "fixRounds", fn := fun _ => fun
  | [d1, d2, d3] => { results := [.lit (.bool false)], args := [d1, d2, d3] }
  | _ => none }
def FixRoundsWrongFalsely : Prop := fixRoundsRow.holds Try.pinned (OpenSpec.ofChange fixRoundsWrong)

/-- 'sundiallaw01.FixSums': WHATEVER THE INPUT: true; the input reads as it did. -/
def fixSumsSpec : ChangeSpec := { name := "fixSums", fn := fun _ => fun
  | [d1, d2, d3, d4, d5] => { results := [.lit (.bool true)], args := [d1, d2, d3, d4, d5] }
  | _ => none }
def fixSumsRow : OpenClaim := { program := "ytcdphaejnmdpoaa", sum := "bff5aef39d008971b9fbd00dd3bd6de61ab044cc6fd279b471649eac4bf42f1a", func := "sundial/sundiallaw01.FixSums", spec := "fixSums", named := ["math/bits.divideError", "math/bits.overflowError"], apart := false }
def FixSumsSaid : Prop := fixSumsRow.holds Try.pinned (OpenSpec.ofChange fixSumsSpec)

/-- ITS FALSE NEIGHBOUR: 'it returns false'. Refute it at one input. -/
def fixSumsWrong : ChangeSpec := { name := "fixSums", fn := fun _ => fun
  | [d1, d2, d3, d4, d5] => { results := [.lit (.bool false)], args := [d1, d2, d3, d4, d5] }
  | _ => none }
def FixSumsWrongFalsely : Prop := fixSumsRow.holds Try.pinned (OpenSpec.ofChange fixSumsWrong)

/-- 'sundiallaw01.FixStamps': WHATEVER THE INPUT: true; the input reads as it did. -/
def fixStampsSpec : ChangeSpec := { name := "fixStamps", fn := fun _ => fun
  | [d1, d2, d3, d4] => { results := [.lit (.bool true)], args := [d1, d2, d3, d4] }
  | _ => none }
def fixStampsRow : OpenClaim := { program := "ytcdphaejnmdpoaa", sum := "bff5aef39d008971b9fbd00dd3bd6de61ab044cc6fd279b471649eac4bf42f1a", func := "sundial/sundiallaw01.FixStamps", spec := "fixStamps", named := ["math/bits.divideError", "math/bits.overflowError"], apart := false }
def FixStampsSaid : Prop := fixStampsRow.holds Try.pinned (OpenSpec.ofChange fixStampsSpec)

/-- ITS FALSE NEIGHBOUR: 'it returns false'. Refute it at one input. -/
def fixStampsWrong : ChangeSpec := { name := "fixStamps", fn := fun _ => fun
  | [d1, d2, d3, d4] => { results := [.lit (.bool false)], args := [d1, d2, d3, d4] }
  | _ => none }
def FixStampsWrongFalsely : Prop := fixStampsRow.holds Try.pinned (OpenSpec.ofChange fixStampsWrong)

/-- 'sundiallaw01.FixBack': WHATEVER THE INPUT: true; the input reads as it did. -/
def fixBackSpec : ChangeSpec := { name := "fixBack", fn := fun _ => fun
  | [d1, d2] => { results := [.lit (.bool true)], args := [d1, d2] }
  | _ => none }
def fixBackRow : OpenClaim := { program := "ytcdphaejnmdpoaa", sum := "bff5aef39d008971b9fbd00dd3bd6de61ab044cc6fd279b471649eac4bf42f1a", func := "sundial/sundiallaw01.FixBack", spec := "fixBack", named := ["math/bits.divideError", "math/bits.overflowError"], apart := false }
def FixBackSaid : Prop := fixBackRow.holds Try.pinned (OpenSpec.ofChange fixBackSpec)

/-- ITS FALSE NEIGHBOUR: 'it returns false'. Refute it at one input. -/
def fixBackWrong : ChangeSpec := { name := "fixBack", fn := fun _ => fun
  | [d1, d2] => { results := [.lit (.bool false)], args := [d1, d2] }
  | _ => none }
def FixBackWrongFalsely : Prop := fixBackRow.holds Try.pinned (OpenSpec.ofChange fixBackWrong)

/-- 'sundiallaw01.FixSpans': WHATEVER THE INPUT: true; the input reads as it did. -/
def fixSpansSpec : ChangeSpec := { name := "fixSpans", fn := fun _ => fun
  | [d1, d2, d3] => { results := [.lit (.bool true)], args := [d1, d2, d3] }
  | _ => none }
def fixSpansRow : OpenClaim := { program := "ytcdphaejnmdpoaa", sum := "bff5aef39d008971b9fbd00dd3bd6de61ab044cc6fd279b471649eac4bf42f1a", func := "sundial/sundiallaw01.FixSpans", spec := "fixSpans", named := ["math/bits.divideError", "math/bits.overflowError"], apart := false }
def FixSpansSaid : Prop := fixSpansRow.holds Try.pinned (OpenSpec.ofChange fixSpansSpec)

/-- ITS FALSE NEIGHBOUR: 'it returns false'. Refute it at one input. -/
def fixSpansWrong : ChangeSpec := { name := "fixSpans", fn := fun _ => fun
  | [d1, d2, d3] => { results := [.lit (.bool false)], args := [d1, d2, d3] }
  | _ => none }
def FixSpansWrongFalsely : Prop := fixSpansRow.holds Try.pinned (OpenSpec.ofChange fixSpansWrong)

/-- 'sundiallaw01.FixSets': WHATEVER THE INPUT: true; the input reads as it did. -/
def fixSetsSpec : ChangeSpec := { name := "fixSets", fn := fun _ => fun
  | [d1, d2, d3, d4] => { results := [.lit (.bool true)], args := [d1, d2, d3, d4] }
  | _ => none }
def fixSetsRow : OpenClaim := { program := "ytcdphaejnmdpoaa", sum := "bff5aef39d008971b9fbd00dd3bd6de61ab044cc6fd279b471649eac4bf42f1a", func := "sundial/sundiallaw01.FixSets", spec := "fixSets", named := ["math/bits.divideError", "math/bits.overflowError"], apart := false }
def FixSetsSaid : Prop := fixSetsRow.holds Try.pinned (OpenSpec.ofChange fixSetsSpec)

/-- ITS FALSE NEIGHBOUR: 'it returns false'. Refute it at one input. -/
def fixSetsWrong : ChangeSpec := { name := "fixSets", fn := fun _ => fun
  | [d1, d2, d3, d4] => { results := [.lit (.bool false)], args := [d1, d2, d3, d4] }
  | _ => none }
def FixSetsWrongFalsely : Prop := fixSetsRow.holds Try.pinned (OpenSpec.ofChange fixSetsWrong)

/- THE SECOND FORM. 'bulk': how many values and letters a reading holds, each counted each time it is reached (what is shared counts as often as it is met; a slice's spare places count too). A statement '..UptoSaid' is the law's where the arguments, and the package variables that the reading takes, are together of bulk at most 1048576: NARROWER than '..Said'. Prove '..Said' where nothing that the law and all that it calls make is longer than what came in: it says more and counts as full. Else prove '..UptoSaid'. A law counts once. -/
mutual
def uptoBulk {H : Type} : DataW H → Nat
  | .lit (.string bytes) => bytes.length + 1
  | .lit _ => 1
  | .nil => 1
  | .ptr d => uptoBulk d + 1
  | .slice elems spare => uptoBulkAll elems + uptoBulkAll spare + 1
  | .agg parts => uptoBulkAll parts + 1
  | .iface _ d => uptoBulk d + 1
  | .map entries => uptoBulkEntries entries + 1
  | .held _ => 1
def uptoBulkAll {H : Type} : List (DataW H) → Nat
  | [] => 0
  | d :: r => uptoBulk d + uptoBulkAll r
def uptoBulkEntries {H : Type} : List (Lit × DataW H) → Nat
  | [] => 0
  | x :: r => uptoBulkEntry x + uptoBulkEntries r
def uptoBulkEntry {H : Type} : Lit × DataW H → Nat
  | (.string bytes, d) => bytes.length + uptoBulk d + 1
  | (_, d) => uptoBulk d + 1
 end
def uptoSmall : (H : Type) → List (DataW H) → Bool := fun _ ds => decide (uptoBulkAll ds ≤ 1048576)
def OpenSpec.upto (s : _root_.Go.ChangeSpec) : _root_.Go.OpenSpec := { _root_.Go.OpenSpec.ofChange s with cond := some uptoSmall }

/-- 'sundiallaw01.FixRounds', WHERE WHAT IT READS IS OF BULK AT MOST 1048576: true; the input reads as it did. -/
def fixRoundsUptoRow : OpenClaim := { program := "ytcdphaejnmdpoaa", sum := "bff5aef39d008971b9fbd00dd3bd6de61ab044cc6fd279b471649eac4bf42f1a", func := "sundial/sundiallaw01.FixRounds", spec := "fixRounds", named := ["math/bits.divideError", "math/bits.overflowError"], apart := false, narrowed := true }
def FixRoundsUptoSaid : Prop := fixRoundsUptoRow.holds Try.pinned (OpenSpec.upto fixRoundsSpec)

/-- 'sundiallaw01.FixSums', WHERE WHAT IT READS IS OF BULK AT MOST 1048576: true; the input reads as it did. -/
def fixSumsUptoRow : OpenClaim := { program := "ytcdphaejnmdpoaa", sum := "bff5aef39d008971b9fbd00dd3bd6de61ab044cc6fd279b471649eac4bf42f1a", func := "sundial/sundiallaw01.FixSums", spec := "fixSums", named := ["math/bits.divideError", "math/bits.overflowError"], apart := false, narrowed := true }
def FixSumsUptoSaid : Prop := fixSumsUptoRow.holds Try.pinned (OpenSpec.upto fixSumsSpec)

/-- 'sundiallaw01.FixStamps', WHERE WHAT IT READS IS OF BULK AT MOST 1048576: true; the input reads as it did. -/
def fixStampsUptoRow : OpenClaim := { program := "ytcdphaejnmdpoaa", sum := "bff5aef39d008971b9fbd00dd3bd6de61ab044cc6fd279b471649eac4bf42f1a", func := "sundial/sundiallaw01.FixStamps", spec := "fixStamps", named := ["math/bits.divideError", "math/bits.overflowError"], apart := false, narrowed := true }
def FixStampsUptoSaid : Prop := fixStampsUptoRow.holds Try.pinned (OpenSpec.upto fixStampsSpec)

/-- 'sundiallaw01.FixBack', WHERE WHAT IT READS IS OF BULK AT MOST 1048576: true; the input reads as it did. -/
def fixBackUptoRow : OpenClaim := { program := "ytcdphaejnmdpoaa", sum := "bff5aef39d008971b9fbd00dd3bd6de61ab044cc6fd279b471649eac4bf42f1a", func := "sundial/sundiallaw01.FixBack", spec := "fixBack", named := ["math/bits.divideError", "math/bits.overflowError"], apart := false, narrowed := true }
def FixBackUptoSaid : Prop := fixBackUptoRow.holds Try.pinned (OpenSpec.upto fixBackSpec)

/-- 'sundiallaw01.FixSpans', WHERE WHAT IT READS IS OF BULK AT MOST 1048576: true; the input reads as it did. -/
def fixSpansUptoRow : OpenClaim := { program := "ytcdphaejnmdpoaa", sum := "bff5aef39d008971b9fbd00dd3bd6de61ab044cc6fd279b471649eac4bf42f1a", func := "sundial/sundiallaw01.FixSpans", spec := "fixSpans", named := ["math/bits.divideError", "math/bits.overflowError"], apart := false, narrowed := true }
def FixSpansUptoSaid : Prop := fixSpansUptoRow.holds Try.pinned (OpenSpec.upto fixSpansSpec)

/-- 'sundiallaw01.FixSets', WHERE WHAT IT READS IS OF BULK AT MOST 1048576: true; the input reads as it did. -/
def fixSetsUptoRow : OpenClaim := { program := "ytcdphaejnmdpoaa", sum := "bff5aef39d008971b9fbd00dd3bd6de61ab044cc6fd279b471649eac4bf42f1a", func := "sundial/sundiallaw01.FixSets", spec := "fixSets", named := ["math/bits.divideError", "math/bits.overflowError"], apart := false, narrowed := true }
def FixSetsUptoSaid : Prop := fixSetsUptoRow.holds Try.pinned (OpenSpec.upto fixSetsSpec)

end Rows
end Go.Proofs.Ytcdphaejnmdpoaa
