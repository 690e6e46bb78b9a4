/-
  NARROWER THAN 'FOR EVERY INPUT', by the rows' own cells (each row's printed sentence says how): DanceModes: laid · DanceSafe: laid · DanceTests: laid · DanceCodes: laid.
  DERIVED. THE GIVEN ROWS OF THIS SEAT. 4 by the template 'for every input the law returns true; each argument reads behind the call as it read before'; 0 by the template 'total and deterministic' (their statements: YtnooajlijekhdaaDoorTotals.lean).
  GIVEN WITH THE SEED: the statements are not yours to turn. If you find one false, say at which input.
  Laid BY PROGRAM, IN A SANDBOX (cutbox-rows.mjs): the forced cells as the released guide's own fill.sh prints them over the translation c224466462472cdf… (all of the seat's roots in one cut). By AI agents, Wed Nov 11 2026. No macro, syntax, notation, axiom, sorry.
-/
import Derived.Test.YtnooajlijekhdaaDoorChecked
import GoSem.PinnedTables
import GoSem.Claim
import GoSem.ClaimJoined
import GoSem.ClaimMapViews
import Derived.JoinedTies
import Derived.KernelRfl
namespace Go.Proofs.YtnooajlijekhdaaDoor
/- THE CELL 'sum', in the pinned program and in every row, IS THE sha256 OF THE DUMP (.gsa) THAT YtnooajlijekhdaaDoorProg.lean LOADS. Nothing in Lean hashes anything: it is a label: what it is worth is what the hold of that sum in a sandbox is worth. -/
noncomputable def Tryd.pinned : Pinned := { name := "ytnooajlijekhdaadoor", sum := "c224466462472cdfe7eca45bb36db161c3c83a14be9c18dee1ff5e6f01cabfd1", checked := Tryd.checked }
namespace Rows
def none {H : Type} : Left H := { results := [], args := [] }

/- WHAT THE LISTED PACKAGE-LEVEL VARIABLES READ AS WHEN THE CALL BEGINS. Each datum BY PROGRAM (the guide's laid-datum.mjs) off the statement by which the dump's own 'gosem.cut.vars' lays the variable. In a bare row this is a premise. The card (YtnooajlijekhdaaDoorCards.lean) ties it to the program's text. -/
def laid_unicode_utf8_acceptRanges {H : Type} : DataW H := .agg [.agg [.lit (.int .u8 128), .lit (.int .u8 191)], .agg [.lit (.int .u8 160), .lit (.int .u8 191)], .agg [.lit (.int .u8 128), .lit (.int .u8 159)], .agg [.lit (.int .u8 144), .lit (.int .u8 191)], .agg [.lit (.int .u8 128), .lit (.int .u8 143)], .agg [.lit (.int .u8 0), .lit (.int .u8 0)], .agg [.lit (.int .u8 0), .lit (.int .u8 0)], .agg [.lit (.int .u8 0), .lit (.int .u8 0)], .agg [.lit (.int .u8 0), .lit (.int .u8 0)], .agg [.lit (.int .u8 0), .lit (.int .u8 0)], .agg [.lit (.int .u8 0), .lit (.int .u8 0)], .agg [.lit (.int .u8 0), .lit (.int .u8 0)], .agg [.lit (.int .u8 0), .lit (.int .u8 0)], .agg [.lit (.int .u8 0), .lit (.int .u8 0)], .agg [.lit (.int .u8 0), .lit (.int .u8 0)], .agg [.lit (.int .u8 0), .lit (.int .u8 0)]]
/-- One of Go's own tables, pinned by name: the form's constant. -/
def laid_unicode_utf8_first : DataW Unit := Go.Pinned.utf8First

/-- 'sundiallaw19.DanceModes': WHATEVER THE INPUT: true; the input reads as it did. -/
def danceModesSpec : ChangeSpec := { name := "danceModes", fn := fun _ => fun
  | [d1, d2] => { results := [.lit (.bool true)], args := [d1, d2] }
  | _ => none }
def danceModesRow : OpenClaim := { program := "ytnooajlijekhdaadoor", sum := "c224466462472cdfe7eca45bb36db161c3c83a14be9c18dee1ff5e6f01cabfd1", func := "sundial/sundiallaw19.DanceModes", spec := "danceModes", inPlace := ["internal/bytealg.IndexByteString", "internal/bytealg.IndexString"], named := ["unicode/utf8.first", "unicode/utf8.acceptRanges", "internal/bytealg.MaxLen"], apart := false, laid := [("unicode/utf8.acceptRanges", laid_unicode_utf8_acceptRanges), ("unicode/utf8.first", laid_unicode_utf8_first)] }
def DanceModesSaid : Prop := danceModesRow.holds Tryd.pinned (OpenSpec.ofChange danceModesSpec)

/-- ITS FALSE NEIGHBOUR: 'it returns false'. Refute it at one input. -/
def danceModesWrong : ChangeSpec := { name := "danceModes", fn := fun _ => fun
  | [d1, d2] => { results := [.lit (.bool false)], args := [d1, d2] }
  | _ => none }
def DanceModesWrongFalsely : Prop := danceModesRow.holds Tryd.pinned (OpenSpec.ofChange danceModesWrong)

/-- 'sundiallaw19.DanceSafe': WHATEVER THE INPUT: true; the input reads as it did. -/
def danceSafeSpec : ChangeSpec := { name := "danceSafe", fn := fun _ => fun
  | [d1, d2, d3] => { results := [.lit (.bool true)], args := [d1, d2, d3] }
  | _ => none }
def danceSafeRow : OpenClaim := { program := "ytnooajlijekhdaadoor", sum := "c224466462472cdfe7eca45bb36db161c3c83a14be9c18dee1ff5e6f01cabfd1", func := "sundial/sundiallaw19.DanceSafe", spec := "danceSafe", inPlace := ["internal/bytealg.IndexByteString", "internal/bytealg.IndexString"], named := ["unicode/utf8.first", "unicode/utf8.acceptRanges", "internal/bytealg.MaxLen"], apart := false, laid := [("unicode/utf8.acceptRanges", laid_unicode_utf8_acceptRanges), ("unicode/utf8.first", laid_unicode_utf8_first)] }
def DanceSafeSaid : Prop := danceSafeRow.holds Tryd.pinned (OpenSpec.ofChange danceSafeSpec)

/-- ITS FALSE NEIGHBOUR: 'it returns false'. Refute it at one input. -/
def danceSafeWrong : ChangeSpec := { name := "danceSafe", fn := fun _ => fun
  | [d1, d2, d3] => { results := [.lit (.bool false)], args := [d1, d2, d3] }
  | _ => none }
def DanceSafeWrongFalsely : Prop := danceSafeRow.holds Tryd.pinned (OpenSpec.ofChange danceSafeWrong)

/-- 'sundiallaw19.DanceTests': WHATEVER THE INPUT: true; the input reads as it did. -/
def danceTestsSpec : ChangeSpec := { name := "danceTests", fn := fun _ => fun
  | [d1, d2, d3, d4] => { results := [.lit (.bool true)], args := [d1, d2, d3, d4] }
  | _ => none }
def danceTestsRow : OpenClaim := { program := "ytnooajlijekhdaadoor", sum := "c224466462472cdfe7eca45bb36db161c3c83a14be9c18dee1ff5e6f01cabfd1", func := "sundial/sundiallaw19.DanceTests", spec := "danceTests", inPlace := ["internal/bytealg.IndexByteString", "internal/bytealg.IndexString"], named := ["unicode/utf8.first", "unicode/utf8.acceptRanges", "internal/bytealg.MaxLen"], apart := false, laid := [("unicode/utf8.acceptRanges", laid_unicode_utf8_acceptRanges), ("unicode/utf8.first", laid_unicode_utf8_first)] }
def DanceTestsSaid : Prop := danceTestsRow.holds Tryd.pinned (OpenSpec.ofChange danceTestsSpec)

/-- ITS FALSE NEIGHBOUR: 'it returns false'. Refute it at one input. -/
def danceTestsWrong : ChangeSpec := { name := "danceTests", fn := fun _ => fun
  | [d1, d2, d3, d4] => { results := [.lit (.bool false)], args := [d1, d2, d3, d4] }
  | _ => none }
def DanceTestsWrongFalsely : Prop := danceTestsRow.holds Tryd.pinned (OpenSpec.ofChange danceTestsWrong)

/-- 'sundiallaw19.DanceCodes': WHATEVER THE INPUT: true; the input reads as it did. -/
def danceCodesSpec : ChangeSpec := { name := "danceCodes", fn := fun _ => fun
  | [d1, d2] => { results := [.lit (.bool true)], args := [d1, d2] }
  | _ => none }
def danceCodesRow : OpenClaim := { program := "ytnooajlijekhdaadoor", sum := "c224466462472cdfe7eca45bb36db161c3c83a14be9c18dee1ff5e6f01cabfd1", func := "sundial/sundiallaw19.DanceCodes", spec := "danceCodes", inPlace := ["internal/bytealg.IndexByteString", "internal/bytealg.IndexString"], named := ["unicode/utf8.first", "unicode/utf8.acceptRanges", "internal/bytealg.MaxLen"], apart := false, laid := [("unicode/utf8.acceptRanges", laid_unicode_utf8_acceptRanges), ("unicode/utf8.first", laid_unicode_utf8_first)] }
def DanceCodesSaid : Prop := danceCodesRow.holds Tryd.pinned (OpenSpec.ofChange danceCodesSpec)

/-- ITS FALSE NEIGHBOUR: 'it returns false'. Refute it at one input. -/
def danceCodesWrong : ChangeSpec := { name := "danceCodes", fn := fun _ => fun
  | [d1, d2] => { results := [.lit (.bool false)], args := [d1, d2] }
  | _ => none }
def DanceCodesWrongFalsely : Prop := danceCodesRow.holds Tryd.pinned (OpenSpec.ofChange danceCodesWrong)

/- THE SECOND FORM. 'bulk': how many values and letters a reading holds, each counted each time it is reached (what is shared counts as often as it is met; a slice's spare places count too). A statement '..UptoSaid' is the law's where the arguments, and the package variables that the reading takes, are together of bulk at most 1048576: NARROWER than '..Said'. Prove '..Said' where nothing that the law and all that it calls make is longer than what came in: it says more and counts as full. Else prove '..UptoSaid'. A law counts once. -/
mutual
def uptoBulk {H : Type} : DataW H → Nat
  | .lit (.string bytes) => bytes.length + 1
  | .lit _ => 1
  | .nil => 1
  | .ptr d => uptoBulk d + 1
  | .slice elems spare => uptoBulkAll elems + uptoBulkAll spare + 1
  | .agg parts => uptoBulkAll parts + 1
  | .iface _ d => uptoBulk d + 1
  | .map entries => uptoBulkEntries entries + 1
  | .held _ => 1
def uptoBulkAll {H : Type} : List (DataW H) → Nat
  | [] => 0
  | d :: r => uptoBulk d + uptoBulkAll r
def uptoBulkEntries {H : Type} : List (Lit × DataW H) → Nat
  | [] => 0
  | x :: r => uptoBulkEntry x + uptoBulkEntries r
def uptoBulkEntry {H : Type} : Lit × DataW H → Nat
  | (.string bytes, d) => bytes.length + uptoBulk d + 1
  | (_, d) => uptoBulk d + 1
 end
def uptoSmall : (H : Type) → List (DataW H) → Bool := fun _ ds => decide (uptoBulkAll ds ≤ 1048576)
def OpenSpec.upto (s : _root_.Go.ChangeSpec) : _root_.Go.OpenSpec := { _root_.Go.OpenSpec.ofChange s with cond := some uptoSmall }

/-- 'sundiallaw19.DanceModes', WHERE WHAT IT READS IS OF BULK AT MOST 1048576: true; the input reads as it did. -/
def danceModesUptoRow : OpenClaim := { program := "ytnooajlijekhdaadoor", sum := "c224466462472cdfe7eca45bb36db161c3c83a14be9c18dee1ff5e6f01cabfd1", func := "sundial/sundiallaw19.DanceModes", spec := "danceModes", inPlace := ["internal/bytealg.IndexByteString", "internal/bytealg.IndexString"], named := ["unicode/utf8.first", "unicode/utf8.acceptRanges", "internal/bytealg.MaxLen"], apart := false, laid := [("unicode/utf8.acceptRanges", laid_unicode_utf8_acceptRanges), ("unicode/utf8.first", laid_unicode_utf8_first)], narrowed := true }
def DanceModesUptoSaid : Prop := danceModesUptoRow.holds Tryd.pinned (OpenSpec.upto danceModesSpec)

/-- 'sundiallaw19.DanceSafe', WHERE WHAT IT READS IS OF BULK AT MOST 1048576: true; the input reads as it did. -/
def danceSafeUptoRow : OpenClaim := { program := "ytnooajlijekhdaadoor", sum := "c224466462472cdfe7eca45bb36db161c3c83a14be9c18dee1ff5e6f01cabfd1", func := "sundial/sundiallaw19.DanceSafe", spec := "danceSafe", inPlace := ["internal/bytealg.IndexByteString", "internal/bytealg.IndexString"], named := ["unicode/utf8.first", "unicode/utf8.acceptRanges", "internal/bytealg.MaxLen"], apart := false, laid := [("unicode/utf8.acceptRanges", laid_unicode_utf8_acceptRanges), ("unicode/utf8.first", laid_unicode_utf8_first)], narrowed := true }
def DanceSafeUptoSaid : Prop := danceSafeUptoRow.holds Tryd.pinned (OpenSpec.upto danceSafeSpec)

/-- 'sundiallaw19.DanceTests', WHERE WHAT IT READS IS OF BULK AT MOST 1048576: true; the input reads as it did. -/
def danceTestsUptoRow : OpenClaim := { program := "ytnooajlijekhdaadoor", sum := "c224466462472cdfe7eca45bb36db161c3c83a14be9c18dee1ff5e6f01cabfd1", func := "sundial/sundiallaw19.DanceTests", spec := "danceTests", inPlace := ["internal/bytealg.IndexByteString", "internal/bytealg.IndexString"], named := ["unicode/utf8.first", "unicode/utf8.acceptRanges", "internal/bytealg.MaxLen"], apart := false, laid := [("unicode/utf8.acceptRanges", laid_unicode_utf8_acceptRanges), ("unicode/utf8.first", laid_unicode_utf8_first)], narrowed := true }
def DanceTestsUptoSaid : Prop := danceTestsUptoRow.holds Tryd.pinned (OpenSpec.upto danceTestsSpec)

/-- 'sundiallaw19.DanceCodes', WHERE WHAT IT READS IS OF BULK AT MOST 1048576: true; the input reads as it did. -/
def danceCodesUptoRow : OpenClaim := { program := "ytnooajlijekhdaadoor", sum := "c224466462472cdfe7eca45bb36db161c3c83a14be9c18dee1ff5e6f01cabfd1", func := "sundial/sundiallaw19.DanceCodes", spec := "danceCodes", inPlace := ["internal/bytealg.IndexByteString", "internal/bytealg.IndexString"], named := ["unicode/utf8.first", "unicode/utf8.acceptRanges", "internal/bytealg.MaxLen"], apart := false, laid := [("unicode/utf8.acceptRanges", laid_unicode_utf8_acceptRanges), ("unicode/utf8.first", laid_unicode_utf8_first)], narrowed := true }
def DanceCodesUptoSaid : Prop := danceCodesUptoRow.holds Tryd.pinned (OpenSpec.upto danceCodesSpec)

end Rows
end Go.Proofs.YtnooajlijekhdaaDoor
