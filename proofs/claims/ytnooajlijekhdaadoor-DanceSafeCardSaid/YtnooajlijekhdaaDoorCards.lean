/-
  DERIVED. GIVEN WITH THE SEED: THE CARDS: each row of YtnooajlijekhdaaDoorRows.lean that lists a variable, with what it lists TIED to the program's text (the seventh form; the later family's looks); each row that meets fmt, with fmt's text TOLD by the authors' own Lean function (tested against real Go, not proved from fmt's source: count such statements apart). THE CARD IS WHAT COUNTS. Prove the row's statement (the work); the ties are given (YtnooajlijekhdaaDoorTie.lean); close each card by the builder's one call (the guide's Derived/Test/ToyasCard.lean, 'card_holds'). Laid BY PROGRAM, IN A SANDBOX (cutbox-door.mjs). By AI agents, Wed Nov 11 2026. No macro, syntax, notation, axiom, sorry.
-/
import Derived.Test.YtnooajlijekhdaaDoorRows
import GoSem.ClaimSeven
namespace Go.Proofs.YtnooajlijekhdaaDoor
namespace Rows

/-- THE TIED CARD OF 'sundiallaw19.DanceModes'. -/
def danceModesCard : Claim7 := { stood := { row := danceModesRow, standIns := [], harness := (true, "f1536981946dd47fcfe12a9d1fc202eb3453ab07293ca37076088600a67bb672"), looks := false }, kinds := [], alts := [], laidByText := true, laidKinds := [.data, .pinned], laidTests := true, laidLooks := .later }
def DanceModesCardSaid : Prop := Claim7.holds Tryd.pinned (.plain (OpenSpec.ofChange danceModesSpec)) danceModesCard

/-- THE TIED CARD OF 'sundiallaw19.DanceSafe'. -/
def danceSafeCard : Claim7 := { stood := { row := danceSafeRow, standIns := [], harness := (true, "f1536981946dd47fcfe12a9d1fc202eb3453ab07293ca37076088600a67bb672"), looks := false }, kinds := [], alts := [], laidByText := true, laidKinds := [.data, .pinned], laidTests := true, laidLooks := .later }
def DanceSafeCardSaid : Prop := Claim7.holds Tryd.pinned (.plain (OpenSpec.ofChange danceSafeSpec)) danceSafeCard

/-- THE TIED CARD OF 'sundiallaw19.DanceTests'. -/
def danceTestsCard : Claim7 := { stood := { row := danceTestsRow, standIns := [], harness := (true, "f1536981946dd47fcfe12a9d1fc202eb3453ab07293ca37076088600a67bb672"), looks := false }, kinds := [], alts := [], laidByText := true, laidKinds := [.data, .pinned], laidTests := true, laidLooks := .later }
def DanceTestsCardSaid : Prop := Claim7.holds Tryd.pinned (.plain (OpenSpec.ofChange danceTestsSpec)) danceTestsCard

/-- THE TIED CARD OF 'sundiallaw19.DanceCodes'. -/
def danceCodesCard : Claim7 := { stood := { row := danceCodesRow, standIns := [], harness := (true, "f1536981946dd47fcfe12a9d1fc202eb3453ab07293ca37076088600a67bb672"), looks := false }, kinds := [], alts := [], laidByText := true, laidKinds := [.data, .pinned], laidTests := true, laidLooks := .later }
def DanceCodesCardSaid : Prop := Claim7.holds Tryd.pinned (.plain (OpenSpec.ofChange danceCodesSpec)) danceCodesCard

/-- THE SECOND FORM's CARD OF 'sundiallaw19.DanceModes'. -/
def danceModesUptoCard : Claim7 := { stood := { row := danceModesUptoRow, standIns := [], harness := (true, "f1536981946dd47fcfe12a9d1fc202eb3453ab07293ca37076088600a67bb672"), looks := false }, kinds := [], alts := [], laidByText := true, laidKinds := [.data, .pinned], laidTests := true, laidLooks := .later }
def DanceModesUptoCardSaid : Prop := Claim7.holds Tryd.pinned (.plain (OpenSpec.upto danceModesSpec)) danceModesUptoCard

/-- THE SECOND FORM's CARD OF 'sundiallaw19.DanceSafe'. -/
def danceSafeUptoCard : Claim7 := { stood := { row := danceSafeUptoRow, standIns := [], harness := (true, "f1536981946dd47fcfe12a9d1fc202eb3453ab07293ca37076088600a67bb672"), looks := false }, kinds := [], alts := [], laidByText := true, laidKinds := [.data, .pinned], laidTests := true, laidLooks := .later }
def DanceSafeUptoCardSaid : Prop := Claim7.holds Tryd.pinned (.plain (OpenSpec.upto danceSafeSpec)) danceSafeUptoCard

/-- THE SECOND FORM's CARD OF 'sundiallaw19.DanceTests'. -/
def danceTestsUptoCard : Claim7 := { stood := { row := danceTestsUptoRow, standIns := [], harness := (true, "f1536981946dd47fcfe12a9d1fc202eb3453ab07293ca37076088600a67bb672"), looks := false }, kinds := [], alts := [], laidByText := true, laidKinds := [.data, .pinned], laidTests := true, laidLooks := .later }
def DanceTestsUptoCardSaid : Prop := Claim7.holds Tryd.pinned (.plain (OpenSpec.upto danceTestsSpec)) danceTestsUptoCard

/-- THE SECOND FORM's CARD OF 'sundiallaw19.DanceCodes'. -/
def danceCodesUptoCard : Claim7 := { stood := { row := danceCodesUptoRow, standIns := [], harness := (true, "f1536981946dd47fcfe12a9d1fc202eb3453ab07293ca37076088600a67bb672"), looks := false }, kinds := [], alts := [], laidByText := true, laidKinds := [.data, .pinned], laidTests := true, laidLooks := .later }
def DanceCodesUptoCardSaid : Prop := Claim7.holds Tryd.pinned (.plain (OpenSpec.upto danceCodesSpec)) danceCodesUptoCard
end Rows
end Go.Proofs.YtnooajlijekhdaaDoor
