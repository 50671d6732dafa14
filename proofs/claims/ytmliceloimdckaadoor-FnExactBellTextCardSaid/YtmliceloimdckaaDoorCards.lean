/-
  DERIVED. GIVEN WITH THE SEED: THE CARDS: each row of YtmliceloimdckaaDoorRows.lean that lists a variable, with what it lists TIED to the program's text (the seventh form; the later family's looks); each row that meets fmt, with fmt's text TOLD by the authors' own Lean function (tested against real Go, not proved from fmt's source: count such statements apart). THE CARD IS WHAT COUNTS. Prove the row's statement (the work); the ties are given (YtmliceloimdckaaDoorTie.lean); close each card by the builder's one call (the guide's Derived/Test/ToyasCard.lean, 'card_holds'). Laid BY PROGRAM, IN A SANDBOX (cutbox-door.mjs). By AI agents, Wed Nov 11 2026. No macro, syntax, notation, axiom, sorry.
-/
import Derived.Test.YtmliceloimdckaaDoorRows
import GoSem.ClaimSeven
namespace Go.Proofs.YtmliceloimdckaaDoor
namespace Rows

/-- THE TIED CARD OF 'laws.FnExactHoleText'. -/
def fnExactHoleTextCard : Claim7 := { stood := { row := fnExactHoleTextRow, standIns := [], harness := (true, "b96faeee736105f436d5bc07a3cc72d373e19bdc263a469130f80cb911d92856"), looks := true }, kinds := [], alts := [], laidByText := true, laidKinds := [.data, .data, .data], laidTests := true, laidLooks := .later }
def FnExactHoleTextCardSaid : Prop := Claim7.holds Tryd.pinned (.plain (OpenSpec.ofChange fnExactHoleTextSpec)) fnExactHoleTextCard

/-- THE TIED CARD OF 'laws.FnExactPourText'. -/
def fnExactPourTextCard : Claim7 := { stood := { row := fnExactPourTextRow, standIns := [], harness := (true, "b96faeee736105f436d5bc07a3cc72d373e19bdc263a469130f80cb911d92856"), looks := true }, kinds := [], alts := [], laidByText := true, laidKinds := [.data, .data, .data], laidTests := true, laidLooks := .later }
def FnExactPourTextCardSaid : Prop := Claim7.holds Tryd.pinned (.plain (OpenSpec.ofChange fnExactPourTextSpec)) fnExactPourTextCard

/-- THE TIED CARD OF 'laws.FnExactHungText'. -/
def fnExactHungTextCard : Claim7 := { stood := { row := fnExactHungTextRow, standIns := [], harness := (true, "b96faeee736105f436d5bc07a3cc72d373e19bdc263a469130f80cb911d92856"), looks := true }, kinds := [], alts := [], laidByText := true, laidKinds := [.data, .data, .data], laidTests := true, laidLooks := .later }
def FnExactHungTextCardSaid : Prop := Claim7.holds Tryd.pinned (.plain (OpenSpec.ofChange fnExactHungTextSpec)) fnExactHungTextCard

/-- THE TIED CARD OF 'laws.FnExactCastingText'. -/
def fnExactCastingTextCard : Claim7 := { stood := { row := fnExactCastingTextRow, standIns := [], harness := (true, "b96faeee736105f436d5bc07a3cc72d373e19bdc263a469130f80cb911d92856"), looks := true }, kinds := [], alts := [], laidByText := true, laidKinds := [.data, .data, .data], laidTests := true, laidLooks := .later }
def FnExactCastingTextCardSaid : Prop := Claim7.holds Tryd.pinned (.plain (OpenSpec.ofChange fnExactCastingTextSpec)) fnExactCastingTextCard

/-- THE TIED CARD OF 'laws.FnExactBellText'. -/
def fnExactBellTextCard : Claim7 := { stood := { row := fnExactBellTextRow, standIns := [], harness := (true, "b96faeee736105f436d5bc07a3cc72d373e19bdc263a469130f80cb911d92856"), looks := true }, kinds := [], alts := [], laidByText := true, laidKinds := [.data, .data, .data], laidTests := true, laidLooks := .later }
def FnExactBellTextCardSaid : Prop := Claim7.holds Tryd.pinned (.plain (OpenSpec.ofChange fnExactBellTextSpec)) fnExactBellTextCard

/-- THE TIED CARD OF 'laws.FnExactReadHole'. -/
def fnExactReadHoleCard : Claim7 := { stood := { row := fnExactReadHoleRow, standIns := [], harness := (true, "b96faeee736105f436d5bc07a3cc72d373e19bdc263a469130f80cb911d92856"), looks := true }, kinds := [], alts := [], laidByText := true, laidKinds := [.data, .data, .data, .sentinel, .sentinel], laidTests := true, laidLooks := .later }
def FnExactReadHoleCardSaid : Prop := Claim7.holds Tryd.pinned (.plain (OpenSpec.ofChange fnExactReadHoleSpec)) fnExactReadHoleCard

/-- THE TIED CARD OF 'laws.FnExactReadPour'. -/
def fnExactReadPourCard : Claim7 := { stood := { row := fnExactReadPourRow, standIns := [], harness := (true, "b96faeee736105f436d5bc07a3cc72d373e19bdc263a469130f80cb911d92856"), looks := true }, kinds := [], alts := [], laidByText := true, laidKinds := [.data, .data, .data, .data, .sentinel, .sentinel, .pinned], laidTests := true, laidLooks := .later }
def FnExactReadPourCardSaid : Prop := Claim7.holds Tryd.pinned (.plain (OpenSpec.ofChange fnExactReadPourSpec)) fnExactReadPourCard

/-- THE TIED CARD OF 'laws.FnExactReadHung'. -/
def fnExactReadHungCard : Claim7 := { stood := { row := fnExactReadHungRow, standIns := [], harness := (true, "b96faeee736105f436d5bc07a3cc72d373e19bdc263a469130f80cb911d92856"), looks := true }, kinds := [], alts := [], laidByText := true, laidKinds := [.data, .data, .data, .data, .sentinel, .sentinel, .pinned], laidTests := true, laidLooks := .later }
def FnExactReadHungCardSaid : Prop := Claim7.holds Tryd.pinned (.plain (OpenSpec.ofChange fnExactReadHungSpec)) fnExactReadHungCard

/-- THE TIED CARD OF 'laws.FnExactReadCasting'. -/
def fnExactReadCastingCard : Claim7 := { stood := { row := fnExactReadCastingRow, standIns := [], harness := (true, "b96faeee736105f436d5bc07a3cc72d373e19bdc263a469130f80cb911d92856"), looks := true }, kinds := [], alts := [], laidByText := true, laidKinds := [.data, .data, .data, .data, .sentinel, .sentinel, .pinned], laidTests := true, laidLooks := .later }
def FnExactReadCastingCardSaid : Prop := Claim7.holds Tryd.pinned (.plain (OpenSpec.ofChange fnExactReadCastingSpec)) fnExactReadCastingCard

/-- THE TIED CARD OF 'laws.FnExactReadBell'. -/
def fnExactReadBellCard : Claim7 := { stood := { row := fnExactReadBellRow, standIns := [], harness := (true, "b96faeee736105f436d5bc07a3cc72d373e19bdc263a469130f80cb911d92856"), looks := true }, kinds := [], alts := [], laidByText := true, laidKinds := [.data, .data, .data, .data, .sentinel, .sentinel, .pinned], laidTests := true, laidLooks := .later }
def FnExactReadBellCardSaid : Prop := Claim7.holds Tryd.pinned (.plain (OpenSpec.ofChange fnExactReadBellSpec)) fnExactReadBellCard

/-- THE SECOND FORM's CARD OF 'laws.FnExactHoleText'. -/
def fnExactHoleTextUptoCard : Claim7 := { stood := { row := fnExactHoleTextUptoRow, standIns := [], harness := (true, "b96faeee736105f436d5bc07a3cc72d373e19bdc263a469130f80cb911d92856"), looks := true }, kinds := [], alts := [], laidByText := true, laidKinds := [.data, .data, .data], laidTests := true, laidLooks := .later }
def FnExactHoleTextUptoCardSaid : Prop := Claim7.holds Tryd.pinned (.plain (OpenSpec.upto fnExactHoleTextSpec)) fnExactHoleTextUptoCard

/-- THE SECOND FORM's CARD OF 'laws.FnExactPourText'. -/
def fnExactPourTextUptoCard : Claim7 := { stood := { row := fnExactPourTextUptoRow, standIns := [], harness := (true, "b96faeee736105f436d5bc07a3cc72d373e19bdc263a469130f80cb911d92856"), looks := true }, kinds := [], alts := [], laidByText := true, laidKinds := [.data, .data, .data], laidTests := true, laidLooks := .later }
def FnExactPourTextUptoCardSaid : Prop := Claim7.holds Tryd.pinned (.plain (OpenSpec.upto fnExactPourTextSpec)) fnExactPourTextUptoCard

/-- THE SECOND FORM's CARD OF 'laws.FnExactHungText'. -/
def fnExactHungTextUptoCard : Claim7 := { stood := { row := fnExactHungTextUptoRow, standIns := [], harness := (true, "b96faeee736105f436d5bc07a3cc72d373e19bdc263a469130f80cb911d92856"), looks := true }, kinds := [], alts := [], laidByText := true, laidKinds := [.data, .data, .data], laidTests := true, laidLooks := .later }
def FnExactHungTextUptoCardSaid : Prop := Claim7.holds Tryd.pinned (.plain (OpenSpec.upto fnExactHungTextSpec)) fnExactHungTextUptoCard

/-- THE SECOND FORM's CARD OF 'laws.FnExactCastingText'. -/
def fnExactCastingTextUptoCard : Claim7 := { stood := { row := fnExactCastingTextUptoRow, standIns := [], harness := (true, "b96faeee736105f436d5bc07a3cc72d373e19bdc263a469130f80cb911d92856"), looks := true }, kinds := [], alts := [], laidByText := true, laidKinds := [.data, .data, .data], laidTests := true, laidLooks := .later }
def FnExactCastingTextUptoCardSaid : Prop := Claim7.holds Tryd.pinned (.plain (OpenSpec.upto fnExactCastingTextSpec)) fnExactCastingTextUptoCard

/-- THE SECOND FORM's CARD OF 'laws.FnExactBellText'. -/
def fnExactBellTextUptoCard : Claim7 := { stood := { row := fnExactBellTextUptoRow, standIns := [], harness := (true, "b96faeee736105f436d5bc07a3cc72d373e19bdc263a469130f80cb911d92856"), looks := true }, kinds := [], alts := [], laidByText := true, laidKinds := [.data, .data, .data], laidTests := true, laidLooks := .later }
def FnExactBellTextUptoCardSaid : Prop := Claim7.holds Tryd.pinned (.plain (OpenSpec.upto fnExactBellTextSpec)) fnExactBellTextUptoCard

/-- THE SECOND FORM's CARD OF 'laws.FnExactReadHole'. -/
def fnExactReadHoleUptoCard : Claim7 := { stood := { row := fnExactReadHoleUptoRow, standIns := [], harness := (true, "b96faeee736105f436d5bc07a3cc72d373e19bdc263a469130f80cb911d92856"), looks := true }, kinds := [], alts := [], laidByText := true, laidKinds := [.data, .data, .data, .sentinel, .sentinel], laidTests := true, laidLooks := .later }
def FnExactReadHoleUptoCardSaid : Prop := Claim7.holds Tryd.pinned (.plain (OpenSpec.upto fnExactReadHoleSpec)) fnExactReadHoleUptoCard

/-- THE SECOND FORM's CARD OF 'laws.FnExactReadPour'. -/
def fnExactReadPourUptoCard : Claim7 := { stood := { row := fnExactReadPourUptoRow, standIns := [], harness := (true, "b96faeee736105f436d5bc07a3cc72d373e19bdc263a469130f80cb911d92856"), looks := true }, kinds := [], alts := [], laidByText := true, laidKinds := [.data, .data, .data, .data, .sentinel, .sentinel, .pinned], laidTests := true, laidLooks := .later }
def FnExactReadPourUptoCardSaid : Prop := Claim7.holds Tryd.pinned (.plain (OpenSpec.upto fnExactReadPourSpec)) fnExactReadPourUptoCard

/-- THE SECOND FORM's CARD OF 'laws.FnExactReadHung'. -/
def fnExactReadHungUptoCard : Claim7 := { stood := { row := fnExactReadHungUptoRow, standIns := [], harness := (true, "b96faeee736105f436d5bc07a3cc72d373e19bdc263a469130f80cb911d92856"), looks := true }, kinds := [], alts := [], laidByText := true, laidKinds := [.data, .data, .data, .data, .sentinel, .sentinel, .pinned], laidTests := true, laidLooks := .later }
def FnExactReadHungUptoCardSaid : Prop := Claim7.holds Tryd.pinned (.plain (OpenSpec.upto fnExactReadHungSpec)) fnExactReadHungUptoCard

/-- THE SECOND FORM's CARD OF 'laws.FnExactReadCasting'. -/
def fnExactReadCastingUptoCard : Claim7 := { stood := { row := fnExactReadCastingUptoRow, standIns := [], harness := (true, "b96faeee736105f436d5bc07a3cc72d373e19bdc263a469130f80cb911d92856"), looks := true }, kinds := [], alts := [], laidByText := true, laidKinds := [.data, .data, .data, .data, .sentinel, .sentinel, .pinned], laidTests := true, laidLooks := .later }
def FnExactReadCastingUptoCardSaid : Prop := Claim7.holds Tryd.pinned (.plain (OpenSpec.upto fnExactReadCastingSpec)) fnExactReadCastingUptoCard

/-- THE SECOND FORM's CARD OF 'laws.FnExactReadBell'. -/
def fnExactReadBellUptoCard : Claim7 := { stood := { row := fnExactReadBellUptoRow, standIns := [], harness := (true, "b96faeee736105f436d5bc07a3cc72d373e19bdc263a469130f80cb911d92856"), looks := true }, kinds := [], alts := [], laidByText := true, laidKinds := [.data, .data, .data, .data, .sentinel, .sentinel, .pinned], laidTests := true, laidLooks := .later }
def FnExactReadBellUptoCardSaid : Prop := Claim7.holds Tryd.pinned (.plain (OpenSpec.upto fnExactReadBellSpec)) fnExactReadBellUptoCard
end Rows
end Go.Proofs.YtmliceloimdckaaDoor
