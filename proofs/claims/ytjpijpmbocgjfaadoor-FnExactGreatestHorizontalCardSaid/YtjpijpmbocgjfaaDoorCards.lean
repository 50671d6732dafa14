/-
  DERIVED. GIVEN WITH THE SEED: THE CARDS: each row of YtjpijpmbocgjfaaDoorRows.lean that lists a variable, with what it lists TIED to the program's text (the seventh form; the later family's looks); each row that meets fmt, with fmt's text TOLD by the authors' own Lean function (tested against real Go, not proved from fmt's source: count such statements apart). THE CARD IS WHAT COUNTS. Prove the row's statement (the work); the ties are given (YtjpijpmbocgjfaaDoorTie.lean); close each card by the builder's one call (the guide's Derived/Test/ToyasCard.lean, 'card_holds'). Laid BY PROGRAM, IN A SANDBOX (cutbox-door.mjs). By AI agents, Wed Nov 11 2026. No macro, syntax, notation, axiom, sorry.
-/
import Derived.Test.YtjpijpmbocgjfaaDoorRows
import GoSem.ClaimSeven
namespace Go.Proofs.YtjpijpmbocgjfaaDoor
namespace Rows

/-- THE TIED CARD OF 'laws.FnExactSineOf'. -/
def fnExactSineOfCard : Claim7 := { stood := { row := fnExactSineOfRow, standIns := [], harness := (true, "a5f358ca27256db233c3edd6ac4b734a77b167e073bb31d3177fde075ef59b47"), looks := false }, kinds := [], alts := [], laidByText := true, laidKinds := [.data], laidTests := true, laidLooks := .later }
def FnExactSineOfCardSaid : Prop := Claim7.holds Tryd.pinned (.plain (OpenSpec.ofChange fnExactSineOfSpec)) fnExactSineOfCard

/-- THE TIED CARD OF 'laws.FnExactCosineOf'. -/
def fnExactCosineOfCard : Claim7 := { stood := { row := fnExactCosineOfRow, standIns := [], harness := (true, "a5f358ca27256db233c3edd6ac4b734a77b167e073bb31d3177fde075ef59b47"), looks := false }, kinds := [], alts := [], laidByText := true, laidKinds := [.data], laidTests := true, laidLooks := .later }
def FnExactCosineOfCardSaid : Prop := Claim7.holds Tryd.pinned (.plain (OpenSpec.ofChange fnExactCosineOfSpec)) fnExactCosineOfCard

/-- THE TIED CARD OF 'laws.FnExactHorizontalAt'. -/
def fnExactHorizontalAtCard : Claim7 := { stood := { row := fnExactHorizontalAtRow, standIns := [], harness := (true, "a5f358ca27256db233c3edd6ac4b734a77b167e073bb31d3177fde075ef59b47"), looks := false }, kinds := [], alts := [], laidByText := true, laidKinds := [.data], laidTests := true, laidLooks := .later }
def FnExactHorizontalAtCardSaid : Prop := Claim7.holds Tryd.pinned (.plain (OpenSpec.ofChange fnExactHorizontalAtSpec)) fnExactHorizontalAtCard

/-- THE TIED CARD OF 'laws.FnExactVerticalAt'. -/
def fnExactVerticalAtCard : Claim7 := { stood := { row := fnExactVerticalAtRow, standIns := [], harness := (true, "a5f358ca27256db233c3edd6ac4b734a77b167e073bb31d3177fde075ef59b47"), looks := false }, kinds := [], alts := [], laidByText := true, laidKinds := [.data], laidTests := true, laidLooks := .later }
def FnExactVerticalAtCardSaid : Prop := Claim7.holds Tryd.pinned (.plain (OpenSpec.ofChange fnExactVerticalAtSpec)) fnExactVerticalAtCard

/-- THE TIED CARD OF 'laws.FnExactPeriodOf'. -/
def fnExactPeriodOfCard : Claim7 := { stood := { row := fnExactPeriodOfRow, standIns := [], harness := (true, "a5f358ca27256db233c3edd6ac4b734a77b167e073bb31d3177fde075ef59b47"), looks := false }, kinds := [], alts := [], laidByText := true, laidKinds := [.data], laidTests := true, laidLooks := .later }
def FnExactPeriodOfCardSaid : Prop := Claim7.holds Tryd.pinned (.plain (OpenSpec.ofChange fnExactPeriodOfSpec)) fnExactPeriodOfCard

/-- THE TIED CARD OF 'laws.FnExactGreatestHorizontal'. -/
def fnExactGreatestHorizontalCard : Claim7 := { stood := { row := fnExactGreatestHorizontalRow, standIns := [], harness := (true, "a5f358ca27256db233c3edd6ac4b734a77b167e073bb31d3177fde075ef59b47"), looks := false }, kinds := [], alts := [], laidByText := true, laidKinds := [.data], laidTests := true, laidLooks := .later }
def FnExactGreatestHorizontalCardSaid : Prop := Claim7.holds Tryd.pinned (.plain (OpenSpec.ofChange fnExactGreatestHorizontalSpec)) fnExactGreatestHorizontalCard

/-- THE TIED CARD OF 'laws.FnExactGreatestVertical'. -/
def fnExactGreatestVerticalCard : Claim7 := { stood := { row := fnExactGreatestVerticalRow, standIns := [], harness := (true, "a5f358ca27256db233c3edd6ac4b734a77b167e073bb31d3177fde075ef59b47"), looks := false }, kinds := [], alts := [], laidByText := true, laidKinds := [.data], laidTests := true, laidLooks := .later }
def FnExactGreatestVerticalCardSaid : Prop := Claim7.holds Tryd.pinned (.plain (OpenSpec.ofChange fnExactGreatestVerticalSpec)) fnExactGreatestVerticalCard

/-- THE TIED CARD OF 'laws.FnExactStrokesOf'. -/
def fnExactStrokesOfCard : Claim7 := { stood := { row := fnExactStrokesOfRow, standIns := [], harness := (true, "a5f358ca27256db233c3edd6ac4b734a77b167e073bb31d3177fde075ef59b47"), looks := false }, kinds := [], alts := [], laidByText := true, laidKinds := [.data], laidTests := true, laidLooks := .later }
def FnExactStrokesOfCardSaid : Prop := Claim7.holds Tryd.pinned (.plain (OpenSpec.ofChange fnExactStrokesOfSpec)) fnExactStrokesOfCard

/-- THE SECOND FORM's CARD OF 'laws.FnExactSineOf'. -/
def fnExactSineOfUptoCard : Claim7 := { stood := { row := fnExactSineOfUptoRow, standIns := [], harness := (true, "a5f358ca27256db233c3edd6ac4b734a77b167e073bb31d3177fde075ef59b47"), looks := false }, kinds := [], alts := [], laidByText := true, laidKinds := [.data], laidTests := true, laidLooks := .later }
def FnExactSineOfUptoCardSaid : Prop := Claim7.holds Tryd.pinned (.plain (OpenSpec.upto fnExactSineOfSpec)) fnExactSineOfUptoCard

/-- THE SECOND FORM's CARD OF 'laws.FnExactCosineOf'. -/
def fnExactCosineOfUptoCard : Claim7 := { stood := { row := fnExactCosineOfUptoRow, standIns := [], harness := (true, "a5f358ca27256db233c3edd6ac4b734a77b167e073bb31d3177fde075ef59b47"), looks := false }, kinds := [], alts := [], laidByText := true, laidKinds := [.data], laidTests := true, laidLooks := .later }
def FnExactCosineOfUptoCardSaid : Prop := Claim7.holds Tryd.pinned (.plain (OpenSpec.upto fnExactCosineOfSpec)) fnExactCosineOfUptoCard

/-- THE SECOND FORM's CARD OF 'laws.FnExactHorizontalAt'. -/
def fnExactHorizontalAtUptoCard : Claim7 := { stood := { row := fnExactHorizontalAtUptoRow, standIns := [], harness := (true, "a5f358ca27256db233c3edd6ac4b734a77b167e073bb31d3177fde075ef59b47"), looks := false }, kinds := [], alts := [], laidByText := true, laidKinds := [.data], laidTests := true, laidLooks := .later }
def FnExactHorizontalAtUptoCardSaid : Prop := Claim7.holds Tryd.pinned (.plain (OpenSpec.upto fnExactHorizontalAtSpec)) fnExactHorizontalAtUptoCard

/-- THE SECOND FORM's CARD OF 'laws.FnExactVerticalAt'. -/
def fnExactVerticalAtUptoCard : Claim7 := { stood := { row := fnExactVerticalAtUptoRow, standIns := [], harness := (true, "a5f358ca27256db233c3edd6ac4b734a77b167e073bb31d3177fde075ef59b47"), looks := false }, kinds := [], alts := [], laidByText := true, laidKinds := [.data], laidTests := true, laidLooks := .later }
def FnExactVerticalAtUptoCardSaid : Prop := Claim7.holds Tryd.pinned (.plain (OpenSpec.upto fnExactVerticalAtSpec)) fnExactVerticalAtUptoCard

/-- THE SECOND FORM's CARD OF 'laws.FnExactPeriodOf'. -/
def fnExactPeriodOfUptoCard : Claim7 := { stood := { row := fnExactPeriodOfUptoRow, standIns := [], harness := (true, "a5f358ca27256db233c3edd6ac4b734a77b167e073bb31d3177fde075ef59b47"), looks := false }, kinds := [], alts := [], laidByText := true, laidKinds := [.data], laidTests := true, laidLooks := .later }
def FnExactPeriodOfUptoCardSaid : Prop := Claim7.holds Tryd.pinned (.plain (OpenSpec.upto fnExactPeriodOfSpec)) fnExactPeriodOfUptoCard

/-- THE SECOND FORM's CARD OF 'laws.FnExactGreatestHorizontal'. -/
def fnExactGreatestHorizontalUptoCard : Claim7 := { stood := { row := fnExactGreatestHorizontalUptoRow, standIns := [], harness := (true, "a5f358ca27256db233c3edd6ac4b734a77b167e073bb31d3177fde075ef59b47"), looks := false }, kinds := [], alts := [], laidByText := true, laidKinds := [.data], laidTests := true, laidLooks := .later }
def FnExactGreatestHorizontalUptoCardSaid : Prop := Claim7.holds Tryd.pinned (.plain (OpenSpec.upto fnExactGreatestHorizontalSpec)) fnExactGreatestHorizontalUptoCard

/-- THE SECOND FORM's CARD OF 'laws.FnExactGreatestVertical'. -/
def fnExactGreatestVerticalUptoCard : Claim7 := { stood := { row := fnExactGreatestVerticalUptoRow, standIns := [], harness := (true, "a5f358ca27256db233c3edd6ac4b734a77b167e073bb31d3177fde075ef59b47"), looks := false }, kinds := [], alts := [], laidByText := true, laidKinds := [.data], laidTests := true, laidLooks := .later }
def FnExactGreatestVerticalUptoCardSaid : Prop := Claim7.holds Tryd.pinned (.plain (OpenSpec.upto fnExactGreatestVerticalSpec)) fnExactGreatestVerticalUptoCard

/-- THE SECOND FORM's CARD OF 'laws.FnExactStrokesOf'. -/
def fnExactStrokesOfUptoCard : Claim7 := { stood := { row := fnExactStrokesOfUptoRow, standIns := [], harness := (true, "a5f358ca27256db233c3edd6ac4b734a77b167e073bb31d3177fde075ef59b47"), looks := false }, kinds := [], alts := [], laidByText := true, laidKinds := [.data], laidTests := true, laidLooks := .later }
def FnExactStrokesOfUptoCardSaid : Prop := Claim7.holds Tryd.pinned (.plain (OpenSpec.upto fnExactStrokesOfSpec)) fnExactStrokesOfUptoCard
end Rows
end Go.Proofs.YtjpijpmbocgjfaaDoor
