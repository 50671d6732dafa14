/-
  DERIVED. GIVEN WITH THE SEED: THE CARDS: each row of YtflhkldfhndafaaDoorRows.lean that lists a variable, with what it lists TIED to the program's text (the seventh form; the later family's looks); each row that meets fmt, with fmt's text TOLD by the authors' own Lean function (tested against real Go, not proved from fmt's source: count such statements apart). THE CARD IS WHAT COUNTS. Prove the row's statement (the work); the ties are given (YtflhkldfhndafaaDoorTie.lean); close each card by the builder's one call (the guide's Derived/Test/ToyasCard.lean, 'card_holds'). Laid BY PROGRAM, IN A SANDBOX (cutbox-door.mjs). By AI agents, Wed Nov 11 2026. No macro, syntax, notation, axiom, sorry.
-/
import Derived.Test.YtflhkldfhndafaaDoorRows
import GoSem.ClaimSeven
namespace Go.Proofs.YtflhkldfhndafaaDoor
namespace Rows

/-- THE TIED CARD OF 'laws.FnExactReadHole'. -/
def fnExactReadHoleCard : Claim7 := { stood := { row := fnExactReadHoleRow, standIns := [], harness := (true, "0e01fc53147daa62bbb1dec157d1b2252bc43a90cbd6c6eb14d5f248cba92a96"), looks := true }, kinds := [], alts := [], laidByText := true, laidKinds := [.data, .data, .data, .sentinel, .sentinel], laidTests := true, laidLooks := .later }
def FnExactReadHoleCardSaid : Prop := Claim7.holds Tryd.pinned (.plain (OpenSpec.ofChange fnExactReadHoleSpec)) fnExactReadHoleCard

/-- THE TIED CARD OF 'laws.FnExactReadPour'. -/
def fnExactReadPourCard : Claim7 := { stood := { row := fnExactReadPourRow, standIns := [], harness := (true, "0e01fc53147daa62bbb1dec157d1b2252bc43a90cbd6c6eb14d5f248cba92a96"), looks := true }, kinds := [], alts := [], laidByText := true, laidKinds := [.data, .data, .data, .data, .sentinel, .sentinel, .pinned], laidTests := true, laidLooks := .later }
def FnExactReadPourCardSaid : Prop := Claim7.holds Tryd.pinned (.plain (OpenSpec.ofChange fnExactReadPourSpec)) fnExactReadPourCard

/-- THE TIED CARD OF 'laws.FnExactReadHung'. -/
def fnExactReadHungCard : Claim7 := { stood := { row := fnExactReadHungRow, standIns := [], harness := (true, "0e01fc53147daa62bbb1dec157d1b2252bc43a90cbd6c6eb14d5f248cba92a96"), looks := true }, kinds := [], alts := [], laidByText := true, laidKinds := [.data, .data, .data, .data, .sentinel, .sentinel, .pinned], laidTests := true, laidLooks := .later }
def FnExactReadHungCardSaid : Prop := Claim7.holds Tryd.pinned (.plain (OpenSpec.ofChange fnExactReadHungSpec)) fnExactReadHungCard

/-- THE TIED CARD OF 'laws.FnExactReadCasting'. -/
def fnExactReadCastingCard : Claim7 := { stood := { row := fnExactReadCastingRow, standIns := [], harness := (true, "0e01fc53147daa62bbb1dec157d1b2252bc43a90cbd6c6eb14d5f248cba92a96"), looks := true }, kinds := [], alts := [], laidByText := true, laidKinds := [.data, .data, .data, .data, .sentinel, .sentinel, .pinned], laidTests := true, laidLooks := .later }
def FnExactReadCastingCardSaid : Prop := Claim7.holds Tryd.pinned (.plain (OpenSpec.ofChange fnExactReadCastingSpec)) fnExactReadCastingCard

/-- THE TIED CARD OF 'laws.FnExactReadBell'. -/
def fnExactReadBellCard : Claim7 := { stood := { row := fnExactReadBellRow, standIns := [], harness := (true, "0e01fc53147daa62bbb1dec157d1b2252bc43a90cbd6c6eb14d5f248cba92a96"), looks := true }, kinds := [], alts := [], laidByText := true, laidKinds := [.data, .data, .data, .data, .sentinel, .sentinel, .pinned], laidTests := true, laidLooks := .later }
def FnExactReadBellCardSaid : Prop := Claim7.holds Tryd.pinned (.plain (OpenSpec.ofChange fnExactReadBellSpec)) fnExactReadBellCard

/-- THE SECOND FORM's CARD OF 'laws.FnExactReadHole'. -/
def fnExactReadHoleUptoCard : Claim7 := { stood := { row := fnExactReadHoleUptoRow, standIns := [], harness := (true, "0e01fc53147daa62bbb1dec157d1b2252bc43a90cbd6c6eb14d5f248cba92a96"), looks := true }, kinds := [], alts := [], laidByText := true, laidKinds := [.data, .data, .data, .sentinel, .sentinel], laidTests := true, laidLooks := .later }
def FnExactReadHoleUptoCardSaid : Prop := Claim7.holds Tryd.pinned (.plain (OpenSpec.upto fnExactReadHoleSpec)) fnExactReadHoleUptoCard

/-- THE SECOND FORM's CARD OF 'laws.FnExactReadPour'. -/
def fnExactReadPourUptoCard : Claim7 := { stood := { row := fnExactReadPourUptoRow, standIns := [], harness := (true, "0e01fc53147daa62bbb1dec157d1b2252bc43a90cbd6c6eb14d5f248cba92a96"), looks := true }, kinds := [], alts := [], laidByText := true, laidKinds := [.data, .data, .data, .data, .sentinel, .sentinel, .pinned], laidTests := true, laidLooks := .later }
def FnExactReadPourUptoCardSaid : Prop := Claim7.holds Tryd.pinned (.plain (OpenSpec.upto fnExactReadPourSpec)) fnExactReadPourUptoCard

/-- THE SECOND FORM's CARD OF 'laws.FnExactReadHung'. -/
def fnExactReadHungUptoCard : Claim7 := { stood := { row := fnExactReadHungUptoRow, standIns := [], harness := (true, "0e01fc53147daa62bbb1dec157d1b2252bc43a90cbd6c6eb14d5f248cba92a96"), looks := true }, kinds := [], alts := [], laidByText := true, laidKinds := [.data, .data, .data, .data, .sentinel, .sentinel, .pinned], laidTests := true, laidLooks := .later }
def FnExactReadHungUptoCardSaid : Prop := Claim7.holds Tryd.pinned (.plain (OpenSpec.upto fnExactReadHungSpec)) fnExactReadHungUptoCard

/-- THE SECOND FORM's CARD OF 'laws.FnExactReadCasting'. -/
def fnExactReadCastingUptoCard : Claim7 := { stood := { row := fnExactReadCastingUptoRow, standIns := [], harness := (true, "0e01fc53147daa62bbb1dec157d1b2252bc43a90cbd6c6eb14d5f248cba92a96"), looks := true }, kinds := [], alts := [], laidByText := true, laidKinds := [.data, .data, .data, .data, .sentinel, .sentinel, .pinned], laidTests := true, laidLooks := .later }
def FnExactReadCastingUptoCardSaid : Prop := Claim7.holds Tryd.pinned (.plain (OpenSpec.upto fnExactReadCastingSpec)) fnExactReadCastingUptoCard

/-- THE SECOND FORM's CARD OF 'laws.FnExactReadBell'. -/
def fnExactReadBellUptoCard : Claim7 := { stood := { row := fnExactReadBellUptoRow, standIns := [], harness := (true, "0e01fc53147daa62bbb1dec157d1b2252bc43a90cbd6c6eb14d5f248cba92a96"), looks := true }, kinds := [], alts := [], laidByText := true, laidKinds := [.data, .data, .data, .data, .sentinel, .sentinel, .pinned], laidTests := true, laidLooks := .later }
def FnExactReadBellUptoCardSaid : Prop := Claim7.holds Tryd.pinned (.plain (OpenSpec.upto fnExactReadBellSpec)) fnExactReadBellUptoCard
end Rows
end Go.Proofs.YtflhkldfhndafaaDoor
