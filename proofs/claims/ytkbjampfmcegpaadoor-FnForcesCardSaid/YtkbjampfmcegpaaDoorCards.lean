/-
  DERIVED. GIVEN WITH THE SEED: THE CARDS: each row of YtkbjampfmcegpaaDoorRows.lean that lists a variable, with what it lists TIED to the program's text (the seventh form; the later family's looks); each row that meets fmt, with fmt's text TOLD by the authors' own Lean function (tested against real Go, not proved from fmt's source: count such statements apart). THE CARD IS WHAT COUNTS. Prove the row's statement (the work); the ties are given (YtkbjampfmcegpaaDoorTie.lean); close each card by the builder's one call (the guide's Derived/Test/ToyasCard.lean, 'card_holds'). Laid BY PROGRAM, IN A SANDBOX (cutbox-door.mjs). By AI agents, Wed Nov 11 2026. No macro, syntax, notation, axiom, sorry.
-/
import Derived.Test.YtkbjampfmcegpaaDoorRows
import GoSem.ClaimSeven
namespace Go.Proofs.YtkbjampfmcegpaaDoor
namespace Rows

/-- THE TIED CARD OF 'laws.FnForces'. -/
def fnForcesCard : Claim7 := { stood := { row := fnForcesRow, standIns := [], harness := (true, "8b6b46600632f2c3b6bcec073f38fe7f189517e17d0319aa3afc9d5c6a2e9419"), looks := false }, kinds := [], alts := [], laidByText := true, laidKinds := [.data], laidTests := true, laidLooks := .later }
def FnForcesCardSaid : Prop := Claim7.holds Tryd.pinned (.plain (OpenSpec.ofChange fnForcesSpec)) fnForcesCard

/-- THE SECOND FORM's CARD OF 'laws.FnForces'. -/
def fnForcesUptoCard : Claim7 := { stood := { row := fnForcesUptoRow, standIns := [], harness := (true, "8b6b46600632f2c3b6bcec073f38fe7f189517e17d0319aa3afc9d5c6a2e9419"), looks := false }, kinds := [], alts := [], laidByText := true, laidKinds := [.data], laidTests := true, laidLooks := .later }
def FnForcesUptoCardSaid : Prop := Claim7.holds Tryd.pinned (.plain (OpenSpec.upto fnForcesSpec)) fnForcesUptoCard
end Rows
end Go.Proofs.YtkbjampfmcegpaaDoor
