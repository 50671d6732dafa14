/-
  DERIVED. GIVEN WITH THE SEED: THE CARDS: each row of YtflhkldfhndafaaGreatDoorRows.lean that lists a variable, with what it lists TIED to the program's text (the seventh form; the later family's looks); each row that meets fmt, with fmt's text TOLD by the authors' own Lean function (tested against real Go, not proved from fmt's source: count such statements apart). THE CARD IS WHAT COUNTS. Prove the row's statement (the work); the ties are given (YtflhkldfhndafaaGreatDoorTie.lean); close each card by the builder's one call (the guide's Derived/Test/ToyasCard.lean, 'card_holds'). Laid BY PROGRAM, IN A SANDBOX (cutbox-door.mjs). By AI agents, Wed Nov 11 2026. No macro, syntax, notation, axiom, sorry.
-/
import Derived.Test.YtflhkldfhndafaaGreatDoorRows
import GoSem.ClaimSeven
namespace Go.Proofs.YtflhkldfhndafaaGreatDoor
namespace Rows

/-- THE TIED CARD OF 'laws.FnSwinging'. -/
def fnSwingingCard : Claim7 := { stood := { row := fnSwingingRow, standIns := [], harness := (true, "1712dd30dec43cc3485f9416aa7f653aaed51d0c2161d1b77bf26acdc24b9d86"), looks := true }, kinds := [], alts := [], laidByText := true, laidKinds := [.data, .data, .data, .data, .sentinel, .sentinel, .data, .pinned], laidTests := true, laidLooks := .later }
def FnSwingingCardSaid : Prop := Claim7.holds Tryz.pinned (.plain (OpenSpec.ofChange fnSwingingSpec)) fnSwingingCard

/-- THE SECOND FORM's CARD OF 'laws.FnSwinging'. -/
def fnSwingingUptoCard : Claim7 := { stood := { row := fnSwingingUptoRow, standIns := [], harness := (true, "1712dd30dec43cc3485f9416aa7f653aaed51d0c2161d1b77bf26acdc24b9d86"), looks := true }, kinds := [], alts := [], laidByText := true, laidKinds := [.data, .data, .data, .data, .sentinel, .sentinel, .data, .pinned], laidTests := true, laidLooks := .later }
def FnSwingingUptoCardSaid : Prop := Claim7.holds Tryz.pinned (.plain (OpenSpec.upto fnSwingingSpec)) fnSwingingUptoCard
end Rows
end Go.Proofs.YtflhkldfhndafaaGreatDoor
