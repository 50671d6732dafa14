/-
  DERIVED. GIVEN WITH THE SEED: THE CARDS: each row of YticnpibkpfpojaaGreatDoorRows.lean that lists a variable, with what it lists TIED to the program's text (the seventh form; the later family's looks); each row that meets fmt, with fmt's text TOLD by the authors' own Lean function (tested against real Go, not proved from fmt's source: count such statements apart). THE CARD IS WHAT COUNTS. Prove the row's statement (the work); the ties are given (YticnpibkpfpojaaGreatDoorTie.lean); close each card by the builder's one call (the guide's Derived/Test/ToyasCard.lean, 'card_holds'). Laid BY PROGRAM, IN A SANDBOX (cutbox-door.mjs). By AI agents, Wed Nov 11 2026. No macro, syntax, notation, axiom, sorry.
-/
import Derived.Test.YticnpibkpfpojaaGreatDoorRows
import GoSem.ClaimSeven
namespace Go.Proofs.YticnpibkpfpojaaGreatDoor
namespace Rows

/-- THE TIED CARD OF 'laws.FnTraces'. -/
def fnTracesCard : Claim7 := { stood := { row := fnTracesRow, standIns := [], harness := (true, "5c7c8705467bd5868b8107b04daa0aa7f562f1841b6e93644dfd23a95b09f441"), looks := true }, kinds := [], alts := [], laidByText := true, laidKinds := [.data, .data, .data, .data, .sentinel, .sentinel, .pinned], laidTests := true, laidLooks := .later }
def FnTracesCardSaid : Prop := Claim7.holds Tryz.pinned (.plain (OpenSpec.ofChange fnTracesSpec)) fnTracesCard

/-- THE SECOND FORM's CARD OF 'laws.FnTraces'. -/
def fnTracesUptoCard : Claim7 := { stood := { row := fnTracesUptoRow, standIns := [], harness := (true, "5c7c8705467bd5868b8107b04daa0aa7f562f1841b6e93644dfd23a95b09f441"), looks := true }, kinds := [], alts := [], laidByText := true, laidKinds := [.data, .data, .data, .data, .sentinel, .sentinel, .pinned], laidTests := true, laidLooks := .later }
def FnTracesUptoCardSaid : Prop := Claim7.holds Tryz.pinned (.plain (OpenSpec.upto fnTracesSpec)) fnTracesUptoCard
end Rows
end Go.Proofs.YticnpibkpfpojaaGreatDoor
