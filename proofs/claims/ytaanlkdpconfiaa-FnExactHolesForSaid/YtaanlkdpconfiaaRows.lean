/-
  No cell of these rows narrows 'for every input' (looked for: loops, veiled, ifaces, maps, wideKeys, modest, calm, conditions, laid).
  DERIVED. THE GIVEN ROWS OF THIS SEAT. 9 by the template 'for every input the law returns true; each argument reads behind the call as it read before'; 0 by the template 'total and deterministic' (their statements: YtaanlkdpconfiaaTotals.lean).
  GIVEN WITH THE SEED: the statements are not yours to turn. If you find one false, say at which input.
  Laid BY PROGRAM, IN A SANDBOX (cutbox-rows.mjs): the forced cells as the released guide's own fill.sh prints them over the translation d21155907fb0c15e… (all of the seat's roots in one cut). By AI agents, Wed Nov 11 2026. No macro, syntax, notation, axiom, sorry.
-/
import Derived.Test.YtaanlkdpconfiaaChecked
import GoSem.Claim
import GoSem.ClaimJoined
import GoSem.ClaimMapViews
import Derived.JoinedTies
import Derived.KernelRfl
namespace Go.Proofs.Ytaanlkdpconfiaa
/- THE CELL 'sum', in the pinned program and in every row, IS THE sha256 OF THE DUMP (.gsa) THAT YtaanlkdpconfiaaProg.lean LOADS. Nothing in Lean hashes anything: it is a label: what it is worth is what the hold of that sum in a sandbox is worth. -/
noncomputable def Try.pinned : Pinned := { name := "ytaanlkdpconfiaa", sum := "d21155907fb0c15edfe1793eaf5a28ffb235154478d5dede5f32352efbb1817e", checked := Try.checked }
namespace Rows
def none {H : Type} : Left H := { results := [], args := [] }

/-- 'laws.FnExactIsSchedule': WHATEVER THE INPUT: true; the input reads as it did. -/
def fnExactIsScheduleSpec : ChangeSpec := { name := "fnExactIsSchedule", fn := fun _ => fun
  | [d1, d2, d3] => { results := [.lit (.bool true)], args := [d1, d2, d3] }
  | _ => none }
def fnExactIsScheduleRow : OpenClaim := { program := "ytaanlkdpconfiaa", sum := "d21155907fb0c15edfe1793eaf5a28ffb235154478d5dede5f32352efbb1817e", func := "loop.example/g00952/laws.FnExactIsSchedule", spec := "fnExactIsSchedule", unfollowed := true, recurses := true, apart := false }
def FnExactIsScheduleSaid : Prop := fnExactIsScheduleRow.holds Try.pinned (OpenSpec.ofChange fnExactIsScheduleSpec)

/-- ITS FALSE NEIGHBOUR: 'it returns false'. Refute it at one input. -/
def fnExactIsScheduleWrong : ChangeSpec := { name := "fnExactIsSchedule", fn := fun _ => fun
  | [d1, d2, d3] => { results := [.lit (.bool false)], args := [d1, d2, d3] }
  | _ => none }
def FnExactIsScheduleWrongFalsely : Prop := fnExactIsScheduleRow.holds Try.pinned (OpenSpec.ofChange fnExactIsScheduleWrong)

/-- 'laws.FnExactFirstWrong': WHATEVER THE INPUT: true; the input reads as it did. -/
def fnExactFirstWrongSpec : ChangeSpec := { name := "fnExactFirstWrong", fn := fun _ => fun
  | [d1, d2, d3] => { results := [.lit (.bool true)], args := [d1, d2, d3] }
  | _ => none }
def fnExactFirstWrongRow : OpenClaim := { program := "ytaanlkdpconfiaa", sum := "d21155907fb0c15edfe1793eaf5a28ffb235154478d5dede5f32352efbb1817e", func := "loop.example/g00952/laws.FnExactFirstWrong", spec := "fnExactFirstWrong", unfollowed := true, recurses := true, apart := false }
def FnExactFirstWrongSaid : Prop := fnExactFirstWrongRow.holds Try.pinned (OpenSpec.ofChange fnExactFirstWrongSpec)

/-- ITS FALSE NEIGHBOUR: 'it returns false'. Refute it at one input. -/
def fnExactFirstWrongWrong : ChangeSpec := { name := "fnExactFirstWrong", fn := fun _ => fun
  | [d1, d2, d3] => { results := [.lit (.bool false)], args := [d1, d2, d3] }
  | _ => none }
def FnExactFirstWrongWrongFalsely : Prop := fnExactFirstWrongRow.holds Try.pinned (OpenSpec.ofChange fnExactFirstWrongWrong)

/-- 'laws.FnExactFreeFrom': WHATEVER THE INPUT: true; the input reads as it did. -/
def fnExactFreeFromSpec : ChangeSpec := { name := "fnExactFreeFrom", fn := fun _ => fun
  | [d1, d2, d3, d4, d5] => { results := [.lit (.bool true)], args := [d1, d2, d3, d4, d5] }
  | _ => none }
def fnExactFreeFromRow : OpenClaim := { program := "ytaanlkdpconfiaa", sum := "d21155907fb0c15edfe1793eaf5a28ffb235154478d5dede5f32352efbb1817e", func := "loop.example/g00952/laws.FnExactFreeFrom", spec := "fnExactFreeFrom", apart := false }
def FnExactFreeFromSaid : Prop := fnExactFreeFromRow.holds Try.pinned (OpenSpec.ofChange fnExactFreeFromSpec)

/-- ITS FALSE NEIGHBOUR: 'it returns false'. Refute it at one input. -/
def fnExactFreeFromWrong : ChangeSpec := { name := "fnExactFreeFrom", fn := fun _ => fun
  | [d1, d2, d3, d4, d5] => { results := [.lit (.bool false)], args := [d1, d2, d3, d4, d5] }
  | _ => none }
def FnExactFreeFromWrongFalsely : Prop := fnExactFreeFromRow.holds Try.pinned (OpenSpec.ofChange fnExactFreeFromWrong)

/-- 'laws.FnExactGreedyHeats': WHATEVER THE INPUT: true; the input reads as it did. -/
def fnExactGreedyHeatsSpec : ChangeSpec := { name := "fnExactGreedyHeats", fn := fun _ => fun
  | [d1, d2] => { results := [.lit (.bool true)], args := [d1, d2] }
  | _ => none }
def fnExactGreedyHeatsRow : OpenClaim := { program := "ytaanlkdpconfiaa", sum := "d21155907fb0c15edfe1793eaf5a28ffb235154478d5dede5f32352efbb1817e", func := "loop.example/g00952/laws.FnExactGreedyHeats", spec := "fnExactGreedyHeats", unfollowed := true, recurses := true, apart := false }
def FnExactGreedyHeatsSaid : Prop := fnExactGreedyHeatsRow.holds Try.pinned (OpenSpec.ofChange fnExactGreedyHeatsSpec)

/-- ITS FALSE NEIGHBOUR: 'it returns false'. Refute it at one input. -/
def fnExactGreedyHeatsWrong : ChangeSpec := { name := "fnExactGreedyHeats", fn := fun _ => fun
  | [d1, d2] => { results := [.lit (.bool false)], args := [d1, d2] }
  | _ => none }
def FnExactGreedyHeatsWrongFalsely : Prop := fnExactGreedyHeatsRow.holds Try.pinned (OpenSpec.ofChange fnExactGreedyHeatsWrong)

/-- 'laws.FnExactPlaceMoulds': WHATEVER THE INPUT: true; the input reads as it did. -/
def fnExactPlaceMouldsSpec : ChangeSpec := { name := "fnExactPlaceMoulds", fn := fun _ => fun
  | [d1, d2, d3] => { results := [.lit (.bool true)], args := [d1, d2, d3] }
  | _ => none }
def fnExactPlaceMouldsRow : OpenClaim := { program := "ytaanlkdpconfiaa", sum := "d21155907fb0c15edfe1793eaf5a28ffb235154478d5dede5f32352efbb1817e", func := "loop.example/g00952/laws.FnExactPlaceMoulds", spec := "fnExactPlaceMoulds", unfollowed := true, recurses := true, apart := false }
def FnExactPlaceMouldsSaid : Prop := fnExactPlaceMouldsRow.holds Try.pinned (OpenSpec.ofChange fnExactPlaceMouldsSpec)

/-- ITS FALSE NEIGHBOUR: 'it returns false'. Refute it at one input. -/
def fnExactPlaceMouldsWrong : ChangeSpec := { name := "fnExactPlaceMoulds", fn := fun _ => fun
  | [d1, d2, d3] => { results := [.lit (.bool false)], args := [d1, d2, d3] }
  | _ => none }
def FnExactPlaceMouldsWrongFalsely : Prop := fnExactPlaceMouldsRow.holds Try.pinned (OpenSpec.ofChange fnExactPlaceMouldsWrong)

/-- 'laws.FnExactCastFrom': WHATEVER THE INPUT: true; the input reads as it did. -/
def fnExactCastFromSpec : ChangeSpec := { name := "fnExactCastFrom", fn := fun _ => fun
  | [d1, d2] => { results := [.lit (.bool true)], args := [d1, d2] }
  | _ => none }
def fnExactCastFromRow : OpenClaim := { program := "ytaanlkdpconfiaa", sum := "d21155907fb0c15edfe1793eaf5a28ffb235154478d5dede5f32352efbb1817e", func := "loop.example/g00952/laws.FnExactCastFrom", spec := "fnExactCastFrom", unfollowed := true, recurses := true, apart := false }
def FnExactCastFromSaid : Prop := fnExactCastFromRow.holds Try.pinned (OpenSpec.ofChange fnExactCastFromSpec)

/-- ITS FALSE NEIGHBOUR: 'it returns false'. Refute it at one input. -/
def fnExactCastFromWrong : ChangeSpec := { name := "fnExactCastFrom", fn := fun _ => fun
  | [d1, d2] => { results := [.lit (.bool false)], args := [d1, d2] }
  | _ => none }
def FnExactCastFromWrongFalsely : Prop := fnExactCastFromRow.holds Try.pinned (OpenSpec.ofChange fnExactCastFromWrong)

/-- 'laws.FnExactMouldFor': WHATEVER THE INPUT: true; the input reads as it did. -/
def fnExactMouldForSpec : ChangeSpec := { name := "fnExactMouldFor", fn := fun _ => fun
  | [d1, d2] => { results := [.lit (.bool true)], args := [d1, d2] }
  | _ => none }
def fnExactMouldForRow : OpenClaim := { program := "ytaanlkdpconfiaa", sum := "d21155907fb0c15edfe1793eaf5a28ffb235154478d5dede5f32352efbb1817e", func := "loop.example/g00952/laws.FnExactMouldFor", spec := "fnExactMouldFor", unfollowed := true, recurses := true, apart := false }
def FnExactMouldForSaid : Prop := fnExactMouldForRow.holds Try.pinned (OpenSpec.ofChange fnExactMouldForSpec)

/-- ITS FALSE NEIGHBOUR: 'it returns false'. Refute it at one input. -/
def fnExactMouldForWrong : ChangeSpec := { name := "fnExactMouldFor", fn := fun _ => fun
  | [d1, d2] => { results := [.lit (.bool false)], args := [d1, d2] }
  | _ => none }
def FnExactMouldForWrongFalsely : Prop := fnExactMouldForRow.holds Try.pinned (OpenSpec.ofChange fnExactMouldForWrong)

/-- 'laws.FnExactCastError': WHATEVER THE INPUT: true; the input reads as it did. -/
def fnExactCastErrorSpec : ChangeSpec := { name := "fnExactCastError", fn := fun _ => fun
  | [d1, d2] => { results := [.lit (.bool true)], args := [d1, d2] }
  | _ => none }
def fnExactCastErrorRow : OpenClaim := { program := "ytaanlkdpconfiaa", sum := "d21155907fb0c15edfe1793eaf5a28ffb235154478d5dede5f32352efbb1817e", func := "loop.example/g00952/laws.FnExactCastError", spec := "fnExactCastError", unfollowed := true, recurses := true, apart := false }
def FnExactCastErrorSaid : Prop := fnExactCastErrorRow.holds Try.pinned (OpenSpec.ofChange fnExactCastErrorSpec)

/-- ITS FALSE NEIGHBOUR: 'it returns false'. Refute it at one input. -/
def fnExactCastErrorWrong : ChangeSpec := { name := "fnExactCastError", fn := fun _ => fun
  | [d1, d2] => { results := [.lit (.bool false)], args := [d1, d2] }
  | _ => none }
def FnExactCastErrorWrongFalsely : Prop := fnExactCastErrorRow.holds Try.pinned (OpenSpec.ofChange fnExactCastErrorWrong)

/-- 'laws.FnExactHolesFor': WHATEVER THE INPUT: true; the input reads as it did. -/
def fnExactHolesForSpec : ChangeSpec := { name := "fnExactHolesFor", fn := fun _ => fun
  | [d1, d2, d3] => { results := [.lit (.bool true)], args := [d1, d2, d3] }
  | _ => none }
def fnExactHolesForRow : OpenClaim := { program := "ytaanlkdpconfiaa", sum := "d21155907fb0c15edfe1793eaf5a28ffb235154478d5dede5f32352efbb1817e", func := "loop.example/g00952/laws.FnExactHolesFor", spec := "fnExactHolesFor", unfollowed := true, recurses := true, apart := false }
def FnExactHolesForSaid : Prop := fnExactHolesForRow.holds Try.pinned (OpenSpec.ofChange fnExactHolesForSpec)

/-- ITS FALSE NEIGHBOUR: 'it returns false'. Refute it at one input. -/
def fnExactHolesForWrong : ChangeSpec := { name := "fnExactHolesFor", fn := fun _ => fun
  | [d1, d2, d3] => { results := [.lit (.bool false)], args := [d1, d2, d3] }
  | _ => none }
def FnExactHolesForWrongFalsely : Prop := fnExactHolesForRow.holds Try.pinned (OpenSpec.ofChange fnExactHolesForWrong)

/- THE SECOND FORM. 'bulk': how many values and letters a reading holds, each counted each time it is reached (what is shared counts as often as it is met; a slice's spare places count too). A statement '..UptoSaid' is the law's where the arguments, and the package variables that the reading takes, are together of bulk at most 1048576: NARROWER than '..Said'. Prove '..Said' where nothing that the law and all that it calls make is longer than what came in: it says more and counts as full. Else prove '..UptoSaid'. A law counts once. -/
mutual
def uptoBulk {H : Type} : DataW H → Nat
  | .lit (.string bytes) => bytes.length + 1
  | .lit _ => 1
  | .nil => 1
  | .ptr d => uptoBulk d + 1
  | .slice elems spare => uptoBulkAll elems + uptoBulkAll spare + 1
  | .agg parts => uptoBulkAll parts + 1
  | .iface _ d => uptoBulk d + 1
  | .map entries => uptoBulkEntries entries + 1
  | .held _ => 1
def uptoBulkAll {H : Type} : List (DataW H) → Nat
  | [] => 0
  | d :: r => uptoBulk d + uptoBulkAll r
def uptoBulkEntries {H : Type} : List (Lit × DataW H) → Nat
  | [] => 0
  | x :: r => uptoBulkEntry x + uptoBulkEntries r
def uptoBulkEntry {H : Type} : Lit × DataW H → Nat
  | (.string bytes, d) => bytes.length + uptoBulk d + 1
  | (_, d) => uptoBulk d + 1
 end
def uptoSmall : (H : Type) → List (DataW H) → Bool := fun _ ds => decide (uptoBulkAll ds ≤ 1048576)
def OpenSpec.upto (s : _root_.Go.ChangeSpec) : _root_.Go.OpenSpec := { _root_.Go.OpenSpec.ofChange s with cond := some uptoSmall }

/-- 'laws.FnExactIsSchedule', WHERE WHAT IT READS IS OF BULK AT MOST 1048576: true; the input reads as it did. -/
def fnExactIsScheduleUptoRow : OpenClaim := { program := "ytaanlkdpconfiaa", sum := "d21155907fb0c15edfe1793eaf5a28ffb235154478d5dede5f32352efbb1817e", func := "loop.example/g00952/laws.FnExactIsSchedule", spec := "fnExactIsSchedule", unfollowed := true, recurses := true, apart := false, narrowed := true }
def FnExactIsScheduleUptoSaid : Prop := fnExactIsScheduleUptoRow.holds Try.pinned (OpenSpec.upto fnExactIsScheduleSpec)

/-- 'laws.FnExactFirstWrong', WHERE WHAT IT READS IS OF BULK AT MOST 1048576: true; the input reads as it did. -/
def fnExactFirstWrongUptoRow : OpenClaim := { program := "ytaanlkdpconfiaa", sum := "d21155907fb0c15edfe1793eaf5a28ffb235154478d5dede5f32352efbb1817e", func := "loop.example/g00952/laws.FnExactFirstWrong", spec := "fnExactFirstWrong", unfollowed := true, recurses := true, apart := false, narrowed := true }
def FnExactFirstWrongUptoSaid : Prop := fnExactFirstWrongUptoRow.holds Try.pinned (OpenSpec.upto fnExactFirstWrongSpec)

/-- 'laws.FnExactFreeFrom', WHERE WHAT IT READS IS OF BULK AT MOST 1048576: true; the input reads as it did. -/
def fnExactFreeFromUptoRow : OpenClaim := { program := "ytaanlkdpconfiaa", sum := "d21155907fb0c15edfe1793eaf5a28ffb235154478d5dede5f32352efbb1817e", func := "loop.example/g00952/laws.FnExactFreeFrom", spec := "fnExactFreeFrom", apart := false, narrowed := true }
def FnExactFreeFromUptoSaid : Prop := fnExactFreeFromUptoRow.holds Try.pinned (OpenSpec.upto fnExactFreeFromSpec)

/-- 'laws.FnExactGreedyHeats', WHERE WHAT IT READS IS OF BULK AT MOST 1048576: true; the input reads as it did. -/
def fnExactGreedyHeatsUptoRow : OpenClaim := { program := "ytaanlkdpconfiaa", sum := "d21155907fb0c15edfe1793eaf5a28ffb235154478d5dede5f32352efbb1817e", func := "loop.example/g00952/laws.FnExactGreedyHeats", spec := "fnExactGreedyHeats", unfollowed := true, recurses := true, apart := false, narrowed := true }
def FnExactGreedyHeatsUptoSaid : Prop := fnExactGreedyHeatsUptoRow.holds Try.pinned (OpenSpec.upto fnExactGreedyHeatsSpec)

/-- 'laws.FnExactPlaceMoulds', WHERE WHAT IT READS IS OF BULK AT MOST 1048576: true; the input reads as it did. -/
def fnExactPlaceMouldsUptoRow : OpenClaim := { program := "ytaanlkdpconfiaa", sum := "d21155907fb0c15edfe1793eaf5a28ffb235154478d5dede5f32352efbb1817e", func := "loop.example/g00952/laws.FnExactPlaceMoulds", spec := "fnExactPlaceMoulds", unfollowed := true, recurses := true, apart := false, narrowed := true }
def FnExactPlaceMouldsUptoSaid : Prop := fnExactPlaceMouldsUptoRow.holds Try.pinned (OpenSpec.upto fnExactPlaceMouldsSpec)

/-- 'laws.FnExactCastFrom', WHERE WHAT IT READS IS OF BULK AT MOST 1048576: true; the input reads as it did. -/
def fnExactCastFromUptoRow : OpenClaim := { program := "ytaanlkdpconfiaa", sum := "d21155907fb0c15edfe1793eaf5a28ffb235154478d5dede5f32352efbb1817e", func := "loop.example/g00952/laws.FnExactCastFrom", spec := "fnExactCastFrom", unfollowed := true, recurses := true, apart := false, narrowed := true }
def FnExactCastFromUptoSaid : Prop := fnExactCastFromUptoRow.holds Try.pinned (OpenSpec.upto fnExactCastFromSpec)

/-- 'laws.FnExactMouldFor', WHERE WHAT IT READS IS OF BULK AT MOST 1048576: true; the input reads as it did. -/
def fnExactMouldForUptoRow : OpenClaim := { program := "ytaanlkdpconfiaa", sum := "d21155907fb0c15edfe1793eaf5a28ffb235154478d5dede5f32352efbb1817e", func := "loop.example/g00952/laws.FnExactMouldFor", spec := "fnExactMouldFor", unfollowed := true, recurses := true, apart := false, narrowed := true }
def FnExactMouldForUptoSaid : Prop := fnExactMouldForUptoRow.holds Try.pinned (OpenSpec.upto fnExactMouldForSpec)

/-- 'laws.FnExactCastError', WHERE WHAT IT READS IS OF BULK AT MOST 1048576: true; the input reads as it did. -/
def fnExactCastErrorUptoRow : OpenClaim := { program := "ytaanlkdpconfiaa", sum := "d21155907fb0c15edfe1793eaf5a28ffb235154478d5dede5f32352efbb1817e", func := "loop.example/g00952/laws.FnExactCastError", spec := "fnExactCastError", unfollowed := true, recurses := true, apart := false, narrowed := true }
def FnExactCastErrorUptoSaid : Prop := fnExactCastErrorUptoRow.holds Try.pinned (OpenSpec.upto fnExactCastErrorSpec)

/-- 'laws.FnExactHolesFor', WHERE WHAT IT READS IS OF BULK AT MOST 1048576: true; the input reads as it did. -/
def fnExactHolesForUptoRow : OpenClaim := { program := "ytaanlkdpconfiaa", sum := "d21155907fb0c15edfe1793eaf5a28ffb235154478d5dede5f32352efbb1817e", func := "loop.example/g00952/laws.FnExactHolesFor", spec := "fnExactHolesFor", unfollowed := true, recurses := true, apart := false, narrowed := true }
def FnExactHolesForUptoSaid : Prop := fnExactHolesForUptoRow.holds Try.pinned (OpenSpec.upto fnExactHolesForSpec)

end Rows
end Go.Proofs.Ytaanlkdpconfiaa
