/-
  No cell of these rows narrows 'for every input' (looked for: loops, veiled, ifaces, maps, wideKeys, modest, calm, conditions, laid).
  DERIVED. THE GIVEN ROWS OF THIS SEAT. 12 by the template 'for every input the law returns true; each argument reads behind the call as it read before'; 0 by the template 'total and deterministic' (their statements: YtgifojplglgcpaaTotals.lean).
  GIVEN WITH THE SEED: the statements are not yours to turn. If you find one false, say at which input.
  Laid BY PROGRAM, IN A SANDBOX (cutbox-rows.mjs): the forced cells as the released guide's own fill.sh prints them over the translation 52cf0da09a7a5f41… (all of the seat's roots in one cut). By AI agents, Wed Nov 11 2026. No macro, syntax, notation, axiom, sorry.
-/
import Derived.Test.YtgifojplglgcpaaChecked
import GoSem.Claim
import GoSem.ClaimJoined
import GoSem.ClaimMapViews
import Derived.JoinedTies
import Derived.KernelRfl
namespace Go.Proofs.Ytgifojplglgcpaa
/- THE CELL 'sum', in the pinned program and in every row, IS THE sha256 OF THE DUMP (.gsa) THAT YtgifojplglgcpaaProg.lean LOADS. Nothing in Lean hashes anything: it is a label: what it is worth is what the hold of that sum in a sandbox is worth. -/
noncomputable def Try.pinned : Pinned := { name := "ytgifojplglgcpaa", sum := "52cf0da09a7a5f4198c9c11f67e1b8bc7db0c59dce910725cd13114af94a6c75", checked := Try.checked }
namespace Rows
def none {H : Type} : Left H := { results := [], args := [] }

/-- 'laws.FnExactValidBays': WHATEVER THE INPUT: true; the input reads as it did. -/
def fnExactValidBaysSpec : ChangeSpec := { name := "fnExactValidBays", fn := fun _ => fun
  | [d] => { results := [.lit (.bool true)], args := [d] }
  | _ => none }
def fnExactValidBaysRow : OpenClaim := { program := "ytgifojplglgcpaa", sum := "52cf0da09a7a5f4198c9c11f67e1b8bc7db0c59dce910725cd13114af94a6c75", func := "loop.example/g00952/laws.FnExactValidBays", spec := "fnExactValidBays", apart := false }
def FnExactValidBaysSaid : Prop := fnExactValidBaysRow.holds Try.pinned (OpenSpec.ofChange fnExactValidBaysSpec)

/-- ITS FALSE NEIGHBOUR: 'it returns false'. Refute it at one input. -/
def fnExactValidBaysWrong : ChangeSpec := { name := "fnExactValidBays", fn := fun _ => fun
  | [d] => { results := [.lit (.bool false)], args := [d] }
  | _ => none }
def FnExactValidBaysWrongFalsely : Prop := fnExactValidBaysRow.holds Try.pinned (OpenSpec.ofChange fnExactValidBaysWrong)

/-- 'laws.FnExactValidCastings': WHATEVER THE INPUT: true; the input reads as it did. -/
def fnExactValidCastingsSpec : ChangeSpec := { name := "fnExactValidCastings", fn := fun _ => fun
  | [d] => { results := [.lit (.bool true)], args := [d] }
  | _ => none }
def fnExactValidCastingsRow : OpenClaim := { program := "ytgifojplglgcpaa", sum := "52cf0da09a7a5f4198c9c11f67e1b8bc7db0c59dce910725cd13114af94a6c75", func := "loop.example/g00952/laws.FnExactValidCastings", spec := "fnExactValidCastings", apart := false }
def FnExactValidCastingsSaid : Prop := fnExactValidCastingsRow.holds Try.pinned (OpenSpec.ofChange fnExactValidCastingsSpec)

/-- ITS FALSE NEIGHBOUR: 'it returns false'. Refute it at one input. -/
def fnExactValidCastingsWrong : ChangeSpec := { name := "fnExactValidCastings", fn := fun _ => fun
  | [d] => { results := [.lit (.bool false)], args := [d] }
  | _ => none }
def FnExactValidCastingsWrongFalsely : Prop := fnExactValidCastingsRow.holds Try.pinned (OpenSpec.ofChange fnExactValidCastingsWrong)

/-- 'laws.FnExactCheckBays': WHATEVER THE INPUT: true; the input reads as it did. -/
def fnExactCheckBaysSpec : ChangeSpec := { name := "fnExactCheckBays", fn := fun _ => fun
  | [d1, d2, d3] => { results := [.lit (.bool true)], args := [d1, d2, d3] }
  | _ => none }
def fnExactCheckBaysRow : OpenClaim := { program := "ytgifojplglgcpaa", sum := "52cf0da09a7a5f4198c9c11f67e1b8bc7db0c59dce910725cd13114af94a6c75", func := "loop.example/g00952/laws.FnExactCheckBays", spec := "fnExactCheckBays", apart := false }
def FnExactCheckBaysSaid : Prop := fnExactCheckBaysRow.holds Try.pinned (OpenSpec.ofChange fnExactCheckBaysSpec)

/-- ITS FALSE NEIGHBOUR: 'it returns false'. Refute it at one input. -/
def fnExactCheckBaysWrong : ChangeSpec := { name := "fnExactCheckBays", fn := fun _ => fun
  | [d1, d2, d3] => { results := [.lit (.bool false)], args := [d1, d2, d3] }
  | _ => none }
def FnExactCheckBaysWrongFalsely : Prop := fnExactCheckBaysRow.holds Try.pinned (OpenSpec.ofChange fnExactCheckBaysWrong)

/-- 'laws.FnExactFreeFrom': WHATEVER THE INPUT: true; the input reads as it did. -/
def fnExactFreeFromSpec : ChangeSpec := { name := "fnExactFreeFrom", fn := fun _ => fun
  | [d1, d2, d3, d4, d5] => { results := [.lit (.bool true)], args := [d1, d2, d3, d4, d5] }
  | _ => none }
def fnExactFreeFromRow : OpenClaim := { program := "ytgifojplglgcpaa", sum := "52cf0da09a7a5f4198c9c11f67e1b8bc7db0c59dce910725cd13114af94a6c75", func := "loop.example/g00952/laws.FnExactFreeFrom", spec := "fnExactFreeFrom", apart := false }
def FnExactFreeFromSaid : Prop := fnExactFreeFromRow.holds Try.pinned (OpenSpec.ofChange fnExactFreeFromSpec)

/-- ITS FALSE NEIGHBOUR: 'it returns false'. Refute it at one input. -/
def fnExactFreeFromWrong : ChangeSpec := { name := "fnExactFreeFrom", fn := fun _ => fun
  | [d1, d2, d3, d4, d5] => { results := [.lit (.bool false)], args := [d1, d2, d3, d4, d5] }
  | _ => none }
def FnExactFreeFromWrongFalsely : Prop := fnExactFreeFromRow.holds Try.pinned (OpenSpec.ofChange fnExactFreeFromWrong)

/-- 'laws.FnExactValidCrucibles': WHATEVER THE INPUT: true; the input reads as it did. -/
def fnExactValidCruciblesSpec : ChangeSpec := { name := "fnExactValidCrucibles", fn := fun _ => fun
  | [d] => { results := [.lit (.bool true)], args := [d] }
  | _ => none }
def fnExactValidCruciblesRow : OpenClaim := { program := "ytgifojplglgcpaa", sum := "52cf0da09a7a5f4198c9c11f67e1b8bc7db0c59dce910725cd13114af94a6c75", func := "loop.example/g00952/laws.FnExactValidCrucibles", spec := "fnExactValidCrucibles", apart := false }
def FnExactValidCruciblesSaid : Prop := fnExactValidCruciblesRow.holds Try.pinned (OpenSpec.ofChange fnExactValidCruciblesSpec)

/-- ITS FALSE NEIGHBOUR: 'it returns false'. Refute it at one input. -/
def fnExactValidCruciblesWrong : ChangeSpec := { name := "fnExactValidCrucibles", fn := fun _ => fun
  | [d] => { results := [.lit (.bool false)], args := [d] }
  | _ => none }
def FnExactValidCruciblesWrongFalsely : Prop := fnExactValidCruciblesRow.holds Try.pinned (OpenSpec.ofChange fnExactValidCruciblesWrong)

/-- 'laws.FnExactValidPours': WHATEVER THE INPUT: true; the input reads as it did. -/
def fnExactValidPoursSpec : ChangeSpec := { name := "fnExactValidPours", fn := fun _ => fun
  | [d] => { results := [.lit (.bool true)], args := [d] }
  | _ => none }
def fnExactValidPoursRow : OpenClaim := { program := "ytgifojplglgcpaa", sum := "52cf0da09a7a5f4198c9c11f67e1b8bc7db0c59dce910725cd13114af94a6c75", func := "loop.example/g00952/laws.FnExactValidPours", spec := "fnExactValidPours", apart := false }
def FnExactValidPoursSaid : Prop := fnExactValidPoursRow.holds Try.pinned (OpenSpec.ofChange fnExactValidPoursSpec)

/-- ITS FALSE NEIGHBOUR: 'it returns false'. Refute it at one input. -/
def fnExactValidPoursWrong : ChangeSpec := { name := "fnExactValidPours", fn := fun _ => fun
  | [d] => { results := [.lit (.bool false)], args := [d] }
  | _ => none }
def FnExactValidPoursWrongFalsely : Prop := fnExactValidPoursRow.holds Try.pinned (OpenSpec.ofChange fnExactValidPoursWrong)

/-- 'laws.FnExactFirstWrong': WHATEVER THE INPUT: true; the input reads as it did. -/
def fnExactFirstWrongSpec : ChangeSpec := { name := "fnExactFirstWrong", fn := fun _ => fun
  | [d1, d2, d3] => { results := [.lit (.bool true)], args := [d1, d2, d3] }
  | _ => none }
def fnExactFirstWrongRow : OpenClaim := { program := "ytgifojplglgcpaa", sum := "52cf0da09a7a5f4198c9c11f67e1b8bc7db0c59dce910725cd13114af94a6c75", func := "loop.example/g00952/laws.FnExactFirstWrong", spec := "fnExactFirstWrong", unfollowed := true, recurses := true, apart := false }
def FnExactFirstWrongSaid : Prop := fnExactFirstWrongRow.holds Try.pinned (OpenSpec.ofChange fnExactFirstWrongSpec)

/-- ITS FALSE NEIGHBOUR: 'it returns false'. Refute it at one input. -/
def fnExactFirstWrongWrong : ChangeSpec := { name := "fnExactFirstWrong", fn := fun _ => fun
  | [d1, d2, d3] => { results := [.lit (.bool false)], args := [d1, d2, d3] }
  | _ => none }
def FnExactFirstWrongWrongFalsely : Prop := fnExactFirstWrongRow.holds Try.pinned (OpenSpec.ofChange fnExactFirstWrongWrong)

/-- 'laws.FnExactIsSchedule': WHATEVER THE INPUT: true; the input reads as it did. -/
def fnExactIsScheduleSpec : ChangeSpec := { name := "fnExactIsSchedule", fn := fun _ => fun
  | [d1, d2, d3] => { results := [.lit (.bool true)], args := [d1, d2, d3] }
  | _ => none }
def fnExactIsScheduleRow : OpenClaim := { program := "ytgifojplglgcpaa", sum := "52cf0da09a7a5f4198c9c11f67e1b8bc7db0c59dce910725cd13114af94a6c75", func := "loop.example/g00952/laws.FnExactIsSchedule", spec := "fnExactIsSchedule", unfollowed := true, recurses := true, apart := false }
def FnExactIsScheduleSaid : Prop := fnExactIsScheduleRow.holds Try.pinned (OpenSpec.ofChange fnExactIsScheduleSpec)

/-- ITS FALSE NEIGHBOUR: 'it returns false'. Refute it at one input. -/
def fnExactIsScheduleWrong : ChangeSpec := { name := "fnExactIsSchedule", fn := fun _ => fun
  | [d1, d2, d3] => { results := [.lit (.bool false)], args := [d1, d2, d3] }
  | _ => none }
def FnExactIsScheduleWrongFalsely : Prop := fnExactIsScheduleRow.holds Try.pinned (OpenSpec.ofChange fnExactIsScheduleWrong)

/-- 'laws.FnExactGreedyHeats': WHATEVER THE INPUT: true; the input reads as it did. -/
def fnExactGreedyHeatsSpec : ChangeSpec := { name := "fnExactGreedyHeats", fn := fun _ => fun
  | [d1, d2] => { results := [.lit (.bool true)], args := [d1, d2] }
  | _ => none }
def fnExactGreedyHeatsRow : OpenClaim := { program := "ytgifojplglgcpaa", sum := "52cf0da09a7a5f4198c9c11f67e1b8bc7db0c59dce910725cd13114af94a6c75", func := "loop.example/g00952/laws.FnExactGreedyHeats", spec := "fnExactGreedyHeats", unfollowed := true, recurses := true, apart := false }
def FnExactGreedyHeatsSaid : Prop := fnExactGreedyHeatsRow.holds Try.pinned (OpenSpec.ofChange fnExactGreedyHeatsSpec)

/-- ITS FALSE NEIGHBOUR: 'it returns false'. Refute it at one input. -/
def fnExactGreedyHeatsWrong : ChangeSpec := { name := "fnExactGreedyHeats", fn := fun _ => fun
  | [d1, d2] => { results := [.lit (.bool false)], args := [d1, d2] }
  | _ => none }
def FnExactGreedyHeatsWrongFalsely : Prop := fnExactGreedyHeatsRow.holds Try.pinned (OpenSpec.ofChange fnExactGreedyHeatsWrong)

/-- 'laws.FnExactValidBell': WHATEVER THE INPUT: true; the input reads as it did. -/
def fnExactValidBellSpec : ChangeSpec := { name := "fnExactValidBell", fn := fun _ => fun
  | [d] => { results := [.lit (.bool true)], args := [d] }
  | _ => none }
def fnExactValidBellRow : OpenClaim := { program := "ytgifojplglgcpaa", sum := "52cf0da09a7a5f4198c9c11f67e1b8bc7db0c59dce910725cd13114af94a6c75", func := "loop.example/g00952/laws.FnExactValidBell", spec := "fnExactValidBell", apart := false }
def FnExactValidBellSaid : Prop := fnExactValidBellRow.holds Try.pinned (OpenSpec.ofChange fnExactValidBellSpec)

/-- ITS FALSE NEIGHBOUR: 'it returns false'. Refute it at one input. -/
def fnExactValidBellWrong : ChangeSpec := { name := "fnExactValidBell", fn := fun _ => fun
  | [d] => { results := [.lit (.bool false)], args := [d] }
  | _ => none }
def FnExactValidBellWrongFalsely : Prop := fnExactValidBellRow.holds Try.pinned (OpenSpec.ofChange fnExactValidBellWrong)

/-- 'laws.FnExactValidBells': WHATEVER THE INPUT: true; the input reads as it did. -/
def fnExactValidBellsSpec : ChangeSpec := { name := "fnExactValidBells", fn := fun _ => fun
  | [d] => { results := [.lit (.bool true)], args := [d] }
  | _ => none }
def fnExactValidBellsRow : OpenClaim := { program := "ytgifojplglgcpaa", sum := "52cf0da09a7a5f4198c9c11f67e1b8bc7db0c59dce910725cd13114af94a6c75", func := "loop.example/g00952/laws.FnExactValidBells", spec := "fnExactValidBells", apart := false }
def FnExactValidBellsSaid : Prop := fnExactValidBellsRow.holds Try.pinned (OpenSpec.ofChange fnExactValidBellsSpec)

/-- ITS FALSE NEIGHBOUR: 'it returns false'. Refute it at one input. -/
def fnExactValidBellsWrong : ChangeSpec := { name := "fnExactValidBells", fn := fun _ => fun
  | [d] => { results := [.lit (.bool false)], args := [d] }
  | _ => none }
def FnExactValidBellsWrongFalsely : Prop := fnExactValidBellsRow.holds Try.pinned (OpenSpec.ofChange fnExactValidBellsWrong)

/-- 'laws.FnExactSameBells': WHATEVER THE INPUT: true; the input reads as it did. -/
def fnExactSameBellsSpec : ChangeSpec := { name := "fnExactSameBells", fn := fun _ => fun
  | [d1, d2] => { results := [.lit (.bool true)], args := [d1, d2] }
  | _ => none }
def fnExactSameBellsRow : OpenClaim := { program := "ytgifojplglgcpaa", sum := "52cf0da09a7a5f4198c9c11f67e1b8bc7db0c59dce910725cd13114af94a6c75", func := "loop.example/g00952/laws.FnExactSameBells", spec := "fnExactSameBells", unfollowed := true, recurses := true, apart := false }
def FnExactSameBellsSaid : Prop := fnExactSameBellsRow.holds Try.pinned (OpenSpec.ofChange fnExactSameBellsSpec)

/-- ITS FALSE NEIGHBOUR: 'it returns false'. Refute it at one input. -/
def fnExactSameBellsWrong : ChangeSpec := { name := "fnExactSameBells", fn := fun _ => fun
  | [d1, d2] => { results := [.lit (.bool false)], args := [d1, d2] }
  | _ => none }
def FnExactSameBellsWrongFalsely : Prop := fnExactSameBellsRow.holds Try.pinned (OpenSpec.ofChange fnExactSameBellsWrong)

/- THE SECOND FORM. 'bulk': how many values and letters a reading holds, each counted each time it is reached (what is shared counts as often as it is met; a slice's spare places count too). A statement '..UptoSaid' is the law's where the arguments, and the package variables that the reading takes, are together of bulk at most 1048576: NARROWER than '..Said'. Prove '..Said' where nothing that the law and all that it calls make is longer than what came in: it says more and counts as full. Else prove '..UptoSaid'. A law counts once. -/
mutual
def uptoBulk {H : Type} : DataW H → Nat
  | .lit (.string bytes) => bytes.length + 1
  | .lit _ => 1
  | .nil => 1
  | .ptr d => uptoBulk d + 1
  | .slice elems spare => uptoBulkAll elems + uptoBulkAll spare + 1
  | .agg parts => uptoBulkAll parts + 1
  | .iface _ d => uptoBulk d + 1
  | .map entries => uptoBulkEntries entries + 1
  | .held _ => 1
def uptoBulkAll {H : Type} : List (DataW H) → Nat
  | [] => 0
  | d :: r => uptoBulk d + uptoBulkAll r
def uptoBulkEntries {H : Type} : List (Lit × DataW H) → Nat
  | [] => 0
  | x :: r => uptoBulkEntry x + uptoBulkEntries r
def uptoBulkEntry {H : Type} : Lit × DataW H → Nat
  | (.string bytes, d) => bytes.length + uptoBulk d + 1
  | (_, d) => uptoBulk d + 1
 end
def uptoSmall : (H : Type) → List (DataW H) → Bool := fun _ ds => decide (uptoBulkAll ds ≤ 1048576)
def OpenSpec.upto (s : _root_.Go.ChangeSpec) : _root_.Go.OpenSpec := { _root_.Go.OpenSpec.ofChange s with cond := some uptoSmall }

/-- 'laws.FnExactValidBays', WHERE WHAT IT READS IS OF BULK AT MOST 1048576: true; the input reads as it did. -/
def fnExactValidBaysUptoRow : OpenClaim := { program := "ytgifojplglgcpaa", sum := "52cf0da09a7a5f4198c9c11f67e1b8bc7db0c59dce910725cd13114af94a6c75", func := "loop.example/g00952/laws.FnExactValidBays", spec := "fnExactValidBays", apart := false, narrowed := true }
def FnExactValidBaysUptoSaid : Prop := fnExactValidBaysUptoRow.holds Try.pinned (OpenSpec.upto fnExactValidBaysSpec)

/-- 'laws.FnExactValidCastings', WHERE WHAT IT READS IS OF BULK AT MOST 1048576: true; the input reads as it did. -/
def fnExactValidCastingsUptoRow : OpenClaim := { program := "ytgifojplglgcpaa", sum := "52cf0da09a7a5f4198c9c11f67e1b8bc7db0c59dce910725cd13114af94a6c75", func := "loop.example/g00952/laws.FnExactValidCastings", spec := "fnExactValidCastings", apart := false, narrowed := true }
def FnExactValidCastingsUptoSaid : Prop := fnExactValidCastingsUptoRow.holds Try.pinned (OpenSpec.upto fnExactValidCastingsSpec)

/-- 'laws.FnExactCheckBays', WHERE WHAT IT READS IS OF BULK AT MOST 1048576: true; the input reads as it did. -/
def fnExactCheckBaysUptoRow : OpenClaim := { program := "ytgifojplglgcpaa", sum := "52cf0da09a7a5f4198c9c11f67e1b8bc7db0c59dce910725cd13114af94a6c75", func := "loop.example/g00952/laws.FnExactCheckBays", spec := "fnExactCheckBays", apart := false, narrowed := true }
def FnExactCheckBaysUptoSaid : Prop := fnExactCheckBaysUptoRow.holds Try.pinned (OpenSpec.upto fnExactCheckBaysSpec)

/-- 'laws.FnExactFreeFrom', WHERE WHAT IT READS IS OF BULK AT MOST 1048576: true; the input reads as it did. -/
def fnExactFreeFromUptoRow : OpenClaim := { program := "ytgifojplglgcpaa", sum := "52cf0da09a7a5f4198c9c11f67e1b8bc7db0c59dce910725cd13114af94a6c75", func := "loop.example/g00952/laws.FnExactFreeFrom", spec := "fnExactFreeFrom", apart := false, narrowed := true }
def FnExactFreeFromUptoSaid : Prop := fnExactFreeFromUptoRow.holds Try.pinned (OpenSpec.upto fnExactFreeFromSpec)

/-- 'laws.FnExactValidCrucibles', WHERE WHAT IT READS IS OF BULK AT MOST 1048576: true; the input reads as it did. -/
def fnExactValidCruciblesUptoRow : OpenClaim := { program := "ytgifojplglgcpaa", sum := "52cf0da09a7a5f4198c9c11f67e1b8bc7db0c59dce910725cd13114af94a6c75", func := "loop.example/g00952/laws.FnExactValidCrucibles", spec := "fnExactValidCrucibles", apart := false, narrowed := true }
def FnExactValidCruciblesUptoSaid : Prop := fnExactValidCruciblesUptoRow.holds Try.pinned (OpenSpec.upto fnExactValidCruciblesSpec)

/-- 'laws.FnExactValidPours', WHERE WHAT IT READS IS OF BULK AT MOST 1048576: true; the input reads as it did. -/
def fnExactValidPoursUptoRow : OpenClaim := { program := "ytgifojplglgcpaa", sum := "52cf0da09a7a5f4198c9c11f67e1b8bc7db0c59dce910725cd13114af94a6c75", func := "loop.example/g00952/laws.FnExactValidPours", spec := "fnExactValidPours", apart := false, narrowed := true }
def FnExactValidPoursUptoSaid : Prop := fnExactValidPoursUptoRow.holds Try.pinned (OpenSpec.upto fnExactValidPoursSpec)

/-- 'laws.FnExactFirstWrong', WHERE WHAT IT READS IS OF BULK AT MOST 1048576: true; the input reads as it did. -/
def fnExactFirstWrongUptoRow : OpenClaim := { program := "ytgifojplglgcpaa", sum := "52cf0da09a7a5f4198c9c11f67e1b8bc7db0c59dce910725cd13114af94a6c75", func := "loop.example/g00952/laws.FnExactFirstWrong", spec := "fnExactFirstWrong", unfollowed := true, recurses := true, apart := false, narrowed := true }
def FnExactFirstWrongUptoSaid : Prop := fnExactFirstWrongUptoRow.holds Try.pinned (OpenSpec.upto fnExactFirstWrongSpec)

/-- 'laws.FnExactIsSchedule', WHERE WHAT IT READS IS OF BULK AT MOST 1048576: true; the input reads as it did. -/
def fnExactIsScheduleUptoRow : OpenClaim := { program := "ytgifojplglgcpaa", sum := "52cf0da09a7a5f4198c9c11f67e1b8bc7db0c59dce910725cd13114af94a6c75", func := "loop.example/g00952/laws.FnExactIsSchedule", spec := "fnExactIsSchedule", unfollowed := true, recurses := true, apart := false, narrowed := true }
def FnExactIsScheduleUptoSaid : Prop := fnExactIsScheduleUptoRow.holds Try.pinned (OpenSpec.upto fnExactIsScheduleSpec)

/-- 'laws.FnExactGreedyHeats', WHERE WHAT IT READS IS OF BULK AT MOST 1048576: true; the input reads as it did. -/
def fnExactGreedyHeatsUptoRow : OpenClaim := { program := "ytgifojplglgcpaa", sum := "52cf0da09a7a5f4198c9c11f67e1b8bc7db0c59dce910725cd13114af94a6c75", func := "loop.example/g00952/laws.FnExactGreedyHeats", spec := "fnExactGreedyHeats", unfollowed := true, recurses := true, apart := false, narrowed := true }
def FnExactGreedyHeatsUptoSaid : Prop := fnExactGreedyHeatsUptoRow.holds Try.pinned (OpenSpec.upto fnExactGreedyHeatsSpec)

/-- 'laws.FnExactValidBell', WHERE WHAT IT READS IS OF BULK AT MOST 1048576: true; the input reads as it did. -/
def fnExactValidBellUptoRow : OpenClaim := { program := "ytgifojplglgcpaa", sum := "52cf0da09a7a5f4198c9c11f67e1b8bc7db0c59dce910725cd13114af94a6c75", func := "loop.example/g00952/laws.FnExactValidBell", spec := "fnExactValidBell", apart := false, narrowed := true }
def FnExactValidBellUptoSaid : Prop := fnExactValidBellUptoRow.holds Try.pinned (OpenSpec.upto fnExactValidBellSpec)

/-- 'laws.FnExactValidBells', WHERE WHAT IT READS IS OF BULK AT MOST 1048576: true; the input reads as it did. -/
def fnExactValidBellsUptoRow : OpenClaim := { program := "ytgifojplglgcpaa", sum := "52cf0da09a7a5f4198c9c11f67e1b8bc7db0c59dce910725cd13114af94a6c75", func := "loop.example/g00952/laws.FnExactValidBells", spec := "fnExactValidBells", apart := false, narrowed := true }
def FnExactValidBellsUptoSaid : Prop := fnExactValidBellsUptoRow.holds Try.pinned (OpenSpec.upto fnExactValidBellsSpec)

/-- 'laws.FnExactSameBells', WHERE WHAT IT READS IS OF BULK AT MOST 1048576: true; the input reads as it did. -/
def fnExactSameBellsUptoRow : OpenClaim := { program := "ytgifojplglgcpaa", sum := "52cf0da09a7a5f4198c9c11f67e1b8bc7db0c59dce910725cd13114af94a6c75", func := "loop.example/g00952/laws.FnExactSameBells", spec := "fnExactSameBells", unfollowed := true, recurses := true, apart := false, narrowed := true }
def FnExactSameBellsUptoSaid : Prop := fnExactSameBellsUptoRow.holds Try.pinned (OpenSpec.upto fnExactSameBellsSpec)

end Rows
end Go.Proofs.Ytgifojplglgcpaa
