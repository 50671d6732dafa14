/-
  No cell of these rows narrows 'for every input' (looked for: loops, veiled, ifaces, maps, wideKeys, modest, calm, conditions, laid).
  DERIVED. THE GIVEN ROWS OF THIS SEAT. 12 by the template 'for every input the law returns true; each argument reads behind the call as it read before'; 0 by the template 'total and deterministic' (their statements: YtlmfdjohaogeoaaTotals.lean).
  GIVEN WITH THE SEED: the statements are not yours to turn. If you find one false, say at which input.
  Laid BY PROGRAM, IN A SANDBOX (cutbox-rows.mjs): the forced cells as the released guide's own fill.sh prints them over the translation 1532e1b4e33e161c… (all of the seat's roots in one cut). By AI agents, Wed Nov 11 2026. No macro, syntax, notation, axiom, sorry.
-/
import Derived.Test.YtlmfdjohaogeoaaChecked
import GoSem.Claim
import GoSem.ClaimJoined
import GoSem.ClaimMapViews
import Derived.JoinedTies
import Derived.KernelRfl
namespace Go.Proofs.Ytlmfdjohaogeoaa
/- THE CELL 'sum', in the pinned program and in every row, IS THE sha256 OF THE DUMP (.gsa) THAT YtlmfdjohaogeoaaProg.lean LOADS. Nothing in Lean hashes anything: it is a label: what it is worth is what the hold of that sum in a sandbox is worth. -/
noncomputable def Try.pinned : Pinned := { name := "ytlmfdjohaogeoaa", sum := "1532e1b4e33e161cc69922c6af6f1a56189dd5a582c717ba0fc46ced2943172c", checked := Try.checked }
namespace Rows
def none {H : Type} : Left H := { results := [], args := [] }

/-- 'laws.FnExactValidClapper': WHATEVER THE INPUT: true; the input reads as it did. -/
def fnExactValidClapperSpec : ChangeSpec := { name := "fnExactValidClapper", fn := fun _ => fun
  | [d] => { results := [.lit (.bool true)], args := [d] }
  | _ => none }
def fnExactValidClapperRow : OpenClaim := { program := "ytlmfdjohaogeoaa", sum := "1532e1b4e33e161cc69922c6af6f1a56189dd5a582c717ba0fc46ced2943172c", func := "loop.example/g00952/laws.FnExactValidClapper", spec := "fnExactValidClapper", apart := false }
def FnExactValidClapperSaid : Prop := fnExactValidClapperRow.holds Try.pinned (OpenSpec.ofChange fnExactValidClapperSpec)

/-- ITS FALSE NEIGHBOUR: 'it returns false'. Refute it at one input. -/
def fnExactValidClapperWrong : ChangeSpec := { name := "fnExactValidClapper", fn := fun _ => fun
  | [d] => { results := [.lit (.bool false)], args := [d] }
  | _ => none }
def FnExactValidClapperWrongFalsely : Prop := fnExactValidClapperRow.holds Try.pinned (OpenSpec.ofChange fnExactValidClapperWrong)

/-- 'laws.FnExactHalfTime': WHATEVER THE INPUT: true; the input reads as it did. -/
def fnExactHalfTimeSpec : ChangeSpec := { name := "fnExactHalfTime", fn := fun _ => fun
  | [d] => { results := [.lit (.bool true)], args := [d] }
  | _ => none }
def fnExactHalfTimeRow : OpenClaim := { program := "ytlmfdjohaogeoaa", sum := "1532e1b4e33e161cc69922c6af6f1a56189dd5a582c717ba0fc46ced2943172c", func := "loop.example/g00952/laws.FnExactHalfTime", spec := "fnExactHalfTime", apart := false }
def FnExactHalfTimeSaid : Prop := fnExactHalfTimeRow.holds Try.pinned (OpenSpec.ofChange fnExactHalfTimeSpec)

/-- ITS FALSE NEIGHBOUR: 'it returns false'. Refute it at one input. -/
def fnExactHalfTimeWrong : ChangeSpec := { name := "fnExactHalfTime", fn := fun _ => fun
  | [d] => { results := [.lit (.bool false)], args := [d] }
  | _ => none }
def FnExactHalfTimeWrongFalsely : Prop := fnExactHalfTimeRow.holds Try.pinned (OpenSpec.ofChange fnExactHalfTimeWrong)

/-- 'laws.FnExactDropOf': WHATEVER THE INPUT: true; the input reads as it did. -/
def fnExactDropOfSpec : ChangeSpec := { name := "fnExactDropOf", fn := fun _ => fun
  | [d] => { results := [.lit (.bool true)], args := [d] }
  | _ => none }
def fnExactDropOfRow : OpenClaim := { program := "ytlmfdjohaogeoaa", sum := "1532e1b4e33e161cc69922c6af6f1a56189dd5a582c717ba0fc46ced2943172c", func := "loop.example/g00952/laws.FnExactDropOf", spec := "fnExactDropOf", apart := false }
def FnExactDropOfSaid : Prop := fnExactDropOfRow.holds Try.pinned (OpenSpec.ofChange fnExactDropOfSpec)

/-- ITS FALSE NEIGHBOUR: 'it returns false'. Refute it at one input. -/
def fnExactDropOfWrong : ChangeSpec := { name := "fnExactDropOf", fn := fun _ => fun
  | [d] => { results := [.lit (.bool false)], args := [d] }
  | _ => none }
def FnExactDropOfWrongFalsely : Prop := fnExactDropOfRow.holds Try.pinned (OpenSpec.ofChange fnExactDropOfWrong)

/-- 'laws.FnExactEnergyOf': WHATEVER THE INPUT: true; the input reads as it did. -/
def fnExactEnergyOfSpec : ChangeSpec := { name := "fnExactEnergyOf", fn := fun _ => fun
  | [d] => { results := [.lit (.bool true)], args := [d] }
  | _ => none }
def fnExactEnergyOfRow : OpenClaim := { program := "ytlmfdjohaogeoaa", sum := "1532e1b4e33e161cc69922c6af6f1a56189dd5a582c717ba0fc46ced2943172c", func := "loop.example/g00952/laws.FnExactEnergyOf", spec := "fnExactEnergyOf", apart := false }
def FnExactEnergyOfSaid : Prop := fnExactEnergyOfRow.holds Try.pinned (OpenSpec.ofChange fnExactEnergyOfSpec)

/-- ITS FALSE NEIGHBOUR: 'it returns false'. Refute it at one input. -/
def fnExactEnergyOfWrong : ChangeSpec := { name := "fnExactEnergyOf", fn := fun _ => fun
  | [d] => { results := [.lit (.bool false)], args := [d] }
  | _ => none }
def FnExactEnergyOfWrongFalsely : Prop := fnExactEnergyOfRow.holds Try.pinned (OpenSpec.ofChange fnExactEnergyOfWrong)

/-- 'laws.FnExactClapperShare': WHATEVER THE INPUT: true; the input reads as it did. -/
def fnExactClapperShareSpec : ChangeSpec := { name := "fnExactClapperShare", fn := fun _ => fun
  | [d1, d2] => { results := [.lit (.bool true)], args := [d1, d2] }
  | _ => none }
def fnExactClapperShareRow : OpenClaim := { program := "ytlmfdjohaogeoaa", sum := "1532e1b4e33e161cc69922c6af6f1a56189dd5a582c717ba0fc46ced2943172c", func := "loop.example/g00952/laws.FnExactClapperShare", spec := "fnExactClapperShare", apart := false }
def FnExactClapperShareSaid : Prop := fnExactClapperShareRow.holds Try.pinned (OpenSpec.ofChange fnExactClapperShareSpec)

/-- ITS FALSE NEIGHBOUR: 'it returns false'. Refute it at one input. -/
def fnExactClapperShareWrong : ChangeSpec := { name := "fnExactClapperShare", fn := fun _ => fun
  | [d1, d2] => { results := [.lit (.bool false)], args := [d1, d2] }
  | _ => none }
def FnExactClapperShareWrongFalsely : Prop := fnExactClapperShareRow.holds Try.pinned (OpenSpec.ofChange fnExactClapperShareWrong)

/-- 'laws.FnExactSpeedOf': WHATEVER THE INPUT: true; the input reads as it did. -/
def fnExactSpeedOfSpec : ChangeSpec := { name := "fnExactSpeedOf", fn := fun _ => fun
  | [d] => { results := [.lit (.bool true)], args := [d] }
  | _ => none }
def fnExactSpeedOfRow : OpenClaim := { program := "ytlmfdjohaogeoaa", sum := "1532e1b4e33e161cc69922c6af6f1a56189dd5a582c717ba0fc46ced2943172c", func := "loop.example/g00952/laws.FnExactSpeedOf", spec := "fnExactSpeedOf", apart := false }
def FnExactSpeedOfSaid : Prop := fnExactSpeedOfRow.holds Try.pinned (OpenSpec.ofChange fnExactSpeedOfSpec)

/-- ITS FALSE NEIGHBOUR: 'it returns false'. Refute it at one input. -/
def fnExactSpeedOfWrong : ChangeSpec := { name := "fnExactSpeedOf", fn := fun _ => fun
  | [d] => { results := [.lit (.bool false)], args := [d] }
  | _ => none }
def FnExactSpeedOfWrongFalsely : Prop := fnExactSpeedOfRow.holds Try.pinned (OpenSpec.ofChange fnExactSpeedOfWrong)

/-- 'laws.FnExactLastEnd': WHATEVER THE INPUT: true; the input reads as it did. -/
def fnExactLastEndSpec : ChangeSpec := { name := "fnExactLastEnd", fn := fun _ => fun
  | [d] => { results := [.lit (.bool true)], args := [d] }
  | _ => none }
def fnExactLastEndRow : OpenClaim := { program := "ytlmfdjohaogeoaa", sum := "1532e1b4e33e161cc69922c6af6f1a56189dd5a582c717ba0fc46ced2943172c", func := "loop.example/g00952/laws.FnExactLastEnd", spec := "fnExactLastEnd", apart := false }
def FnExactLastEndSaid : Prop := fnExactLastEndRow.holds Try.pinned (OpenSpec.ofChange fnExactLastEndSpec)

/-- ITS FALSE NEIGHBOUR: 'it returns false'. Refute it at one input. -/
def fnExactLastEndWrong : ChangeSpec := { name := "fnExactLastEnd", fn := fun _ => fun
  | [d] => { results := [.lit (.bool false)], args := [d] }
  | _ => none }
def FnExactLastEndWrongFalsely : Prop := fnExactLastEndRow.holds Try.pinned (OpenSpec.ofChange fnExactLastEndWrong)

/-- 'laws.FnExactFitsBay': WHATEVER THE INPUT: true; the input reads as it did. -/
def fnExactFitsBaySpec : ChangeSpec := { name := "fnExactFitsBay", fn := fun _ => fun
  | [d1, d2] => { results := [.lit (.bool true)], args := [d1, d2] }
  | _ => none }
def fnExactFitsBayRow : OpenClaim := { program := "ytlmfdjohaogeoaa", sum := "1532e1b4e33e161cc69922c6af6f1a56189dd5a582c717ba0fc46ced2943172c", func := "loop.example/g00952/laws.FnExactFitsBay", spec := "fnExactFitsBay", apart := false }
def FnExactFitsBaySaid : Prop := fnExactFitsBayRow.holds Try.pinned (OpenSpec.ofChange fnExactFitsBaySpec)

/-- ITS FALSE NEIGHBOUR: 'it returns false'. Refute it at one input. -/
def fnExactFitsBayWrong : ChangeSpec := { name := "fnExactFitsBay", fn := fun _ => fun
  | [d1, d2] => { results := [.lit (.bool false)], args := [d1, d2] }
  | _ => none }
def FnExactFitsBayWrongFalsely : Prop := fnExactFitsBayRow.holds Try.pinned (OpenSpec.ofChange fnExactFitsBayWrong)

/-- 'laws.FnExactTemperatureAt': WHATEVER THE INPUT: true; the input reads as it did. -/
def fnExactTemperatureAtSpec : ChangeSpec := { name := "fnExactTemperatureAt", fn := fun _ => fun
  | [d1, d2] => { results := [.lit (.bool true)], args := [d1, d2] }
  | _ => none }
def fnExactTemperatureAtRow : OpenClaim := { program := "ytlmfdjohaogeoaa", sum := "1532e1b4e33e161cc69922c6af6f1a56189dd5a582c717ba0fc46ced2943172c", func := "loop.example/g00952/laws.FnExactTemperatureAt", spec := "fnExactTemperatureAt", apart := false }
def FnExactTemperatureAtSaid : Prop := fnExactTemperatureAtRow.holds Try.pinned (OpenSpec.ofChange fnExactTemperatureAtSpec)

/-- ITS FALSE NEIGHBOUR: 'it returns false'. Refute it at one input. -/
def fnExactTemperatureAtWrong : ChangeSpec := { name := "fnExactTemperatureAt", fn := fun _ => fun
  | [d1, d2] => { results := [.lit (.bool false)], args := [d1, d2] }
  | _ => none }
def FnExactTemperatureAtWrongFalsely : Prop := fnExactTemperatureAtRow.holds Try.pinned (OpenSpec.ofChange fnExactTemperatureAtWrong)

/-- 'laws.FnExactTimeTo': WHATEVER THE INPUT: true; the input reads as it did. -/
def fnExactTimeToSpec : ChangeSpec := { name := "fnExactTimeTo", fn := fun _ => fun
  | [d1, d2] => { results := [.lit (.bool true)], args := [d1, d2] }
  | _ => none }
def fnExactTimeToRow : OpenClaim := { program := "ytlmfdjohaogeoaa", sum := "1532e1b4e33e161cc69922c6af6f1a56189dd5a582c717ba0fc46ced2943172c", func := "loop.example/g00952/laws.FnExactTimeTo", spec := "fnExactTimeTo", apart := false }
def FnExactTimeToSaid : Prop := fnExactTimeToRow.holds Try.pinned (OpenSpec.ofChange fnExactTimeToSpec)

/-- ITS FALSE NEIGHBOUR: 'it returns false'. Refute it at one input. -/
def fnExactTimeToWrong : ChangeSpec := { name := "fnExactTimeTo", fn := fun _ => fun
  | [d1, d2] => { results := [.lit (.bool false)], args := [d1, d2] }
  | _ => none }
def FnExactTimeToWrongFalsely : Prop := fnExactTimeToRow.holds Try.pinned (OpenSpec.ofChange fnExactTimeToWrong)

/-- 'laws.FnExactNextHeat': WHATEVER THE INPUT: true; the input reads as it did. -/
def fnExactNextHeatSpec : ChangeSpec := { name := "fnExactNextHeat", fn := fun _ => fun
  | [d1, d2, d3] => { results := [.lit (.bool true)], args := [d1, d2, d3] }
  | _ => none }
def fnExactNextHeatRow : OpenClaim := { program := "ytlmfdjohaogeoaa", sum := "1532e1b4e33e161cc69922c6af6f1a56189dd5a582c717ba0fc46ced2943172c", func := "loop.example/g00952/laws.FnExactNextHeat", spec := "fnExactNextHeat", apart := false }
def FnExactNextHeatSaid : Prop := fnExactNextHeatRow.holds Try.pinned (OpenSpec.ofChange fnExactNextHeatSpec)

/-- ITS FALSE NEIGHBOUR: 'it returns false'. Refute it at one input. -/
def fnExactNextHeatWrong : ChangeSpec := { name := "fnExactNextHeat", fn := fun _ => fun
  | [d1, d2, d3] => { results := [.lit (.bool false)], args := [d1, d2, d3] }
  | _ => none }
def FnExactNextHeatWrongFalsely : Prop := fnExactNextHeatRow.holds Try.pinned (OpenSpec.ofChange fnExactNextHeatWrong)

/-- 'laws.FnExactStripTime': WHATEVER THE INPUT: true; the input reads as it did. -/
def fnExactStripTimeSpec : ChangeSpec := { name := "fnExactStripTime", fn := fun _ => fun
  | [d] => { results := [.lit (.bool true)], args := [d] }
  | _ => none }
def fnExactStripTimeRow : OpenClaim := { program := "ytlmfdjohaogeoaa", sum := "1532e1b4e33e161cc69922c6af6f1a56189dd5a582c717ba0fc46ced2943172c", func := "loop.example/g00952/laws.FnExactStripTime", spec := "fnExactStripTime", apart := false }
def FnExactStripTimeSaid : Prop := fnExactStripTimeRow.holds Try.pinned (OpenSpec.ofChange fnExactStripTimeSpec)

/-- ITS FALSE NEIGHBOUR: 'it returns false'. Refute it at one input. -/
def fnExactStripTimeWrong : ChangeSpec := { name := "fnExactStripTime", fn := fun _ => fun
  | [d] => { results := [.lit (.bool false)], args := [d] }
  | _ => none }
def FnExactStripTimeWrongFalsely : Prop := fnExactStripTimeRow.holds Try.pinned (OpenSpec.ofChange fnExactStripTimeWrong)

/- THE SECOND FORM. 'bulk': how many values and letters a reading holds, each counted each time it is reached (what is shared counts as often as it is met; a slice's spare places count too). A statement '..UptoSaid' is the law's where the arguments, and the package variables that the reading takes, are together of bulk at most 1048576: NARROWER than '..Said'. Prove '..Said' where nothing that the law and all that it calls make is longer than what came in: it says more and counts as full. Else prove '..UptoSaid'. A law counts once. -/
mutual
def uptoBulk {H : Type} : DataW H → Nat
  | .lit (.string bytes) => bytes.length + 1
  | .lit _ => 1
  | .nil => 1
  | .ptr d => uptoBulk d + 1
  | .slice elems spare => uptoBulkAll elems + uptoBulkAll spare + 1
  | .agg parts => uptoBulkAll parts + 1
  | .iface _ d => uptoBulk d + 1
  | .map entries => uptoBulkEntries entries + 1
  | .held _ => 1
def uptoBulkAll {H : Type} : List (DataW H) → Nat
  | [] => 0
  | d :: r => uptoBulk d + uptoBulkAll r
def uptoBulkEntries {H : Type} : List (Lit × DataW H) → Nat
  | [] => 0
  | x :: r => uptoBulkEntry x + uptoBulkEntries r
def uptoBulkEntry {H : Type} : Lit × DataW H → Nat
  | (.string bytes, d) => bytes.length + uptoBulk d + 1
  | (_, d) => uptoBulk d + 1
 end
def uptoSmall : (H : Type) → List (DataW H) → Bool := fun _ ds => decide (uptoBulkAll ds ≤ 1048576)
def OpenSpec.upto (s : _root_.Go.ChangeSpec) : _root_.Go.OpenSpec := { _root_.Go.OpenSpec.ofChange s with cond := some uptoSmall }

/-- 'laws.FnExactValidClapper', WHERE WHAT IT READS IS OF BULK AT MOST 1048576: true; the input reads as it did. -/
def fnExactValidClapperUptoRow : OpenClaim := { program := "ytlmfdjohaogeoaa", sum := "1532e1b4e33e161cc69922c6af6f1a56189dd5a582c717ba0fc46ced2943172c", func := "loop.example/g00952/laws.FnExactValidClapper", spec := "fnExactValidClapper", apart := false, narrowed := true }
def FnExactValidClapperUptoSaid : Prop := fnExactValidClapperUptoRow.holds Try.pinned (OpenSpec.upto fnExactValidClapperSpec)

/-- 'laws.FnExactHalfTime', WHERE WHAT IT READS IS OF BULK AT MOST 1048576: true; the input reads as it did. -/
def fnExactHalfTimeUptoRow : OpenClaim := { program := "ytlmfdjohaogeoaa", sum := "1532e1b4e33e161cc69922c6af6f1a56189dd5a582c717ba0fc46ced2943172c", func := "loop.example/g00952/laws.FnExactHalfTime", spec := "fnExactHalfTime", apart := false, narrowed := true }
def FnExactHalfTimeUptoSaid : Prop := fnExactHalfTimeUptoRow.holds Try.pinned (OpenSpec.upto fnExactHalfTimeSpec)

/-- 'laws.FnExactDropOf', WHERE WHAT IT READS IS OF BULK AT MOST 1048576: true; the input reads as it did. -/
def fnExactDropOfUptoRow : OpenClaim := { program := "ytlmfdjohaogeoaa", sum := "1532e1b4e33e161cc69922c6af6f1a56189dd5a582c717ba0fc46ced2943172c", func := "loop.example/g00952/laws.FnExactDropOf", spec := "fnExactDropOf", apart := false, narrowed := true }
def FnExactDropOfUptoSaid : Prop := fnExactDropOfUptoRow.holds Try.pinned (OpenSpec.upto fnExactDropOfSpec)

/-- 'laws.FnExactEnergyOf', WHERE WHAT IT READS IS OF BULK AT MOST 1048576: true; the input reads as it did. -/
def fnExactEnergyOfUptoRow : OpenClaim := { program := "ytlmfdjohaogeoaa", sum := "1532e1b4e33e161cc69922c6af6f1a56189dd5a582c717ba0fc46ced2943172c", func := "loop.example/g00952/laws.FnExactEnergyOf", spec := "fnExactEnergyOf", apart := false, narrowed := true }
def FnExactEnergyOfUptoSaid : Prop := fnExactEnergyOfUptoRow.holds Try.pinned (OpenSpec.upto fnExactEnergyOfSpec)

/-- 'laws.FnExactClapperShare', WHERE WHAT IT READS IS OF BULK AT MOST 1048576: true; the input reads as it did. -/
def fnExactClapperShareUptoRow : OpenClaim := { program := "ytlmfdjohaogeoaa", sum := "1532e1b4e33e161cc69922c6af6f1a56189dd5a582c717ba0fc46ced2943172c", func := "loop.example/g00952/laws.FnExactClapperShare", spec := "fnExactClapperShare", apart := false, narrowed := true }
def FnExactClapperShareUptoSaid : Prop := fnExactClapperShareUptoRow.holds Try.pinned (OpenSpec.upto fnExactClapperShareSpec)

/-- 'laws.FnExactSpeedOf', WHERE WHAT IT READS IS OF BULK AT MOST 1048576: true; the input reads as it did. -/
def fnExactSpeedOfUptoRow : OpenClaim := { program := "ytlmfdjohaogeoaa", sum := "1532e1b4e33e161cc69922c6af6f1a56189dd5a582c717ba0fc46ced2943172c", func := "loop.example/g00952/laws.FnExactSpeedOf", spec := "fnExactSpeedOf", apart := false, narrowed := true }
def FnExactSpeedOfUptoSaid : Prop := fnExactSpeedOfUptoRow.holds Try.pinned (OpenSpec.upto fnExactSpeedOfSpec)

/-- 'laws.FnExactLastEnd', WHERE WHAT IT READS IS OF BULK AT MOST 1048576: true; the input reads as it did. -/
def fnExactLastEndUptoRow : OpenClaim := { program := "ytlmfdjohaogeoaa", sum := "1532e1b4e33e161cc69922c6af6f1a56189dd5a582c717ba0fc46ced2943172c", func := "loop.example/g00952/laws.FnExactLastEnd", spec := "fnExactLastEnd", apart := false, narrowed := true }
def FnExactLastEndUptoSaid : Prop := fnExactLastEndUptoRow.holds Try.pinned (OpenSpec.upto fnExactLastEndSpec)

/-- 'laws.FnExactFitsBay', WHERE WHAT IT READS IS OF BULK AT MOST 1048576: true; the input reads as it did. -/
def fnExactFitsBayUptoRow : OpenClaim := { program := "ytlmfdjohaogeoaa", sum := "1532e1b4e33e161cc69922c6af6f1a56189dd5a582c717ba0fc46ced2943172c", func := "loop.example/g00952/laws.FnExactFitsBay", spec := "fnExactFitsBay", apart := false, narrowed := true }
def FnExactFitsBayUptoSaid : Prop := fnExactFitsBayUptoRow.holds Try.pinned (OpenSpec.upto fnExactFitsBaySpec)

/-- 'laws.FnExactTemperatureAt', WHERE WHAT IT READS IS OF BULK AT MOST 1048576: true; the input reads as it did. -/
def fnExactTemperatureAtUptoRow : OpenClaim := { program := "ytlmfdjohaogeoaa", sum := "1532e1b4e33e161cc69922c6af6f1a56189dd5a582c717ba0fc46ced2943172c", func := "loop.example/g00952/laws.FnExactTemperatureAt", spec := "fnExactTemperatureAt", apart := false, narrowed := true }
def FnExactTemperatureAtUptoSaid : Prop := fnExactTemperatureAtUptoRow.holds Try.pinned (OpenSpec.upto fnExactTemperatureAtSpec)

/-- 'laws.FnExactTimeTo', WHERE WHAT IT READS IS OF BULK AT MOST 1048576: true; the input reads as it did. -/
def fnExactTimeToUptoRow : OpenClaim := { program := "ytlmfdjohaogeoaa", sum := "1532e1b4e33e161cc69922c6af6f1a56189dd5a582c717ba0fc46ced2943172c", func := "loop.example/g00952/laws.FnExactTimeTo", spec := "fnExactTimeTo", apart := false, narrowed := true }
def FnExactTimeToUptoSaid : Prop := fnExactTimeToUptoRow.holds Try.pinned (OpenSpec.upto fnExactTimeToSpec)

/-- 'laws.FnExactNextHeat', WHERE WHAT IT READS IS OF BULK AT MOST 1048576: true; the input reads as it did. -/
def fnExactNextHeatUptoRow : OpenClaim := { program := "ytlmfdjohaogeoaa", sum := "1532e1b4e33e161cc69922c6af6f1a56189dd5a582c717ba0fc46ced2943172c", func := "loop.example/g00952/laws.FnExactNextHeat", spec := "fnExactNextHeat", apart := false, narrowed := true }
def FnExactNextHeatUptoSaid : Prop := fnExactNextHeatUptoRow.holds Try.pinned (OpenSpec.upto fnExactNextHeatSpec)

/-- 'laws.FnExactStripTime', WHERE WHAT IT READS IS OF BULK AT MOST 1048576: true; the input reads as it did. -/
def fnExactStripTimeUptoRow : OpenClaim := { program := "ytlmfdjohaogeoaa", sum := "1532e1b4e33e161cc69922c6af6f1a56189dd5a582c717ba0fc46ced2943172c", func := "loop.example/g00952/laws.FnExactStripTime", spec := "fnExactStripTime", apart := false, narrowed := true }
def FnExactStripTimeUptoSaid : Prop := fnExactStripTimeUptoRow.holds Try.pinned (OpenSpec.upto fnExactStripTimeSpec)

end Rows
end Go.Proofs.Ytlmfdjohaogeoaa
