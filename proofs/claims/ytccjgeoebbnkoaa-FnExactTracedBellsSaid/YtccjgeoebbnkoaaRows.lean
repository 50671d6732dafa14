/-
  No cell of these rows narrows 'for every input' (looked for: loops, veiled, ifaces, maps, wideKeys, modest, calm, conditions, laid).
  DERIVED. THE GIVEN ROWS OF THIS SEAT. 8 by the template 'for every input the law returns true; each argument reads behind the call as it read before'; 0 by the template 'total and deterministic' (their statements: YtccjgeoebbnkoaaTotals.lean).
  GIVEN WITH THE SEED: the statements are not yours to turn. If you find one false, say at which input.
  Laid BY PROGRAM, IN A SANDBOX (cutbox-rows.mjs): the forced cells as the released guide's own fill.sh prints them over the translation 93439442344d1221… (all of the seat's roots in one cut). By AI agents, Wed Nov 11 2026. No macro, syntax, notation, axiom, sorry.
-/
import Derived.Test.YtccjgeoebbnkoaaChecked
import GoSem.Claim
import GoSem.ClaimJoined
import GoSem.ClaimMapViews
import Derived.JoinedTies
import Derived.KernelRfl
namespace Go.Proofs.Ytccjgeoebbnkoaa
/- THE CELL 'sum', in the pinned program and in every row, IS THE sha256 OF THE DUMP (.gsa) THAT YtccjgeoebbnkoaaProg.lean LOADS. Nothing in Lean hashes anything: it is a label: what it is worth is what the hold of that sum in a sandbox is worth. -/
noncomputable def Try.pinned : Pinned := { name := "ytccjgeoebbnkoaa", sum := "93439442344d12218d6e46039a7378dfdee7577f3e56db444f4dc6b16c075a3c", checked := Try.checked }
namespace Rows
def none {H : Type} : Left H := { results := [], args := [] }

/-- 'laws.FnExactRecallMelt': WHATEVER THE INPUT: true; the input reads as it did. -/
def fnExactRecallMeltSpec : ChangeSpec := { name := "fnExactRecallMelt", fn := fun _ => fun
  | [d1, d2] => { results := [.lit (.bool true)], args := [d1, d2] }
  | _ => none }
def fnExactRecallMeltRow : OpenClaim := { program := "ytccjgeoebbnkoaa", sum := "93439442344d12218d6e46039a7378dfdee7577f3e56db444f4dc6b16c075a3c", func := "loop.example/g00952/laws.FnExactRecallMelt", spec := "fnExactRecallMelt", unfollowed := true, recurses := true, apart := false }
def FnExactRecallMeltSaid : Prop := fnExactRecallMeltRow.holds Try.pinned (OpenSpec.ofChange fnExactRecallMeltSpec)

/-- ITS FALSE NEIGHBOUR: 'it returns false'. Refute it at one input. -/
def fnExactRecallMeltWrong : ChangeSpec := { name := "fnExactRecallMelt", fn := fun _ => fun
  | [d1, d2] => { results := [.lit (.bool false)], args := [d1, d2] }
  | _ => none }
def FnExactRecallMeltWrongFalsely : Prop := fnExactRecallMeltRow.holds Try.pinned (OpenSpec.ofChange fnExactRecallMeltWrong)

/-- 'laws.FnExactLeftIn': WHATEVER THE INPUT: true; the input reads as it did. -/
def fnExactLeftInSpec : ChangeSpec := { name := "fnExactLeftIn", fn := fun _ => fun
  | [d1, d2, d3] => { results := [.lit (.bool true)], args := [d1, d2, d3] }
  | _ => none }
def fnExactLeftInRow : OpenClaim := { program := "ytccjgeoebbnkoaa", sum := "93439442344d12218d6e46039a7378dfdee7577f3e56db444f4dc6b16c075a3c", func := "loop.example/g00952/laws.FnExactLeftIn", spec := "fnExactLeftIn", unfollowed := true, recurses := true, apart := false }
def FnExactLeftInSaid : Prop := fnExactLeftInRow.holds Try.pinned (OpenSpec.ofChange fnExactLeftInSpec)

/-- ITS FALSE NEIGHBOUR: 'it returns false'. Refute it at one input. -/
def fnExactLeftInWrong : ChangeSpec := { name := "fnExactLeftIn", fn := fun _ => fun
  | [d1, d2, d3] => { results := [.lit (.bool false)], args := [d1, d2, d3] }
  | _ => none }
def FnExactLeftInWrongFalsely : Prop := fnExactLeftInRow.holds Try.pinned (OpenSpec.ofChange fnExactLeftInWrong)

/-- 'laws.FnExactNotesOfBells': WHATEVER THE INPUT: true; the input reads as it did. -/
def fnExactNotesOfBellsSpec : ChangeSpec := { name := "fnExactNotesOfBells", fn := fun _ => fun
  | [d] => { results := [.lit (.bool true)], args := [d] }
  | _ => none }
def fnExactNotesOfBellsRow : OpenClaim := { program := "ytccjgeoebbnkoaa", sum := "93439442344d12218d6e46039a7378dfdee7577f3e56db444f4dc6b16c075a3c", func := "loop.example/g00952/laws.FnExactNotesOfBells", spec := "fnExactNotesOfBells", recurses := true, apart := false }
def FnExactNotesOfBellsSaid : Prop := fnExactNotesOfBellsRow.holds Try.pinned (OpenSpec.ofChange fnExactNotesOfBellsSpec)

/-- ITS FALSE NEIGHBOUR: 'it returns false'. Refute it at one input. -/
def fnExactNotesOfBellsWrong : ChangeSpec := { name := "fnExactNotesOfBells", fn := fun _ => fun
  | [d] => { results := [.lit (.bool false)], args := [d] }
  | _ => none }
def FnExactNotesOfBellsWrongFalsely : Prop := fnExactNotesOfBellsRow.holds Try.pinned (OpenSpec.ofChange fnExactNotesOfBellsWrong)

/-- 'laws.FnExactAlloyOfBell': WHATEVER THE INPUT: true; the input reads as it did. -/
def fnExactAlloyOfBellSpec : ChangeSpec := { name := "fnExactAlloyOfBell", fn := fun _ => fun
  | [d1, d2, d3] => { results := [.lit (.bool true)], args := [d1, d2, d3] }
  | _ => none }
def fnExactAlloyOfBellRow : OpenClaim := { program := "ytccjgeoebbnkoaa", sum := "93439442344d12218d6e46039a7378dfdee7577f3e56db444f4dc6b16c075a3c", func := "loop.example/g00952/laws.FnExactAlloyOfBell", spec := "fnExactAlloyOfBell", unfollowed := true, recurses := true, apart := false }
def FnExactAlloyOfBellSaid : Prop := fnExactAlloyOfBellRow.holds Try.pinned (OpenSpec.ofChange fnExactAlloyOfBellSpec)

/-- ITS FALSE NEIGHBOUR: 'it returns false'. Refute it at one input. -/
def fnExactAlloyOfBellWrong : ChangeSpec := { name := "fnExactAlloyOfBell", fn := fun _ => fun
  | [d1, d2, d3] => { results := [.lit (.bool false)], args := [d1, d2, d3] }
  | _ => none }
def FnExactAlloyOfBellWrongFalsely : Prop := fnExactAlloyOfBellRow.holds Try.pinned (OpenSpec.ofChange fnExactAlloyOfBellWrong)

/-- 'laws.FnExactTracedBells': WHATEVER THE INPUT: true; the input reads as it did. -/
def fnExactTracedBellsSpec : ChangeSpec := { name := "fnExactTracedBells", fn := fun _ => fun
  | [d1, d2, d3] => { results := [.lit (.bool true)], args := [d1, d2, d3] }
  | _ => none }
def fnExactTracedBellsRow : OpenClaim := { program := "ytccjgeoebbnkoaa", sum := "93439442344d12218d6e46039a7378dfdee7577f3e56db444f4dc6b16c075a3c", func := "loop.example/g00952/laws.FnExactTracedBells", spec := "fnExactTracedBells", unfollowed := true, recurses := true, apart := false }
def FnExactTracedBellsSaid : Prop := fnExactTracedBellsRow.holds Try.pinned (OpenSpec.ofChange fnExactTracedBellsSpec)

/-- ITS FALSE NEIGHBOUR: 'it returns false'. Refute it at one input. -/
def fnExactTracedBellsWrong : ChangeSpec := { name := "fnExactTracedBells", fn := fun _ => fun
  | [d1, d2, d3] => { results := [.lit (.bool false)], args := [d1, d2, d3] }
  | _ => none }
def FnExactTracedBellsWrongFalsely : Prop := fnExactTracedBellsRow.holds Try.pinned (OpenSpec.ofChange fnExactTracedBellsWrong)

/-- 'laws.FnExactAddBell': WHATEVER THE INPUT: true; the input reads as it did. -/
def fnExactAddBellSpec : ChangeSpec := { name := "fnExactAddBell", fn := fun _ => fun
  | [d1, d2, d3] => { results := [.lit (.bool true)], args := [d1, d2, d3] }
  | _ => none }
def fnExactAddBellRow : OpenClaim := { program := "ytccjgeoebbnkoaa", sum := "93439442344d12218d6e46039a7378dfdee7577f3e56db444f4dc6b16c075a3c", func := "loop.example/g00952/laws.FnExactAddBell", spec := "fnExactAddBell", inPlace := ["slices.overlaps[loop.example/g00952/impl.Bell]"], unfollowed := true, recurses := true, apart := false }
def FnExactAddBellSaid : Prop := fnExactAddBellRow.holds Try.pinned (OpenSpec.ofChange fnExactAddBellSpec)

/-- ITS FALSE NEIGHBOUR: 'it returns false'. Refute it at one input. -/
def fnExactAddBellWrong : ChangeSpec := { name := "fnExactAddBell", fn := fun _ => fun
  | [d1, d2, d3] => { results := [.lit (.bool false)], args := [d1, d2, d3] }
  | _ => none }
def FnExactAddBellWrongFalsely : Prop := fnExactAddBellRow.holds Try.pinned (OpenSpec.ofChange fnExactAddBellWrong)

/-- 'laws.FnExactIngotsOf': WHATEVER THE INPUT: true; the input reads as it did. -/
def fnExactIngotsOfSpec : ChangeSpec := { name := "fnExactIngotsOf", fn := fun _ => fun
  | [d1, d2] => { results := [.lit (.bool true)], args := [d1, d2] }
  | _ => none }
def fnExactIngotsOfRow : OpenClaim := { program := "ytccjgeoebbnkoaa", sum := "93439442344d12218d6e46039a7378dfdee7577f3e56db444f4dc6b16c075a3c", func := "loop.example/g00952/laws.FnExactIngotsOf", spec := "fnExactIngotsOf", unfollowed := true, recurses := true, apart := false }
def FnExactIngotsOfSaid : Prop := fnExactIngotsOfRow.holds Try.pinned (OpenSpec.ofChange fnExactIngotsOfSpec)

/-- ITS FALSE NEIGHBOUR: 'it returns false'. Refute it at one input. -/
def fnExactIngotsOfWrong : ChangeSpec := { name := "fnExactIngotsOf", fn := fun _ => fun
  | [d1, d2] => { results := [.lit (.bool false)], args := [d1, d2] }
  | _ => none }
def FnExactIngotsOfWrongFalsely : Prop := fnExactIngotsOfRow.holds Try.pinned (OpenSpec.ofChange fnExactIngotsOfWrong)

/-- 'laws.FnExactRecallIngot': WHATEVER THE INPUT: true; the input reads as it did. -/
def fnExactRecallIngotSpec : ChangeSpec := { name := "fnExactRecallIngot", fn := fun _ => fun
  | [d1, d2, d3] => { results := [.lit (.bool true)], args := [d1, d2, d3] }
  | _ => none }
def fnExactRecallIngotRow : OpenClaim := { program := "ytccjgeoebbnkoaa", sum := "93439442344d12218d6e46039a7378dfdee7577f3e56db444f4dc6b16c075a3c", func := "loop.example/g00952/laws.FnExactRecallIngot", spec := "fnExactRecallIngot", unfollowed := true, recurses := true, apart := false }
def FnExactRecallIngotSaid : Prop := fnExactRecallIngotRow.holds Try.pinned (OpenSpec.ofChange fnExactRecallIngotSpec)

/-- ITS FALSE NEIGHBOUR: 'it returns false'. Refute it at one input. -/
def fnExactRecallIngotWrong : ChangeSpec := { name := "fnExactRecallIngot", fn := fun _ => fun
  | [d1, d2, d3] => { results := [.lit (.bool false)], args := [d1, d2, d3] }
  | _ => none }
def FnExactRecallIngotWrongFalsely : Prop := fnExactRecallIngotRow.holds Try.pinned (OpenSpec.ofChange fnExactRecallIngotWrong)

/- THE SECOND FORM. 'bulk': how many values and letters a reading holds, each counted each time it is reached (what is shared counts as often as it is met; a slice's spare places count too). A statement '..UptoSaid' is the law's where the arguments, and the package variables that the reading takes, are together of bulk at most 1048576: NARROWER than '..Said'. Prove '..Said' where nothing that the law and all that it calls make is longer than what came in: it says more and counts as full. Else prove '..UptoSaid'. A law counts once. -/
mutual
def uptoBulk {H : Type} : DataW H → Nat
  | .lit (.string bytes) => bytes.length + 1
  | .lit _ => 1
  | .nil => 1
  | .ptr d => uptoBulk d + 1
  | .slice elems spare => uptoBulkAll elems + uptoBulkAll spare + 1
  | .agg parts => uptoBulkAll parts + 1
  | .iface _ d => uptoBulk d + 1
  | .map entries => uptoBulkEntries entries + 1
  | .held _ => 1
def uptoBulkAll {H : Type} : List (DataW H) → Nat
  | [] => 0
  | d :: r => uptoBulk d + uptoBulkAll r
def uptoBulkEntries {H : Type} : List (Lit × DataW H) → Nat
  | [] => 0
  | x :: r => uptoBulkEntry x + uptoBulkEntries r
def uptoBulkEntry {H : Type} : Lit × DataW H → Nat
  | (.string bytes, d) => bytes.length + uptoBulk d + 1
  | (_, d) => uptoBulk d + 1
 end
def uptoSmall : (H : Type) → List (DataW H) → Bool := fun _ ds => decide (uptoBulkAll ds ≤ 1048576)
def OpenSpec.upto (s : _root_.Go.ChangeSpec) : _root_.Go.OpenSpec := { _root_.Go.OpenSpec.ofChange s with cond := some uptoSmall }

/-- 'laws.FnExactRecallMelt', WHERE WHAT IT READS IS OF BULK AT MOST 1048576: true; the input reads as it did. -/
def fnExactRecallMeltUptoRow : OpenClaim := { program := "ytccjgeoebbnkoaa", sum := "93439442344d12218d6e46039a7378dfdee7577f3e56db444f4dc6b16c075a3c", func := "loop.example/g00952/laws.FnExactRecallMelt", spec := "fnExactRecallMelt", unfollowed := true, recurses := true, apart := false, narrowed := true }
def FnExactRecallMeltUptoSaid : Prop := fnExactRecallMeltUptoRow.holds Try.pinned (OpenSpec.upto fnExactRecallMeltSpec)

/-- 'laws.FnExactLeftIn', WHERE WHAT IT READS IS OF BULK AT MOST 1048576: true; the input reads as it did. -/
def fnExactLeftInUptoRow : OpenClaim := { program := "ytccjgeoebbnkoaa", sum := "93439442344d12218d6e46039a7378dfdee7577f3e56db444f4dc6b16c075a3c", func := "loop.example/g00952/laws.FnExactLeftIn", spec := "fnExactLeftIn", unfollowed := true, recurses := true, apart := false, narrowed := true }
def FnExactLeftInUptoSaid : Prop := fnExactLeftInUptoRow.holds Try.pinned (OpenSpec.upto fnExactLeftInSpec)

/-- 'laws.FnExactNotesOfBells', WHERE WHAT IT READS IS OF BULK AT MOST 1048576: true; the input reads as it did. -/
def fnExactNotesOfBellsUptoRow : OpenClaim := { program := "ytccjgeoebbnkoaa", sum := "93439442344d12218d6e46039a7378dfdee7577f3e56db444f4dc6b16c075a3c", func := "loop.example/g00952/laws.FnExactNotesOfBells", spec := "fnExactNotesOfBells", recurses := true, apart := false, narrowed := true }
def FnExactNotesOfBellsUptoSaid : Prop := fnExactNotesOfBellsUptoRow.holds Try.pinned (OpenSpec.upto fnExactNotesOfBellsSpec)

/-- 'laws.FnExactAlloyOfBell', WHERE WHAT IT READS IS OF BULK AT MOST 1048576: true; the input reads as it did. -/
def fnExactAlloyOfBellUptoRow : OpenClaim := { program := "ytccjgeoebbnkoaa", sum := "93439442344d12218d6e46039a7378dfdee7577f3e56db444f4dc6b16c075a3c", func := "loop.example/g00952/laws.FnExactAlloyOfBell", spec := "fnExactAlloyOfBell", unfollowed := true, recurses := true, apart := false, narrowed := true }
def FnExactAlloyOfBellUptoSaid : Prop := fnExactAlloyOfBellUptoRow.holds Try.pinned (OpenSpec.upto fnExactAlloyOfBellSpec)

/-- 'laws.FnExactTracedBells', WHERE WHAT IT READS IS OF BULK AT MOST 1048576: true; the input reads as it did. -/
def fnExactTracedBellsUptoRow : OpenClaim := { program := "ytccjgeoebbnkoaa", sum := "93439442344d12218d6e46039a7378dfdee7577f3e56db444f4dc6b16c075a3c", func := "loop.example/g00952/laws.FnExactTracedBells", spec := "fnExactTracedBells", unfollowed := true, recurses := true, apart := false, narrowed := true }
def FnExactTracedBellsUptoSaid : Prop := fnExactTracedBellsUptoRow.holds Try.pinned (OpenSpec.upto fnExactTracedBellsSpec)

/-- 'laws.FnExactAddBell', WHERE WHAT IT READS IS OF BULK AT MOST 1048576: true; the input reads as it did. -/
def fnExactAddBellUptoRow : OpenClaim := { program := "ytccjgeoebbnkoaa", sum := "93439442344d12218d6e46039a7378dfdee7577f3e56db444f4dc6b16c075a3c", func := "loop.example/g00952/laws.FnExactAddBell", spec := "fnExactAddBell", inPlace := ["slices.overlaps[loop.example/g00952/impl.Bell]"], unfollowed := true, recurses := true, apart := false, narrowed := true }
def FnExactAddBellUptoSaid : Prop := fnExactAddBellUptoRow.holds Try.pinned (OpenSpec.upto fnExactAddBellSpec)

/-- 'laws.FnExactIngotsOf', WHERE WHAT IT READS IS OF BULK AT MOST 1048576: true; the input reads as it did. -/
def fnExactIngotsOfUptoRow : OpenClaim := { program := "ytccjgeoebbnkoaa", sum := "93439442344d12218d6e46039a7378dfdee7577f3e56db444f4dc6b16c075a3c", func := "loop.example/g00952/laws.FnExactIngotsOf", spec := "fnExactIngotsOf", unfollowed := true, recurses := true, apart := false, narrowed := true }
def FnExactIngotsOfUptoSaid : Prop := fnExactIngotsOfUptoRow.holds Try.pinned (OpenSpec.upto fnExactIngotsOfSpec)

/-- 'laws.FnExactRecallIngot', WHERE WHAT IT READS IS OF BULK AT MOST 1048576: true; the input reads as it did. -/
def fnExactRecallIngotUptoRow : OpenClaim := { program := "ytccjgeoebbnkoaa", sum := "93439442344d12218d6e46039a7378dfdee7577f3e56db444f4dc6b16c075a3c", func := "loop.example/g00952/laws.FnExactRecallIngot", spec := "fnExactRecallIngot", unfollowed := true, recurses := true, apart := false, narrowed := true }
def FnExactRecallIngotUptoSaid : Prop := fnExactRecallIngotUptoRow.holds Try.pinned (OpenSpec.upto fnExactRecallIngotSpec)

end Rows
end Go.Proofs.Ytccjgeoebbnkoaa
