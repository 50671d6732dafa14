/-
  No cell of these rows narrows 'for every input' (looked for: loops, veiled, ifaces, maps, wideKeys, modest, calm, conditions, laid).
  DERIVED. THE GIVEN ROWS OF THIS SEAT. 4 by the template 'for every input the law returns true; each argument reads behind the call as it read before'; 0 by the template 'total and deterministic' (their statements: YtkilfapknemjhaaTotals.lean).
  GIVEN WITH THE SEED: the statements are not yours to turn. If you find one false, say at which input.
  Laid BY PROGRAM, IN A SANDBOX (cutbox-rows.mjs): the forced cells as the released guide's own fill.sh prints them over the translation 12420543bebb7b24… (all of the seat's roots in one cut). By AI agents, Wed Nov 11 2026. No macro, syntax, notation, axiom, sorry.
-/
import Derived.Test.YtkilfapknemjhaaChecked
import GoSem.Claim
import GoSem.ClaimJoined
import GoSem.ClaimMapViews
import Derived.JoinedTies
import Derived.KernelRfl
namespace Go.Proofs.Ytkilfapknemjhaa
/- THE CELL 'sum', in the pinned program and in every row, IS THE sha256 OF THE DUMP (.gsa) THAT YtkilfapknemjhaaProg.lean LOADS. Nothing in Lean hashes anything: it is a label: what it is worth is what the hold of that sum in a sandbox is worth. -/
noncomputable def Try.pinned : Pinned := { name := "ytkilfapknemjhaa", sum := "12420543bebb7b247e54c98bd1a8c14751f1818acec4839e5515ad803c5db836", checked := Try.checked }
namespace Rows
def none {H : Type} : Left H := { results := [], args := [] }

/-- 'laws.FnExactPlaceMoulds': WHATEVER THE INPUT: true; the input reads as it did. -/
def fnExactPlaceMouldsSpec : ChangeSpec := { name := "fnExactPlaceMoulds", fn := fun _ => fun
  | [d1, d2, d3] => { results := [.lit (.bool true)], args := [d1, d2, d3] }
  | _ => none }
def fnExactPlaceMouldsRow : OpenClaim := { program := "ytkilfapknemjhaa", sum := "12420543bebb7b247e54c98bd1a8c14751f1818acec4839e5515ad803c5db836", func := "loop.example/g00952/laws.FnExactPlaceMoulds", spec := "fnExactPlaceMoulds", unfollowed := true, recurses := true, apart := false }
def FnExactPlaceMouldsSaid : Prop := fnExactPlaceMouldsRow.holds Try.pinned (OpenSpec.ofChange fnExactPlaceMouldsSpec)

/-- ITS FALSE NEIGHBOUR: 'it returns false'. Refute it at one input. -/
def fnExactPlaceMouldsWrong : ChangeSpec := { name := "fnExactPlaceMoulds", fn := fun _ => fun
  | [d1, d2, d3] => { results := [.lit (.bool false)], args := [d1, d2, d3] }
  | _ => none }
def FnExactPlaceMouldsWrongFalsely : Prop := fnExactPlaceMouldsRow.holds Try.pinned (OpenSpec.ofChange fnExactPlaceMouldsWrong)

/-- 'laws.FnExactGreedyHeats': WHATEVER THE INPUT: true; the input reads as it did. -/
def fnExactGreedyHeatsSpec : ChangeSpec := { name := "fnExactGreedyHeats", fn := fun _ => fun
  | [d1, d2] => { results := [.lit (.bool true)], args := [d1, d2] }
  | _ => none }
def fnExactGreedyHeatsRow : OpenClaim := { program := "ytkilfapknemjhaa", sum := "12420543bebb7b247e54c98bd1a8c14751f1818acec4839e5515ad803c5db836", func := "loop.example/g00952/laws.FnExactGreedyHeats", spec := "fnExactGreedyHeats", unfollowed := true, recurses := true, apart := false }
def FnExactGreedyHeatsSaid : Prop := fnExactGreedyHeatsRow.holds Try.pinned (OpenSpec.ofChange fnExactGreedyHeatsSpec)

/-- ITS FALSE NEIGHBOUR: 'it returns false'. Refute it at one input. -/
def fnExactGreedyHeatsWrong : ChangeSpec := { name := "fnExactGreedyHeats", fn := fun _ => fun
  | [d1, d2] => { results := [.lit (.bool false)], args := [d1, d2] }
  | _ => none }
def FnExactGreedyHeatsWrongFalsely : Prop := fnExactGreedyHeatsRow.holds Try.pinned (OpenSpec.ofChange fnExactGreedyHeatsWrong)

/-- 'laws.FnExactAlloyOfBell': WHATEVER THE INPUT: true; the input reads as it did. -/
def fnExactAlloyOfBellSpec : ChangeSpec := { name := "fnExactAlloyOfBell", fn := fun _ => fun
  | [d1, d2, d3] => { results := [.lit (.bool true)], args := [d1, d2, d3] }
  | _ => none }
def fnExactAlloyOfBellRow : OpenClaim := { program := "ytkilfapknemjhaa", sum := "12420543bebb7b247e54c98bd1a8c14751f1818acec4839e5515ad803c5db836", func := "loop.example/g00952/laws.FnExactAlloyOfBell", spec := "fnExactAlloyOfBell", unfollowed := true, recurses := true, apart := false }
def FnExactAlloyOfBellSaid : Prop := fnExactAlloyOfBellRow.holds Try.pinned (OpenSpec.ofChange fnExactAlloyOfBellSpec)

/-- ITS FALSE NEIGHBOUR: 'it returns false'. Refute it at one input. -/
def fnExactAlloyOfBellWrong : ChangeSpec := { name := "fnExactAlloyOfBell", fn := fun _ => fun
  | [d1, d2, d3] => { results := [.lit (.bool false)], args := [d1, d2, d3] }
  | _ => none }
def FnExactAlloyOfBellWrongFalsely : Prop := fnExactAlloyOfBellRow.holds Try.pinned (OpenSpec.ofChange fnExactAlloyOfBellWrong)

/-- 'laws.FnExactAddBell': WHATEVER THE INPUT: true; the input reads as it did. -/
def fnExactAddBellSpec : ChangeSpec := { name := "fnExactAddBell", fn := fun _ => fun
  | [d1, d2, d3] => { results := [.lit (.bool true)], args := [d1, d2, d3] }
  | _ => none }
def fnExactAddBellRow : OpenClaim := { program := "ytkilfapknemjhaa", sum := "12420543bebb7b247e54c98bd1a8c14751f1818acec4839e5515ad803c5db836", func := "loop.example/g00952/laws.FnExactAddBell", spec := "fnExactAddBell", inPlace := ["slices.overlaps[loop.example/g00952/impl.Bell]"], unfollowed := true, recurses := true, apart := false }
def FnExactAddBellSaid : Prop := fnExactAddBellRow.holds Try.pinned (OpenSpec.ofChange fnExactAddBellSpec)

/-- ITS FALSE NEIGHBOUR: 'it returns false'. Refute it at one input. -/
def fnExactAddBellWrong : ChangeSpec := { name := "fnExactAddBell", fn := fun _ => fun
  | [d1, d2, d3] => { results := [.lit (.bool false)], args := [d1, d2, d3] }
  | _ => none }
def FnExactAddBellWrongFalsely : Prop := fnExactAddBellRow.holds Try.pinned (OpenSpec.ofChange fnExactAddBellWrong)

/- THE SECOND FORM. 'bulk': how many values and letters a reading holds, each counted each time it is reached (what is shared counts as often as it is met; a slice's spare places count too). A statement '..UptoSaid' is the law's where the arguments, and the package variables that the reading takes, are together of bulk at most 1048576: NARROWER than '..Said'. Prove '..Said' where nothing that the law and all that it calls make is longer than what came in: it says more and counts as full. Else prove '..UptoSaid'. A law counts once. -/
mutual
def uptoBulk {H : Type} : DataW H → Nat
  | .lit (.string bytes) => bytes.length + 1
  | .lit _ => 1
  | .nil => 1
  | .ptr d => uptoBulk d + 1
  | .slice elems spare => uptoBulkAll elems + uptoBulkAll spare + 1
  | .agg parts => uptoBulkAll parts + 1
  | .iface _ d => uptoBulk d + 1
  | .map entries => uptoBulkEntries entries + 1
  | .held _ => 1
def uptoBulkAll {H : Type} : List (DataW H) → Nat
  | [] => 0
  | d :: r => uptoBulk d + uptoBulkAll r
def uptoBulkEntries {H : Type} : List (Lit × DataW H) → Nat
  | [] => 0
  | x :: r => uptoBulkEntry x + uptoBulkEntries r
def uptoBulkEntry {H : Type} : Lit × DataW H → Nat
  | (.string bytes, d) => bytes.length + uptoBulk d + 1
  | (_, d) => uptoBulk d + 1
 end
def uptoSmall : (H : Type) → List (DataW H) → Bool := fun _ ds => decide (uptoBulkAll ds ≤ 1048576)
def OpenSpec.upto (s : _root_.Go.ChangeSpec) : _root_.Go.OpenSpec := { _root_.Go.OpenSpec.ofChange s with cond := some uptoSmall }

/-- 'laws.FnExactPlaceMoulds', WHERE WHAT IT READS IS OF BULK AT MOST 1048576: true; the input reads as it did. -/
def fnExactPlaceMouldsUptoRow : OpenClaim := { program := "ytkilfapknemjhaa", sum := "12420543bebb7b247e54c98bd1a8c14751f1818acec4839e5515ad803c5db836", func := "loop.example/g00952/laws.FnExactPlaceMoulds", spec := "fnExactPlaceMoulds", unfollowed := true, recurses := true, apart := false, narrowed := true }
def FnExactPlaceMouldsUptoSaid : Prop := fnExactPlaceMouldsUptoRow.holds Try.pinned (OpenSpec.upto fnExactPlaceMouldsSpec)

/-- 'laws.FnExactGreedyHeats', WHERE WHAT IT READS IS OF BULK AT MOST 1048576: true; the input reads as it did. -/
def fnExactGreedyHeatsUptoRow : OpenClaim := { program := "ytkilfapknemjhaa", sum := "12420543bebb7b247e54c98bd1a8c14751f1818acec4839e5515ad803c5db836", func := "loop.example/g00952/laws.FnExactGreedyHeats", spec := "fnExactGreedyHeats", unfollowed := true, recurses := true, apart := false, narrowed := true }
def FnExactGreedyHeatsUptoSaid : Prop := fnExactGreedyHeatsUptoRow.holds Try.pinned (OpenSpec.upto fnExactGreedyHeatsSpec)

/-- 'laws.FnExactAlloyOfBell', WHERE WHAT IT READS IS OF BULK AT MOST 1048576: true; the input reads as it did. -/
def fnExactAlloyOfBellUptoRow : OpenClaim := { program := "ytkilfapknemjhaa", sum := "12420543bebb7b247e54c98bd1a8c14751f1818acec4839e5515ad803c5db836", func := "loop.example/g00952/laws.FnExactAlloyOfBell", spec := "fnExactAlloyOfBell", unfollowed := true, recurses := true, apart := false, narrowed := true }
def FnExactAlloyOfBellUptoSaid : Prop := fnExactAlloyOfBellUptoRow.holds Try.pinned (OpenSpec.upto fnExactAlloyOfBellSpec)

/-- 'laws.FnExactAddBell', WHERE WHAT IT READS IS OF BULK AT MOST 1048576: true; the input reads as it did. -/
def fnExactAddBellUptoRow : OpenClaim := { program := "ytkilfapknemjhaa", sum := "12420543bebb7b247e54c98bd1a8c14751f1818acec4839e5515ad803c5db836", func := "loop.example/g00952/laws.FnExactAddBell", spec := "fnExactAddBell", inPlace := ["slices.overlaps[loop.example/g00952/impl.Bell]"], unfollowed := true, recurses := true, apart := false, narrowed := true }
def FnExactAddBellUptoSaid : Prop := fnExactAddBellUptoRow.holds Try.pinned (OpenSpec.upto fnExactAddBellSpec)

end Rows
end Go.Proofs.Ytkilfapknemjhaa
