/-
  NARROWER THAN 'FOR EVERY INPUT', by the rows' own cells (each row's printed sentence says how): FnExactSineOf: laid · FnExactCosineOf: laid · FnExactHorizontalAt: laid · FnExactVerticalAt: laid · FnExactPeriodOf: laid · FnExactGreatestHorizontal: laid · FnExactGreatestVertical: laid · FnExactStrokesOf: laid.
  DERIVED. THE GIVEN ROWS OF THIS SEAT. 8 by the template 'for every input the law returns true; each argument reads behind the call as it read before'; 0 by the template 'total and deterministic' (their statements: YtjpijpmbocgjfaaDoorTotals.lean).
  GIVEN WITH THE SEED: the statements are not yours to turn. If you find one false, say at which input.
  Laid BY PROGRAM, IN A SANDBOX (cutbox-rows.mjs): the forced cells as the released guide's own fill.sh prints them over the translation 84969411d98ee192… (all of the seat's roots in one cut). By AI agents, Wed Nov 11 2026. No macro, syntax, notation, axiom, sorry.
-/
import Derived.Test.YtjpijpmbocgjfaaDoorChecked
import GoSem.Claim
import GoSem.ClaimJoined
import GoSem.ClaimMapViews
import Derived.JoinedTies
import Derived.KernelRfl
namespace Go.Proofs.YtjpijpmbocgjfaaDoor
/- THE CELL 'sum', in the pinned program and in every row, IS THE sha256 OF THE DUMP (.gsa) THAT YtjpijpmbocgjfaaDoorProg.lean LOADS. Nothing in Lean hashes anything: it is a label: what it is worth is what the hold of that sum in a sandbox is worth. -/
noncomputable def Tryd.pinned : Pinned := { name := "ytjpijpmbocgjfaadoor", sum := "84969411d98ee192752409ae395be77578d4eee27bfb48892859f30119da53be", checked := Tryd.checked }
namespace Rows
def none {H : Type} : Left H := { results := [], args := [] }

/- WHAT THE LISTED PACKAGE-LEVEL VARIABLES READ AS WHEN THE CALL BEGINS. Each datum BY PROGRAM (the guide's laid-datum.mjs) off the statement by which the dump's own 'gosem.cut.vars' lays the variable. In a bare row this is a premise. The card (YtjpijpmbocgjfaaDoorCards.lean) ties it to the program's text. -/
def laid_loop_example_g00952_impl_roundSines {H : Type} : DataW H := .agg [.lit (.int .i64 0), .lit (.int .i64 17), .lit (.int .i64 35), .lit (.int .i64 52), .lit (.int .i64 70), .lit (.int .i64 87), .lit (.int .i64 105), .lit (.int .i64 122), .lit (.int .i64 139), .lit (.int .i64 156), .lit (.int .i64 174), .lit (.int .i64 191), .lit (.int .i64 208), .lit (.int .i64 225), .lit (.int .i64 242), .lit (.int .i64 259), .lit (.int .i64 276), .lit (.int .i64 292), .lit (.int .i64 309), .lit (.int .i64 326), .lit (.int .i64 342), .lit (.int .i64 358), .lit (.int .i64 375), .lit (.int .i64 391), .lit (.int .i64 407), .lit (.int .i64 423), .lit (.int .i64 438), .lit (.int .i64 454), .lit (.int .i64 469), .lit (.int .i64 485), .lit (.int .i64 500), .lit (.int .i64 515), .lit (.int .i64 530), .lit (.int .i64 545), .lit (.int .i64 559), .lit (.int .i64 574), .lit (.int .i64 588), .lit (.int .i64 602), .lit (.int .i64 616), .lit (.int .i64 629), .lit (.int .i64 643), .lit (.int .i64 656), .lit (.int .i64 669), .lit (.int .i64 682), .lit (.int .i64 695), .lit (.int .i64 707), .lit (.int .i64 719), .lit (.int .i64 731), .lit (.int .i64 743), .lit (.int .i64 755), .lit (.int .i64 766), .lit (.int .i64 777), .lit (.int .i64 788), .lit (.int .i64 799), .lit (.int .i64 809), .lit (.int .i64 819), .lit (.int .i64 829), .lit (.int .i64 839), .lit (.int .i64 848), .lit (.int .i64 857), .lit (.int .i64 866), .lit (.int .i64 875), .lit (.int .i64 883), .lit (.int .i64 891), .lit (.int .i64 899), .lit (.int .i64 906), .lit (.int .i64 914), .lit (.int .i64 921), .lit (.int .i64 927), .lit (.int .i64 934), .lit (.int .i64 940), .lit (.int .i64 946), .lit (.int .i64 951), .lit (.int .i64 956), .lit (.int .i64 961), .lit (.int .i64 966), .lit (.int .i64 970), .lit (.int .i64 974), .lit (.int .i64 978), .lit (.int .i64 982), .lit (.int .i64 985), .lit (.int .i64 988), .lit (.int .i64 990), .lit (.int .i64 993), .lit (.int .i64 995), .lit (.int .i64 996), .lit (.int .i64 998), .lit (.int .i64 999), .lit (.int .i64 999), .lit (.int .i64 1000), .lit (.int .i64 1000)]

/-- 'laws.FnExactSineOf': WHATEVER THE INPUT: true; the input reads as it did. -/
def fnExactSineOfSpec : ChangeSpec := { name := "fnExactSineOf", vars := ["loop.example/g00952/impl.roundSines"], fn := fun _ => fun
  | [d, g1] => { results := [.lit (.bool true)], args := [d], vars := [g1] }
  | _ => none }
def fnExactSineOfRow : OpenClaim := { program := "ytjpijpmbocgjfaadoor", sum := "84969411d98ee192752409ae395be77578d4eee27bfb48892859f30119da53be", func := "loop.example/g00952/laws.FnExactSineOf", spec := "fnExactSineOf", named := ["loop.example/g00952/impl.roundSines"], apart := false, laid := [("loop.example/g00952/impl.roundSines", laid_loop_example_g00952_impl_roundSines)] }
def FnExactSineOfSaid : Prop := fnExactSineOfRow.holds Tryd.pinned (OpenSpec.ofChange fnExactSineOfSpec)

/-- ITS FALSE NEIGHBOUR: 'it returns false'. Refute it at one input. -/
def fnExactSineOfWrong : ChangeSpec := { name := "fnExactSineOf", vars := ["loop.example/g00952/impl.roundSines"], fn := fun _ => fun
  | [d, g1] => { results := [.lit (.bool false)], args := [d], vars := [g1] }
  | _ => none }
def FnExactSineOfWrongFalsely : Prop := fnExactSineOfRow.holds Tryd.pinned (OpenSpec.ofChange fnExactSineOfWrong)

/-- 'laws.FnExactCosineOf': WHATEVER THE INPUT: true; the input reads as it did. -/
def fnExactCosineOfSpec : ChangeSpec := { name := "fnExactCosineOf", vars := ["loop.example/g00952/impl.roundSines"], fn := fun _ => fun
  | [d, g1] => { results := [.lit (.bool true)], args := [d], vars := [g1] }
  | _ => none }
def fnExactCosineOfRow : OpenClaim := { program := "ytjpijpmbocgjfaadoor", sum := "84969411d98ee192752409ae395be77578d4eee27bfb48892859f30119da53be", func := "loop.example/g00952/laws.FnExactCosineOf", spec := "fnExactCosineOf", named := ["loop.example/g00952/impl.roundSines"], apart := false, laid := [("loop.example/g00952/impl.roundSines", laid_loop_example_g00952_impl_roundSines)] }
def FnExactCosineOfSaid : Prop := fnExactCosineOfRow.holds Tryd.pinned (OpenSpec.ofChange fnExactCosineOfSpec)

/-- ITS FALSE NEIGHBOUR: 'it returns false'. Refute it at one input. -/
def fnExactCosineOfWrong : ChangeSpec := { name := "fnExactCosineOf", vars := ["loop.example/g00952/impl.roundSines"], fn := fun _ => fun
  | [d, g1] => { results := [.lit (.bool false)], args := [d], vars := [g1] }
  | _ => none }
def FnExactCosineOfWrongFalsely : Prop := fnExactCosineOfRow.holds Tryd.pinned (OpenSpec.ofChange fnExactCosineOfWrong)

/-- 'laws.FnExactHorizontalAt': WHATEVER THE INPUT: true; the input reads as it did. -/
def fnExactHorizontalAtSpec : ChangeSpec := { name := "fnExactHorizontalAt", vars := ["loop.example/g00952/impl.roundSines"], fn := fun _ => fun
  | [d1, d2, g1] => { results := [.lit (.bool true)], args := [d1, d2], vars := [g1] }
  | _ => none }
def fnExactHorizontalAtRow : OpenClaim := { program := "ytjpijpmbocgjfaadoor", sum := "84969411d98ee192752409ae395be77578d4eee27bfb48892859f30119da53be", func := "loop.example/g00952/laws.FnExactHorizontalAt", spec := "fnExactHorizontalAt", named := ["loop.example/g00952/impl.roundSines"], apart := false, laid := [("loop.example/g00952/impl.roundSines", laid_loop_example_g00952_impl_roundSines)] }
def FnExactHorizontalAtSaid : Prop := fnExactHorizontalAtRow.holds Tryd.pinned (OpenSpec.ofChange fnExactHorizontalAtSpec)

/-- ITS FALSE NEIGHBOUR: 'it returns false'. Refute it at one input. -/
def fnExactHorizontalAtWrong : ChangeSpec := { name := "fnExactHorizontalAt", vars := ["loop.example/g00952/impl.roundSines"], fn := fun _ => fun
  | [d1, d2, g1] => { results := [.lit (.bool false)], args := [d1, d2], vars := [g1] }
  | _ => none }
def FnExactHorizontalAtWrongFalsely : Prop := fnExactHorizontalAtRow.holds Tryd.pinned (OpenSpec.ofChange fnExactHorizontalAtWrong)

/-- 'laws.FnExactVerticalAt': WHATEVER THE INPUT: true; the input reads as it did. -/
def fnExactVerticalAtSpec : ChangeSpec := { name := "fnExactVerticalAt", vars := ["loop.example/g00952/impl.roundSines"], fn := fun _ => fun
  | [d1, d2, g1] => { results := [.lit (.bool true)], args := [d1, d2], vars := [g1] }
  | _ => none }
def fnExactVerticalAtRow : OpenClaim := { program := "ytjpijpmbocgjfaadoor", sum := "84969411d98ee192752409ae395be77578d4eee27bfb48892859f30119da53be", func := "loop.example/g00952/laws.FnExactVerticalAt", spec := "fnExactVerticalAt", named := ["loop.example/g00952/impl.roundSines"], apart := false, laid := [("loop.example/g00952/impl.roundSines", laid_loop_example_g00952_impl_roundSines)] }
def FnExactVerticalAtSaid : Prop := fnExactVerticalAtRow.holds Tryd.pinned (OpenSpec.ofChange fnExactVerticalAtSpec)

/-- ITS FALSE NEIGHBOUR: 'it returns false'. Refute it at one input. -/
def fnExactVerticalAtWrong : ChangeSpec := { name := "fnExactVerticalAt", vars := ["loop.example/g00952/impl.roundSines"], fn := fun _ => fun
  | [d1, d2, g1] => { results := [.lit (.bool false)], args := [d1, d2], vars := [g1] }
  | _ => none }
def FnExactVerticalAtWrongFalsely : Prop := fnExactVerticalAtRow.holds Tryd.pinned (OpenSpec.ofChange fnExactVerticalAtWrong)

/-- 'laws.FnExactPeriodOf': WHATEVER THE INPUT: true; the input reads as it did. -/
def fnExactPeriodOfSpec : ChangeSpec := { name := "fnExactPeriodOf", vars := ["loop.example/g00952/impl.roundSines"], fn := fun _ => fun
  | [d, g1] => { results := [.lit (.bool true)], args := [d], vars := [g1] }
  | _ => none }
def fnExactPeriodOfRow : OpenClaim := { program := "ytjpijpmbocgjfaadoor", sum := "84969411d98ee192752409ae395be77578d4eee27bfb48892859f30119da53be", func := "loop.example/g00952/laws.FnExactPeriodOf", spec := "fnExactPeriodOf", named := ["loop.example/g00952/impl.roundSines"], apart := false, laid := [("loop.example/g00952/impl.roundSines", laid_loop_example_g00952_impl_roundSines)] }
def FnExactPeriodOfSaid : Prop := fnExactPeriodOfRow.holds Tryd.pinned (OpenSpec.ofChange fnExactPeriodOfSpec)

/-- ITS FALSE NEIGHBOUR: 'it returns false'. Refute it at one input. -/
def fnExactPeriodOfWrong : ChangeSpec := { name := "fnExactPeriodOf", vars := ["loop.example/g00952/impl.roundSines"], fn := fun _ => fun
  | [d, g1] => { results := [.lit (.bool false)], args := [d], vars := [g1] }
  | _ => none }
def FnExactPeriodOfWrongFalsely : Prop := fnExactPeriodOfRow.holds Tryd.pinned (OpenSpec.ofChange fnExactPeriodOfWrong)

/-- 'laws.FnExactGreatestHorizontal': WHATEVER THE INPUT: true; the input reads as it did. -/
def fnExactGreatestHorizontalSpec : ChangeSpec := { name := "fnExactGreatestHorizontal", vars := ["loop.example/g00952/impl.roundSines"], fn := fun _ => fun
  | [d, g1] => { results := [.lit (.bool true)], args := [d], vars := [g1] }
  | _ => none }
def fnExactGreatestHorizontalRow : OpenClaim := { program := "ytjpijpmbocgjfaadoor", sum := "84969411d98ee192752409ae395be77578d4eee27bfb48892859f30119da53be", func := "loop.example/g00952/laws.FnExactGreatestHorizontal", spec := "fnExactGreatestHorizontal", unfollowed := true, recurses := true, named := ["loop.example/g00952/impl.roundSines"], apart := false, laid := [("loop.example/g00952/impl.roundSines", laid_loop_example_g00952_impl_roundSines)] }
def FnExactGreatestHorizontalSaid : Prop := fnExactGreatestHorizontalRow.holds Tryd.pinned (OpenSpec.ofChange fnExactGreatestHorizontalSpec)

/-- ITS FALSE NEIGHBOUR: 'it returns false'. Refute it at one input. -/
def fnExactGreatestHorizontalWrong : ChangeSpec := { name := "fnExactGreatestHorizontal", vars := ["loop.example/g00952/impl.roundSines"], fn := fun _ => fun
  | [d, g1] => { results := [.lit (.bool false)], args := [d], vars := [g1] }
  | _ => none }
def FnExactGreatestHorizontalWrongFalsely : Prop := fnExactGreatestHorizontalRow.holds Tryd.pinned (OpenSpec.ofChange fnExactGreatestHorizontalWrong)

/-- 'laws.FnExactGreatestVertical': WHATEVER THE INPUT: true; the input reads as it did. -/
def fnExactGreatestVerticalSpec : ChangeSpec := { name := "fnExactGreatestVertical", vars := ["loop.example/g00952/impl.roundSines"], fn := fun _ => fun
  | [d, g1] => { results := [.lit (.bool true)], args := [d], vars := [g1] }
  | _ => none }
def fnExactGreatestVerticalRow : OpenClaim := { program := "ytjpijpmbocgjfaadoor", sum := "84969411d98ee192752409ae395be77578d4eee27bfb48892859f30119da53be", func := "loop.example/g00952/laws.FnExactGreatestVertical", spec := "fnExactGreatestVertical", unfollowed := true, recurses := true, named := ["loop.example/g00952/impl.roundSines"], apart := false, laid := [("loop.example/g00952/impl.roundSines", laid_loop_example_g00952_impl_roundSines)] }
def FnExactGreatestVerticalSaid : Prop := fnExactGreatestVerticalRow.holds Tryd.pinned (OpenSpec.ofChange fnExactGreatestVerticalSpec)

/-- ITS FALSE NEIGHBOUR: 'it returns false'. Refute it at one input. -/
def fnExactGreatestVerticalWrong : ChangeSpec := { name := "fnExactGreatestVertical", vars := ["loop.example/g00952/impl.roundSines"], fn := fun _ => fun
  | [d, g1] => { results := [.lit (.bool false)], args := [d], vars := [g1] }
  | _ => none }
def FnExactGreatestVerticalWrongFalsely : Prop := fnExactGreatestVerticalRow.holds Tryd.pinned (OpenSpec.ofChange fnExactGreatestVerticalWrong)

/-- 'laws.FnExactStrokesOf': WHATEVER THE INPUT: true; the input reads as it did. -/
def fnExactStrokesOfSpec : ChangeSpec := { name := "fnExactStrokesOf", vars := ["loop.example/g00952/impl.roundSines"], fn := fun _ => fun
  | [d, g1] => { results := [.lit (.bool true)], args := [d], vars := [g1] }
  | _ => none }
def fnExactStrokesOfRow : OpenClaim := { program := "ytjpijpmbocgjfaadoor", sum := "84969411d98ee192752409ae395be77578d4eee27bfb48892859f30119da53be", func := "loop.example/g00952/laws.FnExactStrokesOf", spec := "fnExactStrokesOf", named := ["loop.example/g00952/impl.roundSines"], apart := false, laid := [("loop.example/g00952/impl.roundSines", laid_loop_example_g00952_impl_roundSines)] }
def FnExactStrokesOfSaid : Prop := fnExactStrokesOfRow.holds Tryd.pinned (OpenSpec.ofChange fnExactStrokesOfSpec)

/-- ITS FALSE NEIGHBOUR: 'it returns false'. Refute it at one input. -/
def fnExactStrokesOfWrong : ChangeSpec := { name := "fnExactStrokesOf", vars := ["loop.example/g00952/impl.roundSines"], fn := fun _ => fun
  | [d, g1] => { results := [.lit (.bool false)], args := [d], vars := [g1] }
  | _ => none }
def FnExactStrokesOfWrongFalsely : Prop := fnExactStrokesOfRow.holds Tryd.pinned (OpenSpec.ofChange fnExactStrokesOfWrong)

/- THE SECOND FORM. 'bulk': how many values and letters a reading holds, each counted each time it is reached (what is shared counts as often as it is met; a slice's spare places count too). A statement '..UptoSaid' is the law's where the arguments, and the package variables that the reading takes, are together of bulk at most 1048576: NARROWER than '..Said'. Prove '..Said' where nothing that the law and all that it calls make is longer than what came in: it says more and counts as full. Else prove '..UptoSaid'. A law counts once. -/
mutual
def uptoBulk {H : Type} : DataW H → Nat
  | .lit (.string bytes) => bytes.length + 1
  | .lit _ => 1
  | .nil => 1
  | .ptr d => uptoBulk d + 1
  | .slice elems spare => uptoBulkAll elems + uptoBulkAll spare + 1
  | .agg parts => uptoBulkAll parts + 1
  | .iface _ d => uptoBulk d + 1
  | .map entries => uptoBulkEntries entries + 1
  | .held _ => 1
def uptoBulkAll {H : Type} : List (DataW H) → Nat
  | [] => 0
  | d :: r => uptoBulk d + uptoBulkAll r
def uptoBulkEntries {H : Type} : List (Lit × DataW H) → Nat
  | [] => 0
  | x :: r => uptoBulkEntry x + uptoBulkEntries r
def uptoBulkEntry {H : Type} : Lit × DataW H → Nat
  | (.string bytes, d) => bytes.length + uptoBulk d + 1
  | (_, d) => uptoBulk d + 1
 end
def uptoSmall : (H : Type) → List (DataW H) → Bool := fun _ ds => decide (uptoBulkAll ds ≤ 1048576)
def OpenSpec.upto (s : _root_.Go.ChangeSpec) : _root_.Go.OpenSpec := { _root_.Go.OpenSpec.ofChange s with cond := some uptoSmall }

/-- 'laws.FnExactSineOf', WHERE WHAT IT READS IS OF BULK AT MOST 1048576: true; the input reads as it did. -/
def fnExactSineOfUptoRow : OpenClaim := { program := "ytjpijpmbocgjfaadoor", sum := "84969411d98ee192752409ae395be77578d4eee27bfb48892859f30119da53be", func := "loop.example/g00952/laws.FnExactSineOf", spec := "fnExactSineOf", named := ["loop.example/g00952/impl.roundSines"], apart := false, laid := [("loop.example/g00952/impl.roundSines", laid_loop_example_g00952_impl_roundSines)], narrowed := true }
def FnExactSineOfUptoSaid : Prop := fnExactSineOfUptoRow.holds Tryd.pinned (OpenSpec.upto fnExactSineOfSpec)

/-- 'laws.FnExactCosineOf', WHERE WHAT IT READS IS OF BULK AT MOST 1048576: true; the input reads as it did. -/
def fnExactCosineOfUptoRow : OpenClaim := { program := "ytjpijpmbocgjfaadoor", sum := "84969411d98ee192752409ae395be77578d4eee27bfb48892859f30119da53be", func := "loop.example/g00952/laws.FnExactCosineOf", spec := "fnExactCosineOf", named := ["loop.example/g00952/impl.roundSines"], apart := false, laid := [("loop.example/g00952/impl.roundSines", laid_loop_example_g00952_impl_roundSines)], narrowed := true }
def FnExactCosineOfUptoSaid : Prop := fnExactCosineOfUptoRow.holds Tryd.pinned (OpenSpec.upto fnExactCosineOfSpec)

/-- 'laws.FnExactHorizontalAt', WHERE WHAT IT READS IS OF BULK AT MOST 1048576: true; the input reads as it did. -/
def fnExactHorizontalAtUptoRow : OpenClaim := { program := "ytjpijpmbocgjfaadoor", sum := "84969411d98ee192752409ae395be77578d4eee27bfb48892859f30119da53be", func := "loop.example/g00952/laws.FnExactHorizontalAt", spec := "fnExactHorizontalAt", named := ["loop.example/g00952/impl.roundSines"], apart := false, laid := [("loop.example/g00952/impl.roundSines", laid_loop_example_g00952_impl_roundSines)], narrowed := true }
def FnExactHorizontalAtUptoSaid : Prop := fnExactHorizontalAtUptoRow.holds Tryd.pinned (OpenSpec.upto fnExactHorizontalAtSpec)

/-- 'laws.FnExactVerticalAt', WHERE WHAT IT READS IS OF BULK AT MOST 1048576: true; the input reads as it did. -/
def fnExactVerticalAtUptoRow : OpenClaim := { program := "ytjpijpmbocgjfaadoor", sum := "84969411d98ee192752409ae395be77578d4eee27bfb48892859f30119da53be", func := "loop.example/g00952/laws.FnExactVerticalAt", spec := "fnExactVerticalAt", named := ["loop.example/g00952/impl.roundSines"], apart := false, laid := [("loop.example/g00952/impl.roundSines", laid_loop_example_g00952_impl_roundSines)], narrowed := true }
def FnExactVerticalAtUptoSaid : Prop := fnExactVerticalAtUptoRow.holds Tryd.pinned (OpenSpec.upto fnExactVerticalAtSpec)

/-- 'laws.FnExactPeriodOf', WHERE WHAT IT READS IS OF BULK AT MOST 1048576: true; the input reads as it did. -/
def fnExactPeriodOfUptoRow : OpenClaim := { program := "ytjpijpmbocgjfaadoor", sum := "84969411d98ee192752409ae395be77578d4eee27bfb48892859f30119da53be", func := "loop.example/g00952/laws.FnExactPeriodOf", spec := "fnExactPeriodOf", named := ["loop.example/g00952/impl.roundSines"], apart := false, laid := [("loop.example/g00952/impl.roundSines", laid_loop_example_g00952_impl_roundSines)], narrowed := true }
def FnExactPeriodOfUptoSaid : Prop := fnExactPeriodOfUptoRow.holds Tryd.pinned (OpenSpec.upto fnExactPeriodOfSpec)

/-- 'laws.FnExactGreatestHorizontal', WHERE WHAT IT READS IS OF BULK AT MOST 1048576: true; the input reads as it did. -/
def fnExactGreatestHorizontalUptoRow : OpenClaim := { program := "ytjpijpmbocgjfaadoor", sum := "84969411d98ee192752409ae395be77578d4eee27bfb48892859f30119da53be", func := "loop.example/g00952/laws.FnExactGreatestHorizontal", spec := "fnExactGreatestHorizontal", unfollowed := true, recurses := true, named := ["loop.example/g00952/impl.roundSines"], apart := false, laid := [("loop.example/g00952/impl.roundSines", laid_loop_example_g00952_impl_roundSines)], narrowed := true }
def FnExactGreatestHorizontalUptoSaid : Prop := fnExactGreatestHorizontalUptoRow.holds Tryd.pinned (OpenSpec.upto fnExactGreatestHorizontalSpec)

/-- 'laws.FnExactGreatestVertical', WHERE WHAT IT READS IS OF BULK AT MOST 1048576: true; the input reads as it did. -/
def fnExactGreatestVerticalUptoRow : OpenClaim := { program := "ytjpijpmbocgjfaadoor", sum := "84969411d98ee192752409ae395be77578d4eee27bfb48892859f30119da53be", func := "loop.example/g00952/laws.FnExactGreatestVertical", spec := "fnExactGreatestVertical", unfollowed := true, recurses := true, named := ["loop.example/g00952/impl.roundSines"], apart := false, laid := [("loop.example/g00952/impl.roundSines", laid_loop_example_g00952_impl_roundSines)], narrowed := true }
def FnExactGreatestVerticalUptoSaid : Prop := fnExactGreatestVerticalUptoRow.holds Tryd.pinned (OpenSpec.upto fnExactGreatestVerticalSpec)

/-- 'laws.FnExactStrokesOf', WHERE WHAT IT READS IS OF BULK AT MOST 1048576: true; the input reads as it did. -/
def fnExactStrokesOfUptoRow : OpenClaim := { program := "ytjpijpmbocgjfaadoor", sum := "84969411d98ee192752409ae395be77578d4eee27bfb48892859f30119da53be", func := "loop.example/g00952/laws.FnExactStrokesOf", spec := "fnExactStrokesOf", named := ["loop.example/g00952/impl.roundSines"], apart := false, laid := [("loop.example/g00952/impl.roundSines", laid_loop_example_g00952_impl_roundSines)], narrowed := true }
def FnExactStrokesOfUptoSaid : Prop := fnExactStrokesOfUptoRow.holds Tryd.pinned (OpenSpec.upto fnExactStrokesOfSpec)

end Rows
end Go.Proofs.YtjpijpmbocgjfaaDoor
