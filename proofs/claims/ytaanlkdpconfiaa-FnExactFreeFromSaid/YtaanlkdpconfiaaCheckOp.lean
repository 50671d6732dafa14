/- CheckBays, in the program and in the reference. -/
import Derived.Test.YtaanlkdpconfiaaCheck
namespace Go.Proofs.Ytaanlkdpconfiaa
set_option linter.unusedVariables false
open Go.RowKit

noncomputable def baysB (n : Nat) (bs : Nat → ByteArray) (br bd : Nat → Int) : Bool := allB (goodAt (fun i => bayB (bs i) (br i) (bd i)) bs) n && decide ((n : Int) ≤ 8)
noncomputable def castsB (n : Nat) (cs : Nat → ByteArray) (cr cd ct cf : Nat → Int) : Bool := allB (goodAt (fun i => castB (cs i) (cr i) (cd i) (ct i) (cf i)) cs) n && decide ((n : Int) ≤ 12)
noncomputable def checkB (n : Nat) (bs : Nat → ByteArray) (br bd : Nat → Int) (n2 : Nat) (cs : Nat → ByteArray) (cr cd ct cf : Nat → Int) (n3 : Nat) (p : Nat → Int) : Bool := baysB n bs br bd && (castsB n2 cs cr cd ct cf && placesB br bd cr cd p ct cf n n2 n3)
theorem castsB_ok {n : Nat} {cs : Nat → ByteArray} {cr cd ct cf : Nat → Int} (h : castsB n cs cr cd ct cf = true) : CastOk n ct cf := fun i hi => by
  have h1 := allB_of (Bool.and_eq_true _ _ |>.mp h).1 i hi
  simp only [goodAt, Bool.and_eq_true] at h1
  exact castB_of h1.1
end Go.Proofs.Ytaanlkdpconfiaa
