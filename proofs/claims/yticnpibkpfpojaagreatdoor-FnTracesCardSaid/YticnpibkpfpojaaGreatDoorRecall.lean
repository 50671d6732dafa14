/- Bells that have a share of a melt: their ids, in the program and in the reference. -/
import Derived.Test.YticnpibkpfpojaaGreatDoorShareO
import Derived.Test.YticnpibkpfpojaaGreatDoorBells
import Derived.Test.YticnpibkpfpojaaGreatDoorStrs
import Derived.Test.YticnpibkpfpojaaGreatDoorOwn
namespace Go.Proofs.YticnpibkpfpojaaGreatDoor
set_option linter.unusedVariables false
open Go.RowKit


/-- the texts among the first k that are chosen -/
def selL (p : Nat → Bool) (s : Nat → ByteArray) : Nat → List ByteArray
  | 0 => []
  | k + 1 => bif p k then selL p s k ++ [s k] else selL p s k
theorem selL_len (p : Nat → Bool) (s : Nat → ByteArray) : ∀ k, (selL p s k).length ≤ k
  | 0 => Nat.le_refl _
  | k + 1 => by
    have := selL_len p s k
    unfold selL
    cases p k
    · show (selL p s k).length ≤ k + 1; omega
    · show (selL p s k ++ [s k]).length ≤ k + 1
      rw [List.length_append]
      simp
      omega
theorem selL_yes {p : Nat → Bool} {s : Nat → ByteArray} {k : Nat} (h : p k = true) : selL p s (k + 1) = selL p s k ++ [s k] := by simp only [selL, h, cond_true]
theorem selL_no {p : Nat → Bool} {s : Nat → ByteArray} {k : Nat} (h : p k = false) : selL p s (k + 1) = selL p s k := by simp only [selL, h, cond_false]
def selV (p : Nat → Bool) (s : Nat → ByteArray) (k : Nat) : List Value := (selL p s k).map Value.string
theorem selV_yes {p : Nat → Bool} {s : Nat → ByteArray} {k : Nat} (h : p k = true) : selV p s (k + 1) = selV p s k ++ [.string (s k)] := by simp only [selV, selL_yes h, List.map_append, List.map_cons, List.map_nil]
theorem selV_no {p : Nat → Bool} {s : Nat → ByteArray} {k : Nat} (h : p k = false) : selV p s (k + 1) = selV p s k := by simp only [selV, selL_no h]
def selS (p : Nat → Bool) (s : Nat → ByteArray) (n : Nat) : Nat → ByteArray := fun i => (selL p s n)[i]?.getD ⟨#[]⟩
theorem sel_strs (p : Nat → Bool) (s : Nat → ByteArray) (n : Nat) : selV p s n = strsL (selS p s n) (selL p s n).length := by
  apply List.ext_getElem?
  intro i
  rcases Nat.lt_or_ge i (selL p s n).length with h | h
  · rw [strsL_at _ h]
    simp [selV, selS, h]
  · simp [selV, strsL, h]
/-- a list of texts that a call has returned -/
def StrsOut (w : World) (L : Nat) (s : Nat → ByteArray) (v : Value) (w' : World) : Prop := ∃ A c G, v = .slice A L c ∧ StrOwn w' A L s G ∧ w.heap.size ≤ G ∧ Below w.heap.size w w'
def hasM (x : BellV) (id : ByteArray) : Bool := anyB (fun i => (x.ss i).toList == id.toList) x.n
noncomputable def okBells (f : Nat → BellV) (n : Nat) : Bool := bellsOk f n && decide ((n : Int) ≤ 24)
noncomputable def rmN (f : Nat → BellV) (n : Nat) (id : ByteArray) : Nat := if okBells f n = true then (selL (fun i => hasM (f i) id) (fun i => (f i).id) n).length else 0
noncomputable def rmC (f : Nat → BellV) (n : Nat) : Int := if okBells f n = true then 0 else 1
def rmS (f : Nat → BellV) (n : Nat) (id : ByteArray) : Nat → ByteArray := selS (fun i => hasM (f i) id) (fun i => (f i).id) n
theorem rmN_le (f : Nat → BellV) (n : Nat) (id : ByteArray) : rmN f n id ≤ n := by
  unfold rmN
  split
  · exact selL_len _ _ _
  · omega
theorem strsNone (w w' : World) (s : Nat → ByteArray) (hb : Below w.heap.size w w') : StrsOut w 0 s (.slice none 0 0) w' := ⟨none, 0, w.heap.size, rfl, fun h => absurd h (Nat.lt_irrefl _), Nat.le_refl _, hb⟩
end Go.Proofs.YticnpibkpfpojaaGreatDoor
