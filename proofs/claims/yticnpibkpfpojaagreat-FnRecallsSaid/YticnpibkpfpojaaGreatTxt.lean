/- Lists of texts as lists of bytes. No program in sight. -/
import Derived.Test.YticnpibkpfpojaaGreatStrs
import Derived.Test.YticnpibkpfpojaaGreatSortS
namespace Go.Proofs.YticnpibkpfpojaaGreat
set_option linter.unusedVariables false
open Go.RowKit Go.Sort
def sl (L : List (List UInt8)) : Nat → ByteArray := fun i => ⟨(L[i]?.getD []).toArray⟩
theorem ba_eta (s : ByteArray) : (⟨s.toList.toArray⟩ : ByteArray) = s := by
  rw [ByteArray.toList_eq]
theorem enc_of (s : ByteArray) : Value.string s = encStr s.toList := by
  show Value.string s = Value.string ⟨s.toList.toArray⟩
  rw [ba_eta]
theorem toL (l : List UInt8) : (⟨l.toArray⟩ : ByteArray).toList = l := by
  rw [ByteArray.toList_eq]
theorem sl_strs (L : List (List UInt8)) : L.map encStr = strsL (sl L) L.length := by
  apply List.ext_getElem?
  intro i
  rcases Nat.lt_or_ge i L.length with h | h
  · rw [strsL_at _ h]
    simp [sl, h, encStr]
  · simp [strsL, h]
/-- a list of texts that a call has returned -/
def TxtOut (w : World) (L : List (List UInt8)) (v : Value) (w' : World) : Prop := ∃ A c G, v = .slice A L.length c ∧ StrOwn w' A L.length (sl L) G ∧ w.heap.size ≤ G ∧ Below w.heap.size w w'
theorem snocS {w : World} {base e : Nat} {v : Value} {L : List (List UInt8)} {y : ByteArray} (h : w.ownsRow base e 1 v (L.length + 1) (L.map encStr ++ [.string y])) : w.ownsRow base e 1 v (L ++ [y.toList]).length ((L ++ [y.toList]).map encStr) := by
  rw [List.map_append, List.length_append]
  rw [enc_of] at h
  exact h
end Go.Proofs.YticnpibkpfpojaaGreat
