/- A text cut at each of a byte, as the reference cuts it. -/
import Derived.Test.YtflhkldfhndafaaGreatDoorReadP
import Derived.Lib.PathFns
namespace Go.Proofs.YtflhkldfhndafaaGreatDoor
set_option linter.unusedVariables false
open Go.RowKit
theorem bl_extract (s : ByteArray) (a b : Nat) : bl (s.extract a b) = ((bl s).drop a).take (b - a) := by
  rw [Lib.extract_eq]
theorem bl_get {s : ByteArray} {k : Nat} (h : k < s.size) : (bl s)[k]? = some s[k] := by
  rw [List.getElem?_eq_getElem (by rw [bl_len]; exact h)]
  rfl
theorem bt_hit {s : ByteArray} {k c : Nat} (hk : k < s.size) (hc : c < 256) : bt s k = (c : Int) ↔ (bl s)[k]? = some (UInt8.ofNat c) := by
  rw [bl_get hk, ← get_bt s k hk]
  constructor
  · intro h
    congr 1
    apply UInt8.toNat_inj.1
    rw [UInt8.toNat_ofNat']
    omega
  · intro h
    have := Option.some.inj h
    rw [this, UInt8.toNat_ofNat']
    omega
def SpInv (c : UInt8) (l : List UInt8) (acc : List (List UInt8)) (f k : Nat) : Prop := f ≤ k ∧ k ≤ l.length ∧ splC c l = acc ++ splC c (l.drop f) ∧ c ∉ (l.drop f).take (k - f)
theorem sp_start (c : UInt8) (l : List UInt8) : SpInv c l [] 0 0 := ⟨Nat.le_refl _, Nat.zero_le _, by simp, by simp⟩
theorem sp_hit {c : UInt8} {l : List UInt8} {acc : List (List UInt8)} {f k : Nat} (h : SpInv c l acc f k) (hk : l[k]? = some c) : SpInv c l (acc ++ [(l.drop f).take (k - f)]) (k + 1) (k + 1) := by
  obtain ⟨h1, h2, h3, h4⟩ := h
  have hlt := (List.getElem?_eq_some_iff.1 hk).1
  refine ⟨Nat.le_refl _, hlt, ?_, by simp⟩
  have e : l.drop f = (l.drop f).take (k - f) ++ c :: l.drop (k + 1) := by
    conv => lhs; rw [← List.take_append_drop (k - f) (l.drop f)]
    rw [List.drop_drop, show f + (k - f) = k by omega, List.drop_eq_getElem_cons hlt]
    have := (List.getElem?_eq_some_iff.1 hk).2
    rw [this]
  rw [h3]
  conv => lhs; rw [e, splC_app h4]
  simp
theorem sp_miss {c b : UInt8} {l : List UInt8} {acc : List (List UInt8)} {f k : Nat} (h : SpInv c l acc f k) (hk : l[k]? = some b) (hb : b ≠ c) : SpInv c l acc f (k + 1) := by
  obtain ⟨h1, h2, h3, h4⟩ := h
  have hlt := (List.getElem?_eq_some_iff.1 hk).1
  refine ⟨by omega, hlt, h3, ?_⟩
  have e : (l.drop f)[k - f]? = some b := by rw [List.getElem?_drop, show f + (k - f) = k by omega, hk]
  rw [show k + 1 - f = (k - f) + 1 by omega, List.take_add_one, e]
  intro q
  rcases List.mem_append.1 q with q | q
  · exact h4 q
  · have h := q
    simp at h
    exact hb h.symm
theorem sp_end {c : UInt8} {l : List UInt8} {acc : List (List UInt8)} {f : Nat} (h : SpInv c l acc f l.length) : splC c l = acc ++ [l.drop f] := by
  obtain ⟨h1, h2, h3, h4⟩ := h
  rw [h3, List.take_of_length_le (by simp)] at *
  rw [splC_none h4]
theorem sp_len {c : UInt8} {l : List UInt8} : (splC c l).length ≤ l.length + 1 := by
  induction hn : l.length using Nat.strongRecOn generalizing l with
  | ind n ih =>
    rcases cut_cases c l with h | ⟨a, r, rfl, h⟩
    · rw [splC_none h]; simp
    · have e := ih r.length (by rw [← hn]; simp; omega) (l := r) rfl
      rw [splC_app h]
      simp at hn ⊢
      omega
theorem sp_size {c : UInt8} {l : List UInt8} : ∀ x ∈ splC c l, x.length ≤ l.length := by
  induction hn : l.length using Nat.strongRecOn generalizing l with
  | ind n ih =>
    rcases cut_cases c l with h | ⟨a, r, rfl, h⟩
    · rw [splC_none h]
      intro x hx
      obtain rfl : x = l := by simpa using hx
      omega
    · have e := ih r.length (by rw [← hn]; simp; omega) (l := r) rfl
      rw [splC_app h]
      intro x hx
      simp at hn
      rcases List.mem_cons.1 hx with rfl | hx
      · omega
      · have := e x hx
        omega
/-- texts as a block's cells -/
def strV (ls : List (List UInt8)) : List Value := ls.map fun l => .string (tx l)
theorem strV_snoc (ls : List (List UInt8)) (x : List UInt8) : strV ls ++ [.string (tx x)] = strV (ls ++ [x]) := by simp [strV]
theorem strV_ext (ls : List (List UInt8)) (s : ByteArray) (a b : Nat) : strV ls ++ [.string (s.extract a b)] = strV (ls ++ [((bl s).drop a).take (b - a)]) := by
  rw [← strV_snoc, ← bl_extract, tx_bl]
/-- texts at a block -/
def TxAt (w : World) (g : Nat) (ls : List (List UInt8)) : Prop := g < w.heap.size ∧ ∀ (i : Nat) (x : List UInt8), ls[i]? = some x → w.cell? ⟨g, i, none⟩ = some (.string (tx x))
theorem TxAt.keep {w w' : World} {g n : Nat} {ls : List (List UInt8)} (h : TxAt w g ls) (hb : Below n w w') (hn : g < n) (hs : w.heap.size ≤ w'.heap.size) : TxAt w' g ls :=
  ⟨by have := h.1; omega, fun i x hx => (hb.cell (p := ⟨g, i, none⟩) hn).trans (h.2 i x hx)⟩
end Go.Proofs.YtflhkldfhndafaaGreatDoor
