/- A change of memory that writes only into the blocks lo .. hi, and there only texts over texts and numbers over numbers. No program in sight. -/
import Derived.Test.YticnpibkpfpojaaGreatDoorOwn
namespace Go.Proofs.YticnpibkpfpojaaGreatDoor
set_option linter.unusedVariables false
open Go.RowKit
def kindV : Value → Value
  | .string _ => .string ⟨#[]⟩
  | .int k _ => .int k 0
  | v => v
structure Kin (lo hi : Nat) (w w' : World) : Prop where
  os : w'.os = w.os
  tape : w'.tape = w.tape
  output : w'.output = w.output
  size : w.heap.size ≤ w'.heap.size
  far : ∀ k, k < w.heap.size → ¬ (lo ≤ k ∧ k < hi) → w'.heap[k]? = w.heap[k]?
  near : ∀ g T arr, lo ≤ g → g < hi → Blk w g T arr → ∃ arr' : Array Value, Blk w' g T arr' ∧ arr'.size = arr.size ∧ ∀ i : Nat, (arr'[i]?).map kindV = (arr[i]?).map kindV
theorem Kin.refl (lo hi : Nat) (w : World) : Kin lo hi w w := ⟨rfl, rfl, rfl, Nat.le_refl _, fun _ _ _ => rfl, fun _ _ arr _ _ h => ⟨arr, h, rfl, fun _ => rfl⟩⟩
theorem Kin.trans {lo hi : Nat} {w w1 w2 : World} (h : Kin lo hi w w1) (h2 : Kin lo hi w1 w2) : Kin lo hi w w2 :=
  ⟨h2.os.trans h.os, h2.tape.trans h.tape, h2.output.trans h.output, Nat.le_trans h.size h2.size, fun k hk hn => (h2.far k (Nat.lt_of_lt_of_le hk h.size) hn).trans (h.far k hk hn), fun g T arr h1 h3 hb => by
    obtain ⟨a1, b1, s1, e1⟩ := h.near g T arr h1 h3 hb
    obtain ⟨a2, b2, s2, e2⟩ := h2.near g T a1 h1 h3 b1
    exact ⟨a2, b2, s2.trans s1, fun i => (e2 i).trans (e1 i)⟩⟩
theorem Kin.of {lo hi : Nat} {w w' : World} (h : Below w.heap.size w w') : Kin lo hi w w' :=
  ⟨h.os, h.tape, h.output, h.size, fun k hk _ => h.block k hk, fun g T arr _ _ hb => ⟨arr, hb.keep h, rfl, fun _ => rfl⟩⟩
theorem Blk.uniq {w : World} {g : Nat} {t t2 : TypeId} {a a2 : Array Value} (h : Blk w g t a) (h2 : Blk w g t2 a2) : t = t2 ∧ a = a2 := by
  unfold Blk at h h2
  rw [h] at h2
  simp only [Option.some.injEq, Obj.cells.injEq, and_true] at h2
  exact ⟨h2.2, h2.1⟩
theorem Kin.set {lo hi : Nat} {w : World} {g i : Nat} {T : TypeId} {arr : Array Value} {u v : Value} (hb : Blk w g T arr) (hu : arr[i]? = some u) (hv : kindV v = kindV u) (h1 : lo ≤ g) (h2 : g < hi) : Kin lo hi w (w.setCell ⟨g, i, none⟩ v) :=
  ⟨rfl, rfl, rfl, by simp [World.setCell], fun k hk hn => Below.heap_setCell w ⟨g, i, none⟩ v k (fun e => hn ⟨by simp at e; omega, by simp at e; omega⟩), fun g' T' arr' h3 h4 hb' => by
    by_cases hg : g' = g
    · subst hg
      obtain ⟨rfl, rfl⟩ := hb.uniq hb'
      refine ⟨_, hb.set_ i v, by simp, fun j => ?_⟩
      by_cases hj : j = i
      · subst hj
        rw [Array.getElem?_setIfInBounds_self_of_lt (by rcases Nat.lt_or_ge j arr.size with q | q; exact q; rw [Array.getElem?_eq_none q] at hu; cases hu), hu]
        simp [hv]
      · rw [Array.getElem?_setIfInBounds_ne (by omega)]
    · exact ⟨arr', hb'.far (by simpa using hg) v, rfl, fun _ => rfl⟩⟩
theorem kin_two {lo hi : Nat} {w : World} {g i : Nat} {T : TypeId} {arr : Array Value} {u0 u1 : Value} (hb : Blk w g T arr) (h0 : arr[i]? = some u0) (h1 : arr[i + 1]? = some u1) (l1 : lo ≤ g) (l2 : g < hi) (v0 v1 : Value) (e0 : kindV v0 = kindV u0) (e1 : kindV v1 = kindV u1) :
    Kin lo hi w ((w.setCell ⟨g, i, none⟩ v0).setCell ⟨g, i + 1, none⟩ v1) := by
  have b1 := hb.set_ i v0
  have g1 : (arr.setIfInBounds i v0)[i + 1]? = some u1 := by rw [Array.getElem?_setIfInBounds_ne (by omega)]; exact h1
  exact (Kin.set hb h0 e0 l1 l2).trans (Kin.set b1 g1 e1 l1 l2)
theorem kin_four {lo hi : Nat} {w : World} {g i : Nat} {T : TypeId} {arr : Array Value} {u0 u1 u2 u3 : Value} (hb : Blk w g T arr) (h0 : arr[i]? = some u0) (h1 : arr[i + 1]? = some u1) (h2 : arr[i + 2]? = some u2) (h3 : arr[i + 3]? = some u3) (l1 : lo ≤ g) (l2 : g < hi) (v0 v1 v2 v3 : Value) (e0 : kindV v0 = kindV u0) (e1 : kindV v1 = kindV u1) (e2 : kindV v2 = kindV u2) (e3 : kindV v3 = kindV u3) :
    Kin lo hi w ((((w.setCell ⟨g, i, none⟩ v0).setCell ⟨g, i + 1, none⟩ v1).setCell ⟨g, i + 2, none⟩ v2).setCell ⟨g, i + 3, none⟩ v3) := by
  have b1 := hb.set_ i v0
  have b2 := b1.set_ (i + 1) v1
  have b3 := b2.set_ (i + 2) v2
  have g2 : ((arr.setIfInBounds i v0).setIfInBounds (i + 1) v1)[i + 2]? = some u2 := by
    rw [Array.getElem?_setIfInBounds_ne (by omega), Array.getElem?_setIfInBounds_ne (by omega)]; exact h2
  have g3 : (((arr.setIfInBounds i v0).setIfInBounds (i + 1) v1).setIfInBounds (i + 2) v2)[i + 3]? = some u3 := by
    rw [Array.getElem?_setIfInBounds_ne (by omega), Array.getElem?_setIfInBounds_ne (by omega), Array.getElem?_setIfInBounds_ne (by omega)]; exact h3
  exact ((kin_two hb h0 h1 l1 l2 v0 v1 e0 e1).trans (Kin.set b2 g2 e2 l1 l2)).trans (Kin.set b3 g3 e3 l1 l2)
theorem Kin.below {lo hi : Nat} {w w' : World} (h : Kin lo hi w w') (hl : lo ≤ w.heap.size) : Below lo w w' :=
  ⟨h.os, h.tape, h.output, h.size, fun k hk => h.far k (Nat.lt_of_lt_of_le hk hl) (fun q => by omega)⟩
theorem kin_string {a b : Option Value} {s : ByteArray} (h : a.map kindV = b.map kindV) (hb : b = some (.string s)) : ∃ s', a = some (.string s') := by
  subst hb
  cases a with
  | none => cases h
  | some v => cases v <;> simp [kindV] at h ⊢
theorem kin_int {a b : Option Value} {x : Int} {k : IntKind} (h : a.map kindV = b.map kindV) (hb : b = some (.int k x)) : ∃ x', a = some (.int k x') := by
  subst hb
  cases a with
  | none => cases h
  | some v => cases v <;> simp [kindV] at h ⊢ <;> first | exact h | (subst h; exact ⟨_, rfl⟩)
theorem kin_slice {a b : Option Value} {A : Option Addr} {n c : Nat} (h : a.map kindV = b.map kindV) (hb : b = some (.slice A n c)) : a = some (.slice A n c) := by
  subst hb
  cases a with
  | none => cases h
  | some v => cases v <;> simp [kindV] at h ⊢ <;> exact h
/-- the sum of the first n counts -/
def sumN (f : Nat → Nat) : Nat → Nat
  | 0 => 0
  | n + 1 => sumN f n + f n
theorem sumN_le (f : Nat → Nat) {k n : Nat} (h : k ≤ n) : sumN f k ≤ sumN f n := by
  induction n with
  | zero => obtain rfl : k = 0 := by omega
            exact Nat.le_refl _
  | succ m ih =>
    rcases Nat.lt_or_ge k (m + 1) with h1 | h1
    · exact Nat.le_trans (ih (by omega)) (Nat.le_add_right _ _)
    · obtain rfl : k = m + 1 := by omega
      exact Nat.le_refl _
end Go.Proofs.YticnpibkpfpojaaGreatDoor
