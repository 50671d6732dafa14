/- Lists of shares of the call's own. -/
import Derived.Test.YticnpibkpfpojaaGreatDoorShare
namespace Go.Proofs.YticnpibkpfpojaaGreatDoor
set_option linter.unusedVariables false
open Go.RowKit
def ShareArr (arr : Array Value) (m : Nat) (s0 : Nat → ByteArray) (a1 : Nat → Int) : Prop := ∀ i, i < m → arr[i * 2]? = some (.string (s0 i)) ∧ arr[i * 2 + 1]? = some (.int .i64 (a1 i))
theorem ShareArr.row {w : World} {g T n : Nat} {arr : Array Value} {s0 : Nat → ByteArray} {a1 : Nat → Int} (h : ShareArr arr n s0 a1) (hb : Blk w g T arr) : ShareRow w (some ⟨g, 0, none⟩) n s0 a1 := fun _ =>
  ⟨g, 0, rfl, fun i hi => by
    have h2 := h i hi
    rw [Nat.zero_add]
    exact ⟨(hb.cell _).trans h2.1, (hb.cell _).trans h2.2⟩⟩
/-- the shares lie at the head of a block of the call's own -/
def ShareOwn (w : World) (A : Option Addr) (n : Nat) (s0 : Nat → ByteArray) (a1 : Nat → Int) (G : Nat) : Prop := 0 < n → A = some ⟨G, 0, none⟩ ∧ ∃ arr : Array Value, Blk w G 41 arr ∧ n * 2 ≤ arr.size ∧ ShareArr arr n s0 a1
theorem ShareOwn.row {w : World} {A : Option Addr} {n G : Nat} {s0 : Nat → ByteArray} {a1 : Nat → Int} (h : ShareOwn w A n s0 a1 G) : ShareRow w A n s0 a1 := fun hn => by
  obtain ⟨hA, arr, hb, -, ha⟩ := h hn
  exact hA ▸ (ha.row hb) hn
theorem ShareOwn.keep {w w' : World} {A : Option Addr} {n G : Nat} {s0 : Nat → ByteArray} {a1 : Nat → Int} (h : ShareOwn w A n s0 a1 G) (hb : Below w.heap.size w w') : ShareOwn w' A n s0 a1 G := fun hn => by
  obtain ⟨hA, arr, hk, hs, ha⟩ := h hn
  exact ⟨hA, arr, hk.keep hb, hs, ha⟩
theorem ShareOwn.grown {w w' : World} {A : Option Addr} {n G H : Nat} {s0 : Nat → ByteArray} {a1 : Nat → Int} (h : ShareOwn w A n s0 a1 G) (hg : w.grownBy w' (some H)) (hne : 0 < n → G ≠ H) : ShareOwn w' A n s0 a1 G := fun hn => by
  obtain ⟨hA, arr, hk, hs, ha⟩ := h hn
  exact ⟨hA, arr, (hg.block G hk.lt (by simpa using hne hn)).trans hk, hs, ha⟩
theorem ShareOwn.same {w w' : World} {A : Option Addr} {n G : Nat} {s0 : Nat → ByteArray} {a1 : Nat → Int} (h : ShareOwn w A n s0 a1 G) (hb : w'.heap[G]? = w.heap[G]?) : ShareOwn w' A n s0 a1 G := fun hn => by
  obtain ⟨hA, arr, hk, hs, ha⟩ := h hn
  exact ⟨hA, arr, hb.trans hk, hs, ha⟩
end Go.Proofs.YticnpibkpfpojaaGreatDoor
