/- What mark and held do with lists of numbers, and markText. -/
import Derived.Test.YticnpibkpfpojaaGreatInts
import Derived.Test.YticnpibkpfpojaaGreatOwn
import Derived.KernelRfl
namespace Go.Proofs.YticnpibkpfpojaaGreat
set_option linter.unusedVariables false
open Go.RowKit

/-- a row of numbers at the head of a block of the call's own -/
def IntOwn (w : World) (A : Option Addr) (n : Nat) (p : Nat → Int) (G : Nat) : Prop := 0 < n → A = some ⟨G, 0, none⟩ ∧ ∃ arr : Array Value, Blk w G 2 arr ∧ n ≤ arr.size ∧ IntArr arr n p
theorem IntOwn.row {w : World} {A : Option Addr} {n G : Nat} {p : Nat → Int} (h : IntOwn w A n p G) : IntRow w A n p := fun hn => by
  obtain ⟨hA, arr, hb, -, ha⟩ := h hn
  exact hA ▸ (ha.row hb) hn
theorem IntOwn.keep {w w' : World} {A : Option Addr} {n G : Nat} {p : Nat → Int} (h : IntOwn w A n p G) (hb : Below w.heap.size w w') : IntOwn w' A n p G := fun hn => by
  obtain ⟨hA, arr, hk, hs, ha⟩ := h hn
  exact ⟨hA, arr, hk.keep hb, hs, ha⟩
theorem IntOwn.grown {w w' : World} {A : Option Addr} {n G H : Nat} {p : Nat → Int} (h : IntOwn w A n p G) (hg : w.grownBy w' (some H)) (hne : 0 < n → G ≠ H) : IntOwn w' A n p G := fun hn => by
  obtain ⟨hA, arr, hk, hs, ha⟩ := h hn
  exact ⟨hA, arr, (hg.block G hk.lt (by simpa using hne hn)).trans hk, hs, ha⟩
theorem IntOwn.lt {w : World} {A : Option Addr} {n G : Nat} {p : Nat → Int} (h : IntOwn w A n p G) (hn : 0 < n) : G < w.heap.size := by
  obtain ⟨-, arr, hb, -⟩ := h hn
  exact hb.lt
theorem intOwn_of {w : World} {base n : Nat} {v : Value} {f : Nat → Int} (ho : w.ownsRow base 2 1 v n (intsL f n)) (hbase : base ≤ w.heap.size) : ∃ A c G, v = .slice A n c ∧ IntOwn w A n f G ∧ base ≤ G := by
  rcases ho.2 with ⟨hv, h0⟩ | ⟨g, cap, cur, hv, hb, hg, hc, hm, hs, ht⟩
  · subst h0
    exact ⟨none, 0, base, hv, fun h => absurd h (Nat.lt_irrefl _), Nat.le_refl _⟩
  · refine ⟨some ⟨g, 0, none⟩, cap, g, hv, fun hn => ⟨rfl, cur, hg, by rw [hs]; omega, fun i hi => ?_⟩, hb⟩
    have := (congrArg (fun l => l[i]?) ht)
    simp only [List.getElem?_take, Nat.mul_one, if_pos hi, intsL_at f hi] at this
    simpa using this
theorem IntArr.mark {arr : Array Value} {n k : Nat} {p : Nat → Int} (h : IntArr arr k p) (hs : n ≤ arr.size) (hk : k < n) {v : Int} (e : v = p k) : IntArr (arr.setIfInBounds k (.int .i64 v)) (k + 1) p := by
  subst e
  intro i hi
  rcases Nat.lt_or_ge i k with h1 | h1
  · rw [Array.getElem?_setIfInBounds_ne (by omega)]
    exact h i h1
  · obtain rfl : i = k := by omega
    rw [Array.getElem?_setIfInBounds_self_of_lt (by omega)]
def mk1 (k : Nat) : Nat → Int := fun i => ((k + i : Nat) : Int)
end Go.Proofs.YticnpibkpfpojaaGreat
