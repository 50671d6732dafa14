/- Lists of numbers: how they read, their copy and comparison. -/
import Derived.Test.YticnpibkpfpojaaGreatIntRow
import Derived.Test.YticnpibkpfpojaaGreatFrame
import Derived.Handy
import Derived.KernelRfl
import Derived.ChangeShapes
namespace Go.Proofs.YticnpibkpfpojaaGreat
set_option linter.unusedVariables false
open Go.RowKit
def IntArr (arr : Array Value) (m : Nat) (p : Nat → Int) : Prop := ∀ i, i < m → arr[i]? = some (.int .i64 (p i))
theorem IntArr.next {arr : Array Value} {n k : Nat} {p : Nat → Int} (h : IntArr arr k p) (hs : arr.size = n) (hk : k < n) : IntArr (arr.setIfInBounds k (.int .i64 (p k))) (k + 1) p := by
  intro i hi
  rcases Nat.lt_or_ge i k with h1 | h1
  · rw [Array.getElem?_setIfInBounds_ne (by omega)]
    exact h i h1
  · obtain rfl : i = k := by omega
    rw [Array.getElem?_setIfInBounds_self_of_lt (by omega)]
theorem IntArr.row {w : World} {g T n : Nat} {arr : Array Value} {p : Nat → Int} (h : IntArr arr n p) (hb : Blk w g T arr) : IntRow w (some ⟨g, 0, none⟩) n p := fun _ =>
  ⟨g, 0, rfl, fun i hi => by rw [Nat.zero_add]; exact (hb.cell _).trans (h i hi)⟩
theorem Int64_info : (Tryz.prog.info? 2).map (fun i => (i.zero, i.size, i.bytes)) = some (some (.int .i64 0), 1, 8) := by kernel_rfl
open Go.ChangeShapes Go.WideShapes Go.Deep in
theorem openInts {H : Type} {enc : TypeId × Value → H} {w : World} {base : Nat} {spare : Nat → Bool} {held : Bool} {fuel : Nat} {A : Option Addr} {n c : Nat} {x : DataW H × List MemPlace} (h : DataW.trod enc Tryz.prog w base spare held fuel 79 [.slice A n c] = some x) :
    ∃ p, IntRow w A n p ∧ n ≤ maxLen ∧ ∀ i, i < n → (Lit.int .i64 (p i)).wf = true := by
  rcases open_slice1 Tryz.underlying79 (by kernel_rfl) h with ⟨hcs, hx⟩ | ⟨a, len, cap, m, fu, V, D, Pl, hcs, hb, hl, hm, hmm, hx, hi⟩
  · simp only [List.cons.injEq, Value.slice.injEq, and_true] at hcs
    obtain ⟨rfl, rfl, rfl⟩ := hcs
    exact ⟨fun _ => 0, fun h0 => by omega, by unfold maxLen; omega, fun i h0 => by omega⟩
  · simp only [List.cons.injEq, Value.slice.injEq, and_true] at hcs
    obtain ⟨rfl, rfl, rfl⟩ := hcs
    have hlm : n ≤ m := by rw [hmm]; split <;> omega
    have hall : ∀ i, ∃ v : Int, i < n → w.cell? (a.add i) = some (.int .i64 v) ∧ (Lit.int .i64 v).wf = true := by
      intro i
      by_cases hin : i < n
      · obtain ⟨hc, ht⟩ := hi i (by omega)
        obtain ⟨v, e, _, q⟩ := DataW.trod_int Tryz.underlying2 ht
        have e1 := one_cell e
        rw [e1] at hc
        exact ⟨v, fun _ => ⟨hc, q⟩⟩
      · exact ⟨0, fun h0 => absurd h0 hin⟩
    obtain ⟨F, hF⟩ := Classical.axiomOfChoice hall
    refine ⟨F, fun hn => ?_, by omega, fun i h0 => (hF i h0).2⟩
    have hspot : a.spot = none := by
      obtain ⟨hc0, -⟩ := hi 0 (by omega)
      simpa [Addr.add] using Go.World.cell?_spot hc0
    obtain ⟨g, o, spot⟩ := a
    simp only at hspot
    subst hspot
    exact ⟨g, o, rfl, fun i h0 => cell_add (hF i h0).1 rfl⟩
end Go.Proofs.YticnpibkpfpojaaGreat
