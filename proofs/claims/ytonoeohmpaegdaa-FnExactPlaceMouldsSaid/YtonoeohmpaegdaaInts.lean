/- Lists of numbers: how they read, their copy and comparison. -/
import Derived.Test.YtonoeohmpaegdaaIntRow
import Derived.Test.YtonoeohmpaegdaaFrame
import Derived.Handy
import Derived.KernelRfl
import Derived.ChangeShapes
namespace Go.Proofs.Ytonoeohmpaegdaa
set_option linter.unusedVariables false
open Go.RowKit
def IntArr (arr : Array Value) (m : Nat) (p : Nat → Int) : Prop := ∀ i, i < m → arr[i]? = some (.int .i64 (p i))
theorem IntArr.next {arr : Array Value} {n k : Nat} {p : Nat → Int} (h : IntArr arr k p) (hs : arr.size = n) (hk : k < n) : IntArr (arr.setIfInBounds k (.int .i64 (p k))) (k + 1) p := by
  intro i hi
  rcases Nat.lt_or_ge i k with h1 | h1
  · rw [Array.getElem?_setIfInBounds_ne (by omega)]
    exact h i h1
  · obtain rfl : i = k := by omega
    rw [Array.getElem?_setIfInBounds_self_of_lt (by omega)]
theorem IntArr.row {w : World} {g T n : Nat} {arr : Array Value} {p : Nat → Int} (h : IntArr arr n p) (hb : Blk w g T arr) : IntRow w (some ⟨g, 0, none⟩) n p := fun _ =>
  ⟨g, 0, rfl, fun i hi => by rw [Nat.zero_add]; exact (hb.cell _).trans (h i hi)⟩
theorem Int64_info : (Try.prog.info? 2).map (fun i => (i.zero, i.size, i.bytes)) = some (some (.int .i64 0), 1, 8) := by kernel_rfl
set_option maxHeartbeats 1000000 in
theorem eqInt64S_calls (A A2 : Option Addr) (n c c2 : Nat) (p : Nat → Int) (w : World) (h : IntRow w A n p) (h2 : IntRow w A2 n p) (hn : n ≤ 1048576) :
    Calls Try.prog 11 #[.slice A n c, .slice A2 n c2] w fun e w' => e = .returned (.bool true) ∧ Below w.heap.size w w' := by
  have H := Lib.hid h
  have H2 := Lib.hid h2
  clear h h2
  go_enter Try.func11, Try.ntmps11
  go_wp2
  go_loopw [5] (fun i wr => ∃ k : Nat, k ≤ n ∧ i = .int .i64 k ∧ Below w.heap.size w wr) (fun i _ => n - (intOf i).toNat)
  case atStart => exact ⟨0, by omega, rfl, Below.refl _ _⟩
  case round =>
    obtain ⟨k, hk, rfl, hbr⟩ := hrel
    by_cases hlt : k < n
    · obtain ⟨b, o, rfl, hrow⟩ := H.out (by omega)
      obtain ⟨b2, o2, rfl, hrow2⟩ := H2.out (by omega)
      have c0 : wr.cell? ⟨b, o + k, none⟩ = some (.int .i64 (p k)) := (hbr.cell (p := ⟨b, o + k, none⟩) (cell_lt (hrow k hlt))).trans (hrow k hlt)
      have c1 : wr.cell? ⟨b2, o2 + k, none⟩ = some (.int .i64 (p k)) := (hbr.cell (p := ⟨b2, o2 + k, none⟩) (cell_lt (hrow2 k hlt))).trans (hrow2 k hlt)
      have HR := Lib.hid hrow
      have HR2 := Lib.hid hrow2
      clear hrow hrow2
      go_wp2_with fail
      go_quiet (fail)
      go_wp2
      go_roundw
      case rel => exact ⟨k + 1, by omega, by go_num, below_drewN hbr _⟩
      case measure => simp [intOf]; omega
    · obtain rfl : k = n := by omega
      go_wp2
      go_ret
      exact ⟨rfl, hbr⟩
open Go.ChangeShapes Go.WideShapes Go.Deep in
theorem openInts {H : Type} {enc : TypeId × Value → H} {w : World} {base : Nat} {spare : Nat → Bool} {held : Bool} {fuel : Nat} {A : Option Addr} {n c : Nat} {x : DataW H × List MemPlace} (h : DataW.trod enc Try.prog w base spare held fuel 26 [.slice A n c] = some x) :
    ∃ p, IntRow w A n p ∧ n ≤ maxLen ∧ ∀ i, i < n → (Lit.int .i64 (p i)).wf = true := by
  rcases open_slice1 Try.underlying26 (by kernel_rfl) h with ⟨hcs, hx⟩ | ⟨a, len, cap, m, fu, V, D, Pl, hcs, hb, hl, hm, hmm, hx, hi⟩
  · simp only [List.cons.injEq, Value.slice.injEq, and_true] at hcs
    obtain ⟨rfl, rfl, rfl⟩ := hcs
    exact ⟨fun _ => 0, fun h0 => by omega, by unfold maxLen; omega, fun i h0 => by omega⟩
  · simp only [List.cons.injEq, Value.slice.injEq, and_true] at hcs
    obtain ⟨rfl, rfl, rfl⟩ := hcs
    have hlm : n ≤ m := by rw [hmm]; split <;> omega
    have hall : ∀ i, ∃ v : Int, i < n → w.cell? (a.add i) = some (.int .i64 v) ∧ (Lit.int .i64 v).wf = true := by
      intro i
      by_cases hin : i < n
      · obtain ⟨hc, ht⟩ := hi i (by omega)
        obtain ⟨v, e, _, q⟩ := DataW.trod_int Try.underlying2 ht
        have e1 := one_cell e
        rw [e1] at hc
        exact ⟨v, fun _ => ⟨hc, q⟩⟩
      · exact ⟨0, fun h0 => absurd h0 hin⟩
    obtain ⟨F, hF⟩ := Classical.axiomOfChoice hall
    refine ⟨F, fun hn => ?_, by omega, fun i h0 => (hF i h0).2⟩
    have hspot : a.spot = none := by
      obtain ⟨hc0, -⟩ := hi 0 (by omega)
      simpa [Addr.add] using Go.World.cell?_spot hc0
    obtain ⟨g, o, spot⟩ := a
    simp only at hspot
    subst hspot
    exact ⟨g, o, rfl, fun i h0 => cell_add (hF i h0).1 rfl⟩
end Go.Proofs.Ytonoeohmpaegdaa
