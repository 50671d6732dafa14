/- Lists of texts: how they read, their size, copy and comparison; the text of a mark, and what mark and held do with lists of texts. -/
import Derived.Test.YticnpibkpfpojaaGreatDoorOwn
import Derived.Test.YticnpibkpfpojaaGreatDoorFrame
import Derived.Handy
import Derived.KernelRfl
import Derived.ChangeShapes
import Derived.ShutString
import Derived.Lib.ConvBytes
import Derived.Deep.RegionHeld3
namespace Go.Proofs.YticnpibkpfpojaaGreatDoor
set_option linter.unusedVariables false
open Go.RowKit

def StrRow (w : World) (A : Option Addr) (n : Nat) (s : Nat → ByteArray) : Prop := 0 < n → ∃ b o, A = some ⟨b, o, none⟩ ∧ ∀ i, i < n → w.cell? ⟨b, o + i, none⟩ = some (.string (s i))
theorem StrRow.keep {w w' : World} {A : Option Addr} {n : Nat} {s : Nat → ByteArray} (h : StrRow w A n s) (hb : Below w.heap.size w w') : StrRow w' A n s := fun hn => by
  obtain ⟨b, o, hA, hall⟩ := h hn
  exact ⟨b, o, hA, fun i hi => cell_keep hb (hall i hi)⟩
theorem StrRow.below {w w' : World} {A : Option Addr} {n B : Nat} {s : Nat → ByteArray} (h : StrRow w A n s) (hb : Below B w w') (hB : w.heap.size ≤ B) : StrRow w' A n s := h.keep (hb.mono hB)
theorem StrRow.same {w w' : World} {g q n : Nat} {s : Nat → ByteArray} (h : StrRow w (some ⟨g, q, none⟩) n s) (hb : w'.heap[g]? = w.heap[g]?) : StrRow w' (some ⟨g, q, none⟩) n s := fun hn => by
  obtain ⟨b, o, hA, hall⟩ := h hn
  simp only [Option.some.injEq, Addr.mk.injEq, and_true] at hA
  obtain ⟨rfl, rfl⟩ := hA
  exact ⟨g, q, rfl, fun i hi => (World.cell?_of_block (w := w) (a := ⟨g, q + i, none⟩) hb).trans (hall i hi)⟩
theorem StrRow.drewN {w : World} {A : Option Addr} {n : Nat} {s : Nat → ByteArray} (h : StrRow w A n s) (m : Nat) : StrRow (w.drewN m) A n s := h
def StrArr (arr : Array Value) (m : Nat) (s : Nat → ByteArray) : Prop := ∀ i, i < m → arr[i]? = some (.string (s i))
theorem StrArr.mark {arr : Array Value} {n k : Nat} {s : Nat → ByteArray} (h : StrArr arr k s) (hs : n ≤ arr.size) (hk : k < n) {v : ByteArray} (e : v = s k) : StrArr (arr.setIfInBounds k (.string v)) (k + 1) s := by
  subst e
  intro i hi
  rcases Nat.lt_or_ge i k with h1 | h1
  · rw [Array.getElem?_setIfInBounds_ne (by omega)]
    exact h i h1
  · obtain rfl : i = k := by omega
    rw [Array.getElem?_setIfInBounds_self_of_lt (by omega)]
theorem StrArr.row {w : World} {g T n : Nat} {arr : Array Value} {s : Nat → ByteArray} (h : StrArr arr n s) (hb : Blk w g T arr) : StrRow w (some ⟨g, 0, none⟩) n s := fun _ =>
  ⟨g, 0, rfl, fun i hi => by rw [Nat.zero_add]; exact (hb.cell _).trans (h i hi)⟩
/-- a row of texts at the head of a block of the call's own -/
def StrOwn (w : World) (A : Option Addr) (n : Nat) (s : Nat → ByteArray) (G : Nat) : Prop := 0 < n → A = some ⟨G, 0, none⟩ ∧ ∃ arr : Array Value, Blk w G 9 arr ∧ n ≤ arr.size ∧ StrArr arr n s
theorem StrOwn.row {w : World} {A : Option Addr} {n G : Nat} {s : Nat → ByteArray} (h : StrOwn w A n s G) : StrRow w A n s := fun hn => by
  obtain ⟨hA, arr, hb, -, ha⟩ := h hn
  exact hA ▸ (ha.row hb) hn
theorem StrOwn.keep {w w' : World} {A : Option Addr} {n G : Nat} {s : Nat → ByteArray} (h : StrOwn w A n s G) (hb : Below w.heap.size w w') : StrOwn w' A n s G := fun hn => by
  obtain ⟨hA, arr, hk, hs, ha⟩ := h hn
  exact ⟨hA, arr, hk.keep hb, hs, ha⟩
theorem StrOwn.grown {w w' : World} {A : Option Addr} {n G H : Nat} {s : Nat → ByteArray} (h : StrOwn w A n s G) (hg : w.grownBy w' (some H)) (hne : 0 < n → G ≠ H) : StrOwn w' A n s G := fun hn => by
  obtain ⟨hA, arr, hk, hs, ha⟩ := h hn
  exact ⟨hA, arr, (hg.block G hk.lt (by simpa using hne hn)).trans hk, hs, ha⟩
theorem StrOwn.same {w w' : World} {A : Option Addr} {n G : Nat} {s : Nat → ByteArray} (h : StrOwn w A n s G) (hb : 0 < n → w'.heap[G]? = w.heap[G]?) : StrOwn w' A n s G := fun hn => by
  obtain ⟨hA, arr, hk, hs, ha⟩ := h hn
  exact ⟨hA, arr, (hb hn).trans hk, hs, ha⟩
theorem StrOwn.lt {w : World} {A : Option Addr} {n G : Nat} {s : Nat → ByteArray} (h : StrOwn w A n s G) (hn : 0 < n) : G < w.heap.size := by
  obtain ⟨-, arr, hb, -⟩ := h hn
  exact hb.lt
/-- the first k texts as cells -/
def strsL (s : Nat → ByteArray) (k : Nat) : List Value := (List.range k).map fun i => .string (s i)
theorem strsL_succ (s : Nat → ByteArray) (k : Nat) : strsL s k ++ [.string (s k)] = strsL s (k + 1) := by simp [strsL, List.range_succ]
theorem strsL_len (s : Nat → ByteArray) (k : Nat) : (strsL s k).length = k := by simp [strsL]
theorem strsL_at (s : Nat → ByteArray) {k i : Nat} (h : i < k) : (strsL s k)[i]? = some (.string (s i)) := by simp [strsL, h]
theorem strOwn_of {w : World} {base n : Nat} {v : Value} {s : Nat → ByteArray} (ho : w.ownsRow base 9 1 v n (strsL s n)) (hbase : base ≤ w.heap.size) : ∃ A c G, v = .slice A n c ∧ StrOwn w A n s G ∧ base ≤ G := by
  rcases ho.2 with ⟨hv, h0⟩ | ⟨g, cap, cur, hv, hb, hg, hc, hm, hs, ht⟩
  · subst h0
    exact ⟨none, 0, base, hv, fun h => absurd h (Nat.lt_irrefl _), Nat.le_refl _⟩
  · refine ⟨some ⟨g, 0, none⟩, cap, g, hv, fun hn => ⟨rfl, cur, hg, by rw [hs]; omega, fun i hi => ?_⟩, hb⟩
    have := (congrArg (fun l => l[i]?) ht)
    simp only [List.getElem?_take, Nat.mul_one, if_pos hi, strsL_at s hi] at this
    simpa using this
theorem Str_info : (Tryz.prog.info? 9).map (fun i => (i.zero, i.size, i.bytes)) = some (some (.string ⟨#[]⟩), 1, 16) := by kernel_rfl
/-- values and letters of a list of texts -/
def strsSz (s : Nat → ByteArray) (n : Nat) : Nat := n + sumS s n
/-- the digits of j ahead of t -/
noncomputable def digT (j : Nat) (t : ByteArray) : ByteArray := if h : 0 < j then digT (j / 10) ((⟨[UInt8.ofNat (48 + j % 10)].toArray⟩ : ByteArray) ++ t) else t
termination_by j
decreasing_by exact Nat.div_lt_self h (by omega)
theorem digT_pos {j : Nat} (h : 0 < j) (t : ByteArray) : digT j t = digT (j / 10) ((⟨[UInt8.ofNat (48 + j % 10)].toArray⟩ : ByteArray) ++ t) := by
  rw [digT, dif_pos h]
theorem digT_zero (t : ByteArray) : digT 0 t = t := by
  rw [digT, dif_neg (by omega)]
/-- the text of mark k -/
noncomputable def mkT (k : Nat) : ByteArray := (⟨#[109]⟩ : ByteArray) ++ digT k ⟨#[]⟩
noncomputable def mkS (k : Nat) : Nat → ByteArray := fun i => mkT (k + i)
open Go.ChangeShapes Go.WideShapes Go.Deep in
theorem openStrs {H : Type} {enc : TypeId × Value → H} {w : World} {base : Nat} {spare : Nat → Bool} {held : Bool} {fuel : Nat} {A : Option Addr} {n c : Nat} {x : DataW H × List MemPlace} (h : DataW.trod enc Tryz.prog w base spare held fuel 59 [.slice A n c] = some x) :
    ∃ s, StrRow w A n s ∧ n ≤ maxLen ∧ ∀ i, i < n → (s i).size ≤ maxLen := by
  rcases open_slice1 Tryz.underlying59 (by kernel_rfl) h with ⟨hcs, hx⟩ | ⟨a, len, cap, m, fu, V, D, Pl, hcs, hb, hl, hm, hmm, hx, hi⟩
  · simp only [List.cons.injEq, Value.slice.injEq, and_true] at hcs
    obtain ⟨rfl, rfl, rfl⟩ := hcs
    exact ⟨fun _ => ⟨#[]⟩, fun h0 => by omega, by unfold maxLen; omega, fun i h0 => by omega⟩
  · simp only [List.cons.injEq, Value.slice.injEq, and_true] at hcs
    obtain ⟨rfl, rfl, rfl⟩ := hcs
    have hlm : n ≤ m := by rw [hmm]; split <;> omega
    have hall : ∀ i, ∃ v : ByteArray, i < n → w.cell? (a.add i) = some (.string v) ∧ v.size ≤ maxLen := by
      intro i
      by_cases hin : i < n
      · obtain ⟨hc, ht⟩ := hi i (by omega)
        obtain ⟨v, e, _, q⟩ := DataW.trod_string Tryz.underlying9 ht
        have e1 := one_cell e
        rw [e1] at hc
        exact ⟨v, fun _ => ⟨hc, q⟩⟩
      · exact ⟨⟨#[]⟩, fun h0 => absurd h0 hin⟩
    obtain ⟨F, hF⟩ := Classical.axiomOfChoice hall
    refine ⟨F, fun hn => ?_, by omega, fun i h0 => (hF i h0).2⟩
    have hspot : a.spot = none := by
      obtain ⟨hc0, -⟩ := hi 0 (by omega)
      simpa [Addr.add] using Go.World.cell?_spot hc0
    obtain ⟨g, o, spot⟩ := a
    simp only at hspot
    subst hspot
    exact ⟨g, o, rfl, fun i h0 => cell_add (hF i h0).1 rfl⟩
end Go.Proofs.YticnpibkpfpojaaGreatDoor
