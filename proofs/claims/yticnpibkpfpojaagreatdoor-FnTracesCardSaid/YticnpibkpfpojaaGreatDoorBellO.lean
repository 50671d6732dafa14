/- Lists of bells of the call's own: each bell's shares lie in a block of their own, and all are apart. -/
import Derived.Test.YticnpibkpfpojaaGreatDoorShareO
import Derived.Test.YticnpibkpfpojaaGreatDoorBells
import Derived.Test.YticnpibkpfpojaaGreatDoorKin
import Derived.Test.YticnpibkpfpojaaGreatDoorStrs
import Derived.Test.YticnpibkpfpojaaGreatDoorOwn
import Derived.Deep.AppendLies
namespace Go.Proofs.YticnpibkpfpojaaGreatDoor
set_option linter.unusedVariables false
open Go.RowKit

/-- a bell's cells -/
def bellC (x : BellV) (v : Value) : List Value := [.string x.id, .int .i64 x.no, .int .i64 x.ma, .int .i64 x.fe, v]
/-- the shares lie at the head of a block of the call's own that has room for c -/
def ShareOwnC (w : World) (n : Nat) (ss : Nat → ByteArray) (ms : Nat → Int) (G c : Nat) : Prop := ∃ arr : Array Value, Blk w G 41 arr ∧ arr.size = c * 2 ∧ n ≤ c ∧ c ≤ maxLen ∧ ShareArr arr n ss ms
theorem ShareOwnC.own {w : World} {n G c : Nat} {ss : Nat → ByteArray} {ms : Nat → Int} (h : ShareOwnC w n ss ms G c) : ShareOwn w (some ⟨G, 0, none⟩) n ss ms G := fun _ => by
  obtain ⟨arr, hb, hs, hc, -, ha⟩ := h
  exact ⟨rfl, arr, hb, by omega, ha⟩
theorem ShareOwnC.same {w w' : World} {n G c : Nat} {ss : Nat → ByteArray} {ms : Nat → Int} (h : ShareOwnC w n ss ms G c) (hb : w'.heap[G]? = w.heap[G]?) : ShareOwnC w' n ss ms G c := by
  obtain ⟨arr, hk, h2⟩ := h
  exact ⟨arr, hb.trans hk, h2⟩
theorem ShareOwnC.keep {w w' : World} {n G c : Nat} {ss : Nat → ByteArray} {ms : Nat → Int} (h : ShareOwnC w n ss ms G c) (hb : Below w.heap.size w w') : ShareOwnC w' n ss ms G c := by
  obtain ⟨arr, hk, h2⟩ := h
  exact ⟨arr, hk.keep hb, h2⟩
/-- what one bell of such a list is -/
def BellX (w : World) (base top : Nat) (xs : Nat → Option Value) (i : Nat) (x : BellV) (g c : Nat) : Prop := (xs (i * 5) = some (.string x.id) ∧ xs (i * 5 + 1) = some (.int .i64 x.no) ∧ xs (i * 5 + 2) = some (.int .i64 x.ma) ∧ xs (i * 5 + 3) = some (.int .i64 x.fe)) ∧ xs (i * 5 + 4) = some (.slice (some ⟨g, 0, none⟩) x.n c) ∧ base ≤ g ∧ g < top ∧ ShareOwnC w x.n x.ss x.ms g c
theorem BellX.keep {w w' : World} {base top : Nat} {xs : Nat → Option Value} {i : Nat} {x : BellV} {g c : Nat} (h : BellX w base top xs i x g c) (hb : Below w.heap.size w w') : BellX w' base top xs i x g c := ⟨h.1, h.2.1, h.2.2.1, h.2.2.2.1, h.2.2.2.2.keep hb⟩
def BellsX (w : World) (base top : Nat) (xs : List Value) (k : Nat) (f : Nat → BellV) : Prop := xs.length = k * 5 ∧ ∃ gs cs : Nat → Nat, (∀ i, i < k → BellX w base top (fun j => xs[j]?) i (f i) (gs i) (cs i)) ∧ ∀ i j, i < j → j < k → gs i ≠ gs j
theorem BellsX.nil (w : World) (base top : Nat) (f : Nat → BellV) : BellsX w base top [] 0 f := ⟨rfl, fun _ => 0, fun _ => 0, fun i hi => absurd hi (Nat.not_lt_zero _), fun i j _ hj => absurd hj (Nat.not_lt_zero _)⟩
theorem BellsX.keep {w w' : World} {base top k : Nat} {xs : List Value} {f : Nat → BellV} (h : BellsX w base top xs k f) (hb : Below w.heap.size w w') : BellsX w' base top xs k f := by
  obtain ⟨h1, gs, cs, h2, h3⟩ := h
  exact ⟨h1, gs, cs, fun i hi => (h2 i hi).keep hb, h3⟩
theorem BellsX.snoc {w w' : World} {base b2 top top' k g c : Nat} {v : Value} {xs : List Value} {f : Nat → BellV} {o : Obj} (h : BellsX w base top xs k f) (ho : w.ownsRow b2 28 5 v k xs) (hn : ShareOwnC w (f k).n (f k).ss (f k).ms g c) (hbt : base ≤ top) (h1 : top ≤ g) (h2 : g < top') (hg : (w.alloc o).grownBy w' v.ownBlock) : BellsX w' base top' (xs ++ bellC (f k) (.slice (some ⟨g, 0, none⟩) (f k).n c)) (k + 1) f := by
  have hne : ∀ {n2 G2 c2 : Nat} {ss : Nat → ByteArray} {ms : Nat → Int}, ShareOwnC w n2 ss ms G2 c2 → ShareOwnC w' n2 ss ms G2 c2 := fun {n2 G2 c2 ss ms} hi => by
    obtain ⟨arr, hb, ha⟩ := hi
    refine ⟨arr, (hg.block G2 (hb.alloc o).lt (fun e => ?_)).trans (hb.alloc o), ha⟩
    rcases ho.2 with ⟨rfl, -⟩ | ⟨g3, cap, cur, rfl, -, h3, -⟩
    · cases e
    · have e2 : G2 = g3 := Option.some.inj e
      subst e2
      have := (hb.uniq (show Blk w G2 28 cur from h3)).1
      exact absurd this (by decide)
  obtain ⟨hl, gs, cs, hx, hap⟩ := h
  refine ⟨by simp [hl, bellC]; omega, fun i => if i = k then g else gs i, fun i => if i = k then c else cs i, fun i hi => ?_, fun i j hij hj => ?_⟩
  · rcases Nat.lt_or_ge i k with q | q
    · show BellX _ _ _ _ _ _ (if i = k then g else gs i) (if i = k then c else cs i)
      rw [if_neg (by omega), if_neg (by omega)]
      obtain ⟨⟨a0, a1, a2, a3⟩, a4, a5, a6, a7⟩ := hx i q
      refine ⟨⟨?_, ?_, ?_, ?_⟩, ?_, a5, by omega, hne a7⟩
      · show (xs ++ _)[i * 5]? = _
        rw [List.getElem?_append_left (by omega)]; exact a0
      · show (xs ++ _)[i * 5 + 1]? = _
        rw [List.getElem?_append_left (by omega)]; exact a1
      · show (xs ++ _)[i * 5 + 2]? = _
        rw [List.getElem?_append_left (by omega)]; exact a2
      · show (xs ++ _)[i * 5 + 3]? = _
        rw [List.getElem?_append_left (by omega)]; exact a3
      · show (xs ++ _)[i * 5 + 4]? = _
        rw [List.getElem?_append_left (by omega)]; exact a4
    · obtain rfl : i = k := by omega
      show BellX _ _ _ _ _ _ (if i = i then g else gs i) (if i = i then c else cs i)
      rw [if_pos rfl, if_pos rfl]
      have e : ∀ j, (xs ++ bellC (f i) (.slice (some ⟨g, 0, none⟩) (f i).n c))[i * 5 + j]? = (bellC (f i) (.slice (some ⟨g, 0, none⟩) (f i).n c))[j]? := fun j => by
        rw [List.getElem?_append_right (by omega)]
        congr 1
        omega
      refine ⟨⟨?_, ?_, ?_, ?_⟩, ?_, by omega, h2, hne hn⟩
      · exact e 0
      · exact e 1
      · exact e 2
      · exact e 3
      · exact e 4
  · rcases Nat.lt_or_ge j k with q | q
    · show (if i = k then g else gs i) ≠ (if j = k then g else gs j)
      rw [if_neg (by omega), if_neg (by omega)]
      exact hap i j hij q
    · obtain rfl : j = k := by omega
      show (if i = j then g else gs i) ≠ (if j = j then g else gs j)
      rw [if_neg (by omega), if_pos rfl]
      have := (hx i hij).2.2.2.1
      omega
/-- a row of bells at the head of a block of the call's own, its shares apart -/
def BellOwn (w : World) (A : Option Addr) (n : Nat) (f : Nat → BellV) (G lo : Nat) : Prop := 0 < n → A = some ⟨G, 0, none⟩ ∧ lo ≤ G ∧ ∃ arr : Array Value, Blk w G 28 arr ∧ n * 5 ≤ arr.size ∧ ∃ gs cs : Nat → Nat, (∀ i, i < n → BellX w lo w.heap.size (fun j => arr[j]?) i (f i) (gs i) (cs i)) ∧ ∀ i j, i < j → j < n → gs i ≠ gs j
theorem bellOwn_of {w : World} {base top k : Nat} {v : Value} {xs : List Value} {f : Nat → BellV} (ho : w.ownsRow base 28 5 v k xs) (h : BellsX w base top xs k f) (ht : top ≤ w.heap.size) : ∃ A c G, v = .slice A k c ∧ BellOwn w A k f G base ∧ base ≤ G := by
  rcases ho.2 with ⟨hv, h0⟩ | ⟨g, cap, cur, hv, hb, hg, hc, hm, hs, htk⟩
  · exact ⟨none, 0, base, by rw [hv, h0], fun h => by omega, Nat.le_refl _⟩
  · refine ⟨some ⟨g, 0, none⟩, cap, g, hv, fun hn => ⟨rfl, hb, cur, hg, by rw [hs]; omega, ?_⟩, hb⟩
    obtain ⟨hl, gs, cs, hx, hap⟩ := h
    refine ⟨gs, cs, fun i hi => ?_, hap⟩
    obtain ⟨⟨a0, a1, a2, a3⟩, a4, a5, a6, a7⟩ := hx i hi
    have ha : ∀ j, j < k * 5 → cur[j]? = xs[j]? := fun j hj => by
      have := (congrArg (fun l => l[j]?) htk)
      simp only [List.getElem?_take, if_pos hj] at this
      simpa using this
    exact ⟨⟨(ha _ (by omega)).trans a0, (ha _ (by omega)).trans a1, (ha _ (by omega)).trans a2, (ha _ (by omega)).trans a3⟩, (ha _ (by omega)).trans a4, a5, by omega, a7⟩
theorem BellOwn.row {w : World} {A : Option Addr} {n G lo : Nat} {f : Nat → BellV} (h : BellOwn w A n f G lo) : BellRow w A n f := fun hn => by
  obtain ⟨rfl, -, arr, hb, -, gs, cs, hx, -⟩ := h hn
  refine ⟨G, 0, rfl, fun i hi => ?_⟩
  obtain ⟨⟨a0, a1, a2, a3⟩, a4, -, -, a7⟩ := hx i hi
  rw [Nat.zero_add]
  exact ⟨_, cs i, (hb.cell _).trans a0, (hb.cell _).trans a1, (hb.cell _).trans a2, (hb.cell _).trans a3, (hb.cell _).trans a4, a7.own.row⟩
theorem BellOwn.keep {w w' : World} {A : Option Addr} {n G lo : Nat} {f : Nat → BellV} (h : BellOwn w A n f G lo) (hb : Below w.heap.size w w') : BellOwn w' A n f G lo := fun hn => by
  obtain ⟨hA, hl, arr, hk, hs, gs, cs, hx, hap⟩ := h hn
  refine ⟨hA, hl, arr, hk.keep hb, hs, gs, cs, fun i hi => ?_, hap⟩
  obtain ⟨a, a4, a5, a6, a7⟩ := (hx i hi).keep hb
  exact ⟨a, a4, a5, Nat.lt_of_lt_of_le a6 hb.size, a7⟩
end Go.Proofs.YticnpibkpfpojaaGreatDoor
