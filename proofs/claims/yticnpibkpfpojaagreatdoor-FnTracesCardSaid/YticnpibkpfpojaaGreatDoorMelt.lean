/- Lists of melts: how they read; size, copy, comparison; how such an argument reads; what mark does with a copy. -/
import Derived.Test.YticnpibkpfpojaaGreatDoorStrs
import Derived.Test.YticnpibkpfpojaaGreatDoorKin
import Derived.Test.YticnpibkpfpojaaGreatDoorName
namespace Go.Proofs.YticnpibkpfpojaaGreatDoor
set_option linter.unusedVariables false
open Go.RowKit

/-- a melt, whatever memory it lies in -/
structure MeltV where
  id : ByteArray
  n : Nat
  ss : Nat → ByteArray
  ma : Int
def MeltAt (w : World) (b o : Nat) (x : MeltV) : Prop := ∃ A c, w.cell? ⟨b, o, none⟩ = some (.string x.id) ∧ w.cell? ⟨b, o + 1, none⟩ = some (.slice A x.n c) ∧ w.cell? ⟨b, o + 2, none⟩ = some (.int .i64 x.ma) ∧ StrRow w A x.n x.ss
def MeltRow (w : World) (A : Option Addr) (n : Nat) (f : Nat → MeltV) : Prop := 0 < n → ∃ b o, A = some ⟨b, o, none⟩ ∧ ∀ i, i < n → MeltAt w b (o + i * 3) (f i)
theorem MeltAt.keep {w w' : World} {b o : Nat} {x : MeltV} (h : MeltAt w b o x) (hb : Below w.heap.size w w') : MeltAt w' b o x := by
  obtain ⟨A, c, h0, h1, h2, h3⟩ := h
  exact ⟨A, c, cell_keep hb h0, cell_keep hb h1, cell_keep hb h2, h3.keep hb⟩
theorem MeltAt.drewN {w : World} {b o : Nat} {x : MeltV} (h : MeltAt w b o x) (m : Nat) : MeltAt (w.drewN m) b o x := h
theorem MeltRow.keep {w w' : World} {A : Option Addr} {n : Nat} {f : Nat → MeltV} (h : MeltRow w A n f) (hb : Below w.heap.size w w') : MeltRow w' A n f := fun hn => by
  obtain ⟨b, o, hA, hall⟩ := h hn
  exact ⟨b, o, hA, fun i hi => (hall i hi).keep hb⟩
theorem MeltRow.take {w : World} {A : Option Addr} {n m : Nat} {f : Nat → MeltV} (h : MeltRow w A n f) (hm : m ≤ n) : MeltRow w A m f := fun h0 => by
  obtain ⟨b, o, hA, hall⟩ := h (by omega)
  exact ⟨b, o, hA, fun i hi => hall i (by omega)⟩
def FitM (x : MeltV) : Prop := x.id.size ≤ maxLen ∧ (∀ i, i < x.n → (x.ss i).size ≤ maxLen) ∧ x.n ≤ maxLen
def FineM (x : MeltV) : Prop := x.id.size ≤ maxLen ∧ (∀ i, i < x.n → (x.ss i).size ≤ maxLen) ∧ x.n ≤ 1048576
def meltSz (x : MeltV) : Nat := x.id.size + strsSz x.ss x.n
def sumM (f : Nat → MeltV) : Nat → Nat
  | 0 => 0
  | n + 1 => sumM f n + meltSz (f n)
theorem sumM_le (f : Nat → MeltV) {k n : Nat} (h : k ≤ n) : sumM f k ≤ sumM f n := by
  induction n with
  | zero => obtain rfl : k = 0 := by omega
            exact Nat.le_refl _
  | succ m ih =>
    rcases Nat.lt_or_ge k (m + 1) with h1 | h1
    · exact Nat.le_trans (ih (by omega)) (Nat.le_add_right _ _)
    · obtain rfl : k = m + 1 := by omega
      exact Nat.le_refl _
theorem sumM_one (f : Nat → MeltV) {i n : Nat} (h : i < n) : meltSz (f i) ≤ sumM f n := by
  have := sumM_le f (show i + 1 ≤ n by omega)
  have e : sumM f (i + 1) = sumM f i + meltSz (f i) := rfl
  omega
theorem sumN_sumM (f : Nat → MeltV) : ∀ n, sumN (fun i => (f i).n) n ≤ sumM f n
  | 0 => Nat.le_refl _
  | n + 1 => by
    have := sumN_sumM f n
    have e1 : sumN (fun i => (f i).n) (n + 1) = sumN (fun i => (f i).n) n + (f n).n := rfl
    have e2 : sumM f (n + 1) = sumM f n + meltSz (f n) := rfl
    unfold meltSz strsSz at e2
    omega
theorem fineM_of {f : Nat → MeltV} {n : Nat} (h : ∀ i, i < n → FitM (f i)) (hs : n + sumM f n ≤ 1048576) : ∀ i, i < n → FineM (f i) := fun i hi => by
  obtain ⟨a, b, c⟩ := h i hi
  have := sumM_one f hi
  exact ⟨a, b, by unfold meltSz strsSz at this; omega⟩
def MeltCopy (s : ByteArray) (n : Nat) (ss : Nat → ByteArray) (ma : Int) (w : World) (e : Ending) (w' : World) : Prop :=
  ∃ G, e = .returned (.agg #[.string s, .slice (some ⟨G, 0, none⟩) n n, .int .i64 ma]) ∧ Below w.heap.size w w' ∧ w.heap.size ≤ G ∧ G < w'.heap.size ∧ StrOwn w' (some ⟨G, 0, none⟩) n ss G
theorem Melt_info : (Tryz.prog.info? 74).map (fun i => (i.zero, i.size, i.bytes)) = some (some (.agg #[.string ⟨#[]⟩, .slice none 0 0, .int .i64 0]), 3, 48) := by kernel_rfl
def MeltArrO (w : World) (base : Nat) (arr : Array Value) (m : Nat) (f : Nat → MeltV) : Prop := ∀ i, i < m → (arr[i * 3]? = some (.string (f i).id) ∧ arr[i * 3 + 2]? = some (.int .i64 (f i).ma)) ∧ ∃ g c, base < g ∧ g < w.heap.size ∧ arr[i * 3 + 1]? = some (.slice (some ⟨g, 0, none⟩) (f i).n c) ∧ StrOwn w (some ⟨g, 0, none⟩) (f i).n (f i).ss g
theorem MeltArrO.next {w w1 w2 : World} {base n k G : Nat} {arr : Array Value} {f : Nat → MeltV} (h : MeltArrO w base arr k f) (hs : arr.size = n * 3) (hk : k < n) (hb : Below w.heap.size w w1) (hg : base < w.heap.size) (h1 : w.heap.size ≤ G) (h2 : G < w1.heap.size) (hr : StrOwn w1 (some ⟨G, 0, none⟩) (f k).n (f k).ss G)
    (hw : ∀ g, g ≠ base → w2.heap[g]? = w1.heap[g]?) (hz : w1.heap.size = w2.heap.size) : MeltArrO w2 base (((arr.setIfInBounds (k * 3) (.string (f k).id)).setIfInBounds (k * 3 + 1) (.slice (some ⟨G, 0, none⟩) (f k).n (f k).n)).setIfInBounds (k * 3 + 2) (.int .i64 (f k).ma)) (k + 1) f := by
  intro i hi
  rcases Nat.lt_or_ge i k with q | q
  · obtain ⟨⟨a0, a1⟩, g, c, g1, g2, g3, g4⟩ := h i q
    refine ⟨⟨?_, ?_⟩, g, c, g1, ?_, ?_, ?_⟩
    · simp (disch := omega) only [Array.getElem?_setIfInBounds_ne]; exact a0
    · simp (disch := omega) only [Array.getElem?_setIfInBounds_ne]; exact a1
    · have := hb.size; omega
    · simp (disch := omega) only [Array.getElem?_setIfInBounds_ne]; exact g3
    · exact (g4.keep hb).same (fun _ => hw g (by omega))
  · obtain rfl : i = k := by omega
    refine ⟨⟨?_, ?_⟩, G, (f i).n, by omega, by omega, ?_, hr.same (fun _ => hw G (by omega))⟩
    · rw [Array.getElem?_setIfInBounds_ne (by omega), Array.getElem?_setIfInBounds_ne (by omega), Array.getElem?_setIfInBounds_self_of_lt (by (try simp); omega)]
    · rw [Array.getElem?_setIfInBounds_self_of_lt (by (try simp); omega)]
    · rw [Array.getElem?_setIfInBounds_ne (by omega), Array.getElem?_setIfInBounds_self_of_lt (by (try simp); omega)]
theorem MeltArrO.row {w : World} {g T n : Nat} {arr : Array Value} {f : Nat → MeltV} (h : MeltArrO w g arr n f) (hb : Blk w g T arr) : MeltRow w (some ⟨g, 0, none⟩) n f := fun _ =>
  ⟨g, 0, rfl, fun i hi => by
    obtain ⟨⟨a0, a1⟩, G, c, g1, g2, g3, g4⟩ := h i hi
    rw [Nat.zero_add]
    exact ⟨_, c, (hb.cell _).trans a0, (hb.cell _).trans g3, (hb.cell _).trans a1, g4.row⟩⟩
/-- a row of texts in blocks lo .. hi, whatever its values -/
def StrShape (w : World) (A : Option Addr) (n lo hi : Nat) : Prop := 0 < n → ∃ (g : Nat) (T : TypeId) (arr : Array Value), A = some ⟨g, 0, none⟩ ∧ lo ≤ g ∧ g < hi ∧ Blk w g T arr ∧ ∀ i, i < n → ∃ s, arr[i]? = some (.string s)
theorem StrShape.kin {w w' : World} {A : Option Addr} {n lo hi : Nat} (h : StrShape w A n lo hi) (hk : Kin lo hi w w') : StrShape w' A n lo hi := fun hn => by
  obtain ⟨g, T, arr, hA, h1, h2, hb, ha⟩ := h hn
  obtain ⟨a', b', -, e'⟩ := hk.near g T arr h1 h2 hb
  exact ⟨g, T, a', hA, h1, h2, b', fun i hi => by
    obtain ⟨s, hs⟩ := ha i hi
    exact kin_string (e' _) hs⟩
def MeltShape (w : World) (A : Option Addr) (n : Nat) (ns : Nat → Nat) (lo hi : Nat) : Prop := 0 < n → ∃ (g : Nat) (T : TypeId) (arr : Array Value), A = some ⟨g, 0, none⟩ ∧ lo ≤ g ∧ g < hi ∧ Blk w g T arr ∧ ∀ i, i < n → (∃ s, arr[i * 3]? = some (.string s)) ∧ (∃ m, arr[i * 3 + 2]? = some (.int .i64 m)) ∧ ∃ A2 c2, arr[i * 3 + 1]? = some (.slice A2 (ns i) c2) ∧ StrShape w A2 (ns i) lo hi
theorem MeltShape.kin {w w' : World} {A : Option Addr} {n lo hi : Nat} {ns : Nat → Nat} (h : MeltShape w A n ns lo hi) (hk : Kin lo hi w w') : MeltShape w' A n ns lo hi := fun hn => by
  obtain ⟨g, T, arr, hA, h1, h2, hb, ha⟩ := h hn
  obtain ⟨a', b', -, e'⟩ := hk.near g T arr h1 h2 hb
  exact ⟨g, T, a', hA, h1, h2, b', fun i hi => by
    obtain ⟨⟨s, hs⟩, ⟨m1, hm1⟩, A2, c2, hA2, hsh⟩ := ha i hi
    exact ⟨kin_string (e' _) hs, kin_int (e' _) hm1, A2, c2, kin_slice (e' _) hA2, hsh.kin hk⟩⟩
theorem MeltArrO.shape {w : World} {g T n : Nat} {arr : Array Value} {f : Nat → MeltV} (h : MeltArrO w g arr n f) (hb : Blk w g T arr) : MeltShape w (some ⟨g, 0, none⟩) n (fun i => (f i).n) g w.heap.size := fun hn => by
  refine ⟨g, T, arr, rfl, Nat.le_refl _, hb.lt, hb, fun i hi => ?_⟩
  obtain ⟨⟨a0, a1⟩, G, c, g1, g2, g3, g4⟩ := h i hi
  refine ⟨⟨_, a0⟩, ⟨_, a1⟩, _, c, g3, fun h0 => ?_⟩
  obtain ⟨-, arr2, hb2, -, ha2⟩ := g4 h0
  exact ⟨G, _, arr2, rfl, by omega, g2, hb2, fun j hj => ⟨_, ha2 j hj⟩⟩
open Go.ChangeShapes Go.WideShapes Go.Deep in
theorem slice_cellM {H : Type} {enc : TypeId × Value → H} {P : Program} {w : World} {base : Nat} {spare : Nat → Bool} {held : Bool} {t e : TypeId} {fuel : Nat} {v : Value} {x : DataW H × List MemPlace} (ht : P.underlying t = some (.slice e)) (h : DataW.trod enc P w base spare held fuel t [v] = some x) :
    ∃ A n c, v = .slice A n c := by
  rcases open_slice ht h with ⟨hcs, -⟩ | ⟨a, len, cap, m, fu, D, Pl, hcs, -⟩
  · exact ⟨_, _, _, one_cell hcs⟩
  · exact ⟨_, _, _, one_cell hcs⟩
end Go.Proofs.YticnpibkpfpojaaGreatDoor
