/- Bells read: the shares that are put together one by one, and what both readers return. -/
import Derived.Test.YtflhkldfhndafaaDoorReadH
import Derived.Test.YtflhkldfhndafaaDoorReadBP
import Derived.Test.YtflhkldfhndafaaDoorBellOp
import Derived.Test.YtflhkldfhndafaaDoorBell2
import Derived.Test.YtflhkldfhndafaaDoorShareO
namespace Go.Proofs.YtflhkldfhndafaaDoor
set_option linter.unusedVariables false
open Go.RowKit
/-- the cells of the first k shares -/
def shsL (ss : Nat → ByteArray) (ms : Nat → Int) : Nat → List Value
  | 0 => []
  | k + 1 => shsL ss ms k ++ [.string (ss k), .int .i64 (ms k)]
theorem shsL_succ (ss : Nat → ByteArray) (ms : Nat → Int) (k : Nat) : shsL ss ms k ++ [.string (ss k), .int .i64 (ms k)] = shsL ss ms (k + 1) := rfl
theorem shsL_len (ss : Nat → ByteArray) (ms : Nat → Int) : ∀ k, (shsL ss ms k).length = k * 2
  | 0 => rfl
  | k + 1 => by
    have := shsL_len ss ms k
    simp [shsL, this]
    omega
theorem shsL_at (ss : Nat → ByteArray) (ms : Nat → Int) {i : Nat} : ∀ {k : Nat}, i < k → (shsL ss ms k)[i * 2]? = some (.string (ss i)) ∧ (shsL ss ms k)[i * 2 + 1]? = some (.int .i64 (ms i))
  | k + 1, hi => by
    have hl := shsL_len ss ms k
    rcases Nat.lt_or_ge i k with h | h
    · have ih := shsL_at ss ms h
      simp only [shsL]
      rw [List.getElem?_append_left (by omega), List.getElem?_append_left (by omega)]
      exact ih
    · obtain rfl : i = k := by omega
      simp only [shsL]
      rw [List.getElem?_append_right (by omega), List.getElem?_append_right (by omega), hl]
      simp
theorem shareRow_of {w : World} {base n : Nat} {v : Value} {ss : Nat → ByteArray} {ms : Nat → Int} (ho : w.ownsRow base 75 2 v n (shsL ss ms n)) (hn : 0 < n) : ∃ g c, v = .slice (some ⟨g, 0, none⟩) n c ∧ base ≤ g ∧ ShareOwn w (some ⟨g, 0, none⟩) n ss ms g := by
  obtain ⟨g, cap, cur, hv, hg, hb, hc, -, hs, hcur⟩ := own_blk ho hn
  refine ⟨g, cap, hv, hg, fun _ => ⟨rfl, cur, hb, by rw [hs]; exact Nat.mul_le_mul_right 2 hc, fun i hi => ?_⟩⟩
  have h := shsL_at ss ms hi
  exact ⟨(hcur _ (by omega)).trans h.1, (hcur _ (by omega)).trans h.2⟩
theorem share_infoR : (Tryd.prog.info? 75).map (fun i => (i.zero, i.size, i.bytes)) = some (some (.agg #[.string ⟨#[]⟩, .int .i64 0]), 2, 24) := by kernel_rfl
theorem app_blk {w3 w4 : World} {o : Obj} {v : Value} {base g : Nat} {T : TypeId} {cs : Array Value} (hgrow : (w3.alloc o).grownBy w4 v.ownBlock) (hlt : ∀ k, v.ownBlock = some k → base ≤ k) (hg : g < base) (hb : Blk w3 g T cs) : Blk w4 g T cs :=
  (hgrow.block g (hb.alloc o).lt (fun e => by have := hlt g e.symm; omega)).trans (hb.alloc o)
theorem app_tx {w3 w4 : World} {o : Obj} {v : Value} {base g : Nat} {ls : List (List UInt8)} (hgrow : (w3.alloc o).grownBy w4 v.ownBlock) (hlt : ∀ k, v.ownBlock = some k → base ≤ k) (hg : g < base) (hb : TxAt w3 g ls) : TxAt w4 g ls := by
  have h1 : g < (w3.alloc o).heap.size := by simp; have := hb.1; omega
  have h2 : w4.heap[g]? = w3.heap[g]? := (hgrow.block g h1 (fun e => by have := hlt g e.symm; omega)).trans (Below.heap_alloc w3 o g hb.1)
  exact ⟨Nat.lt_of_lt_of_le h1 hgrow.size, fun i x hx => (World.cell?_of_block (w := w3) (a := ⟨g, i, none⟩) h2).trans (hb.2 i x hx)⟩
theorem tx_far {w : World} {g : Nat} {ls : List (List UInt8)} (h : TxAt w g ls) {p : Addr} (hp : g ≠ p.block) (u : Value) : TxAt (w.setCell p u) g ls :=
  ⟨by have := h.1; simpa using this, fun i x hx => (World.cell?_of_block (w := w) (a := ⟨g, i, none⟩) (Below.heap_setCell w p u g hp)).trans (h.2 i x hx)⟩
/-- TxAt, as a drawn region carries it on -/
def TxK (w : World) (g : Nat) (ls : List (List UInt8)) : Prop := TxAt w g ls
theorem TxK.keep {w w' : World} {g : Nat} {ls : List (List UInt8)} (h : TxK w g ls) (hb : Below w.heap.size w w') : TxK w' g ls := TxAt.keep h hb h.1 hb.size
theorem tx_grow {w3 w4 : World} {v : Value} {g : Nat} {ls : List (List UInt8)} (hgrow : w3.grownBy w4 v.ownBlock) (hne : some g ≠ v.ownBlock) (hb : TxAt w3 g ls) : TxAt w4 g ls :=
  ⟨Nat.lt_of_lt_of_le hb.1 hgrow.size, fun i x hx => (World.cell?_of_block (w := w3) (a := ⟨g, i, none⟩) (hgrow.block g hb.1 hne)).trans (hb.2 i x hx)⟩
theorem cell_farB {w : World} {b o G j : Nat} {x u : Value} (h : w.cell? ⟨b, o, none⟩ = some x) (hne : b ≠ G) : (w.setCell ⟨G, j, none⟩ u).cell? ⟨b, o, none⟩ = some x :=
  (World.cell?_of_block (w := w) (a := ⟨b, o, none⟩) (Below.heap_setCell w ⟨G, j, none⟩ u b hne)).trans h
theorem own_storeR {w : World} {base : Nat} {e : TypeId} {size n : Nat} {v : Value} {xs : List Value} {p : Addr} (h : w.ownsRow base e size v n xs) (hp : p.block < base) (u : Value) : (w.setCell p u).ownsRow base e size v n xs :=
  h.kept (row := some p.block) (gb_set (World.grownBy.refl _ _) rfl u) (by
    cases hb : v.ownBlock with
    | none => exact .inl rfl
    | some k => exact .inr fun e => by have := (h.lt k hb).1; injection e with e; omega)
theorem heap_far {w : World} {b o g : Nat} {u : Value} (h : g ≠ b) : (w.setCell ⟨b, o, none⟩ u).heap[g]? = w.heap[g]? := Below.heap_setCell w ⟨b, o, none⟩ u g h
/-- what both readers of bells do -/
def bellOut (s id : ByteArray) (no ma fe : Int) (n : Nat) (ss : Nat → ByteArray) (ms : Nat → Int) (b : Bool) : Prop :=
  (b = true ∧ bellB id no ma fe n ss ms = true ∧ bellT id no ma fe n ss ms = s) ∨ (b = false ∧ id = ⟨#[]⟩ ∧ no = 0 ∧ ma = 0 ∧ fe = 0 ∧ n = 0 ∧ noBell s)
def BellRet (w : World) (s : ByteArray) (e : Ending) (w' : World) : Prop := ∃ id no ma fe A n c G ss ms b, e = .returned (.tuple #[.agg #[.string id, .int .i64 no, .int .i64 ma, .int .i64 fe, .slice A n c], .bool b]) ∧ ShareOwn w' A n ss ms G ∧ (0 < n → w.heap.size ≤ G) ∧ n ≤ 1048576 ∧ bellOut s id no ma fe n ss ms b ∧ Below w.heap.size w w'
theorem bellOut_same {s id id2 : ByteArray} {no ma fe no2 ma2 fe2 : Int} {n n2 : Nat} {ss ss2 : Nat → ByteArray} {ms ms2 : Nat → Int} {b b2 : Bool} (h1 : bellOut s id no ma fe n ss ms b) (h2 : bellOut s id2 no2 ma2 fe2 n2 ss2 ms2 b2) :
    id = id2 ∧ no = no2 ∧ ma = ma2 ∧ fe = fe2 ∧ n = n2 ∧ (∀ i, i < n → ss i = ss2 i ∧ ms i = ms2 i) ∧ b = b2 := by
  rcases h1 with ⟨rfl, p1, p2⟩ | ⟨rfl, rfl, rfl, rfl, rfl, rfl, p1⟩
  · rcases h2 with ⟨rfl, q1, q2⟩ | ⟨rfl, rfl, rfl, rfl, rfl, rfl, q1⟩
    · obtain ⟨e1, e2, e3, e4, e5, e6⟩ := bell_inj p1 q1 (p2.trans q2.symm)
      exact ⟨e1, e2, e3, e4, e5, e6, rfl⟩
    · exact absurd p2 (q1 _ _ _ _ _ _ _ p1)
  · rcases h2 with ⟨rfl, q1, q2⟩ | ⟨rfl, rfl, rfl, rfl, rfl, rfl, q1⟩
    · exact absurd q2 (p1 _ _ _ _ _ _ _ q1)
    · exact ⟨rfl, rfl, rfl, rfl, rfl, fun i hi => absurd hi (Nat.not_lt_zero i), rfl⟩
theorem shareRow_eq {w : World} {A : Option Addr} {n : Nat} {ss ss2 : Nat → ByteArray} {ms ms2 : Nat → Int} (h : ShareRow w A n ss2 ms2) (e : ∀ i, i < n → ss i = ss2 i ∧ ms i = ms2 i) : ShareRow w A n ss ms := fun hn => by
  obtain ⟨b, o, hA, hall⟩ := h hn
  refine ⟨b, o, hA, fun i hi => ?_⟩
  rw [(e i hi).1, (e i hi).2]
  exact hall i hi
theorem bell_badR {w w' : World} {s : ByteArray} (h : noBell s) (hb : Below w.heap.size w w') : BellRet w s (.returned (.tuple #[.agg #[.string ⟨#[]⟩, .int .i64 0, .int .i64 0, .int .i64 0, .slice none 0 0], .bool false])) w' :=
  ⟨_, _, _, _, _, _, _, 0, fun _ => ⟨#[]⟩, fun _ => 0, _, rfl, fun h0 => absurd h0 (Nat.lt_irrefl 0), (fun h0 => absurd h0 (Nat.lt_irrefl 0)), by omega, Or.inr ⟨rfl, rfl, rfl, rfl, rfl, rfl, h⟩, hb⟩
theorem bell_goodR {w w' : World} {s id : ByteArray} {no ma fe : Int} {A : Option Addr} {n c G : Nat} {ss : Nat → ByteArray} {ms : Nat → Int} (hr : ShareOwn w' A n ss ms G) (hf : w.heap.size ≤ G) (hn : n ≤ 1048576) (h : bellB id no ma fe n ss ms = true) (ht : bellT id no ma fe n ss ms = s) (hb : Below w.heap.size w w') : BellRet w s (.returned (.tuple #[.agg #[.string id, .int .i64 no, .int .i64 ma, .int .i64 fe, .slice A n c], .bool true])) w' :=
  ⟨_, _, _, _, _, _, _, G, ss, ms, _, rfl, hr, fun _ => hf, hn, Or.inl ⟨rfl, h, ht⟩, hb⟩
theorem len_3 {α : Type} {l : List α} (h : l.length = 3) : ∃ a b c, l = [a, b, c] := by
  match l, h with
  | [a, b, c], _ => exact ⟨a, b, c, rfl⟩
theorem three_sizes {s : ByteArray} {c : UInt8} {a b d : List UInt8} (h : splC c (bl s) = [a, b, d]) : a.length ≤ s.size ∧ b.length + 1 ≤ s.size ∧ d.length + 1 ≤ s.size := by
  have h1 := congrArg List.length (splC_three h).1
  rw [bl_len] at h1
  simp at h1
  omega
theorem cell_arB {W : World} {a : Addr} {v : Value} (h : W.cell? a = some v) (o : Obj) : (W.alloc o).cell? a = some v := (Go.World.cell?_alloc_some _ _ _ (by rw [h]; rfl)).trans h
theorem cutS_size {c : List UInt8} {i : Nat} : (cutS (splC 44 c) i).size ≤ c.length := by
  unfold cutS
  rw [tx_size]
  refine Nat.le_trans (cut_size 58 _).1 ?_
  cases h : (splC 44 c)[i]? with
  | none => simp
  | some x => exact sp_size x (List.mem_of_getElem? h)
end Go.Proofs.YtflhkldfhndafaaDoor
