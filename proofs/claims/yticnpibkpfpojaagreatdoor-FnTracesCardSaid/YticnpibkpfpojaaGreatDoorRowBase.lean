/- Words for memory: a block known whole, sums of sizes, a slice made of elements of several cells. No program in sight. -/
import Derived.WalkKit
import Derived.Laws.OwnMore
import Derived.Deep.Draws
import Derived.Laws.Rows
import Derived.Laws.MakeOwn
import Derived.OrdersHeld
import Derived.DataReads
import Derived.Deep.Slices
import Derived.Deep.Fields
import Derived.ChangeSame
import Derived.Laws.Strings
import Derived.Laws.Cover1
import Derived.Test.YticnpibkpfpojaaGreatDoorBase
namespace Go.Proofs.YticnpibkpfpojaaGreatDoor
set_option linter.unusedVariables false
open Go.RowKit
theorem cell_lt {w : World} {b o : Nat} {v : Value} (h : w.cell? ⟨b, o, none⟩ = some v) : b < w.heap.size := by
  rcases Nat.lt_or_ge b w.heap.size with h1 | h1
  · exact h1
  · simp [World.cell?, Array.getElem?_eq_none h1] at h
theorem below_undrew (B : Nat) (w : World) : Below B w.drew w := ⟨rfl, rfl, rfl, Nat.le_refl _, fun _ _ => rfl⟩
theorem below_undrewN (B : Nat) (w : World) (n : Nat) : Below B (w.drewN n) w := ⟨rfl, rfl, rfl, Nat.le_refl _, fun _ _ => rfl⟩
theorem cell_keep {w w1 : World} {b o : Nat} {v : Value} (hb : Below w.heap.size w w1) (h : w.cell? ⟨b, o, none⟩ = some v) : w1.cell? ⟨b, o, none⟩ = some v := (hb.cell (p := ⟨b, o, none⟩) (cell_lt h)).trans h
/-- block g is just the cells cs of element type t, none frozen -/
def Blk (w : World) (g : Nat) (t : TypeId) (cs : Array Value) : Prop := w.heap[g]? = some (.cells cs t (0, 0))
section
variable {w w' : World} {g : Nat} {t : TypeId} {cs : Array Value}
theorem Blk.lt (h : Blk w g t cs) : g < w.heap.size := by
  rcases Nat.lt_or_ge g w.heap.size with hlt | hge
  · exact hlt
  · unfold Blk at h; rw [Array.getElem?_eq_none hge] at h; cases h
theorem Blk.cell (h : Blk w g t cs) (i : Nat) : w.cell? ⟨g, i, none⟩ = cs[i]? := cell_of_row w g i cs t (0, 0) h
theorem Blk.frozen (h : Blk w g t cs) (i : Nat) : w.frozen? ⟨g, i, none⟩ = false := by
  unfold Blk at h
  simp [World.frozen?, h]
theorem Blk.new (w : World) (t : TypeId) (cs : Array Value) : Blk (w.alloc (.cells cs t)) w.heap.size t cs := heap_alloc_new w _
theorem Blk.new2 (w : World) (o : Obj) (t : TypeId) (cs : Array Value) : Blk ((w.alloc o).alloc (.cells cs t)) (w.heap.size + 1) t cs := by
  have q := Blk.new (w.alloc o) t cs
  rwa [show (w.alloc o).heap.size = w.heap.size + 1 by simp] at q
theorem Blk.new3 (w : World) (o o2 : Obj) (t : TypeId) (cs : Array Value) : Blk (((w.alloc o).alloc o2).alloc (.cells cs t)) (w.heap.size + 1 + 1) t cs := by
  have q := Blk.new ((w.alloc o).alloc o2) t cs
  rwa [show ((w.alloc o).alloc o2).heap.size = w.heap.size + 1 + 1 by simp] at q
theorem Blk.drew (h : Blk w g t cs) : Blk w.drew g t cs := h
theorem Blk.drewN (h : Blk w g t cs) (n : Nat) : Blk (w.drewN n) g t cs := h
theorem Blk.alloc (h : Blk w g t cs) (o : Obj) : Blk (w.alloc o) g t cs := (Below.heap_alloc w o g h.lt).trans h
theorem Blk.set_ (h : Blk w g t cs) (i : Nat) (u : Value) : Blk (w.setCell ⟨g, i, none⟩ u) g t (cs.setIfInBounds i u) := by
  unfold Blk at h ⊢
  simp [World.setCell, Array.getElem?_modify, h]
theorem Blk.far (h : Blk w g t cs) {p : Addr} (hp : g ≠ p.block) (u : Value) : Blk (w.setCell p u) g t cs := (Below.heap_setCell w p u g hp).trans h
theorem Blk.below {B : Nat} (h : Blk w g t cs) (hb : Below B w w') (hg : g < B) : Blk w' g t cs := (hb.block g hg).trans h
theorem Blk.keep (h : Blk w g t cs) (hb : Below w.heap.size w w') : Blk w' g t cs := h.below hb h.lt
end
/-- the sum of the sizes of the first n texts -/
def sumS (s : Nat → ByteArray) : Nat → Nat
  | 0 => 0
  | n + 1 => sumS s n + (s n).size
theorem sumS_le (s : Nat → ByteArray) {k n : Nat} (h : k ≤ n) : sumS s k ≤ sumS s n := by
  induction n with
  | zero => obtain rfl : k = 0 := by omega
            exact Nat.le_refl _
  | succ m ih =>
    rcases Nat.lt_or_ge k (m + 1) with h1 | h1
    · exact Nat.le_trans (ih (by omega)) (Nat.le_add_right _ _)
    · obtain rfl : k = m + 1 := by omega
      exact Nat.le_refl _
theorem sumS_one (s : Nat → ByteArray) {i n : Nat} (h : i < n) : (s i).size ≤ sumS s n := by
  have := sumS_le s (show i + 1 ≤ n by omega)
  have e : sumS s (i + 1) = sumS s i + (s i).size := rfl
  omega
theorem arr_some {arr : Array Value} {j : Nat} (h : j < arr.size) : ∃ x, arr[j]? = some x := ⟨arr[j], Array.getElem?_eq_getElem h⟩
theorem madeCells_size (cs : Array Value) (n : Nat) : (madeCells cs n).size = n := by
  unfold madeCells; simp
theorem run_make_rowN {P : Program} (t e : TypeId) (i : TypeInfo) (z : Value) (ht : P.underlying t = some (.slice e)) (hi : P.info? e = some i) (hz : i.zero = some z)
    (kl kc : IntKind) (n c : Nat) (hnc : n ≤ c) (hbytes : i.bytes * c ≤ 281474976710656) (h63 : c ≤ 9223372036854775807) (w : World) :
    (Instr.makeSlice t (.int kl (n : Int)) (.int kc (c : Int))).run P w = .ok (.slice (some ⟨w.heap.size, 0, none⟩) n c) (w.alloc (.cells (madeCells z.cells (c * i.size)) e)) := by
  have hb : (i.bytes : Int) * (c : Int) ≤ 281474976710656 := by
    have h : ((i.bytes * c : Nat) : Int) ≤ 281474976710656 := by omega
    rwa [Int.natCast_mul] at h
  have hr := run_make (P := P) w t e i z ht hi hz kl kc n c (by omega) (by omega) hb (by omega)
  simp only [Int.toNat_natCast] at hr
  exact hr
/-- all of the first n -/
def allB (p : Nat → Bool) : Nat → Bool
  | 0 => true
  | n + 1 => allB p n && p n
theorem allB_of {p : Nat → Bool} {n : Nat} (h : allB p n = true) : ∀ i, i < n → p i = true := by
  induction n with
  | zero => intro i hi; omega
  | succ m ih =>
    simp only [allB, Bool.and_eq_true] at h
    intro i hi
    rcases Nat.lt_or_ge i m with h1 | h1
    · exact ih h.1 i h1
    · obtain rfl : i = m := by omega
      exact h.2
theorem allB_yes {p : Nat → Bool} {n : Nat} (h : ∀ i, i < n → p i = true) : allB p n = true := by
  induction n with
  | zero => rfl
  | succ m ih =>
    simp only [allB, Bool.and_eq_true]
    exact ⟨ih fun i hi => h i (by omega), h m (by omega)⟩
theorem allB_no {p : Nat → Bool} {n i : Nat} (hi : i < n) (h : p i = false) : allB p n = false := by
  cases e : allB p n
  · rfl
  · have := allB_of e i hi
    rw [h] at this; cases this
theorem less_total : ∀ x y : List UInt8, (Op.bytesLess x y || x == y) = !Op.bytesLess y x
  | [], [] => rfl
  | [], _ :: _ => rfl
  | _ :: _, [] => rfl
  | a :: x, b :: y => by
    have ih := less_total x y
    simp only [Op.bytesLess, List.cons_beq_cons]
    rcases Nat.lt_trichotomy a.toNat b.toNat with h | h | h
    · have h1 : a < b := h
      have h2 : ¬ b < a := fun q => Nat.lt_asymm h q
      have h3 : ¬ b = a := fun q => by subst q; exact Nat.lt_irrefl _ h
      simp [h1, h2, h3]
    · obtain rfl : a = b := UInt8.toNat_inj.1 h
      have h1 : ¬ a < a := fun q => Nat.lt_irrefl _ q
      simpa [h1] using ih
    · have h1 : b < a := h
      have h2 : ¬ a < b := fun q => Nat.lt_asymm h q
      have h3 : ¬ a = b := fun q => by subst q; exact Nat.lt_irrefl _ h
      simp [h1, h2, h3]
/-- element k is good by itself, and its text is behind that of the one before it -/
def goodAt (p : Nat → Bool) (s : Nat → ByteArray) (k : Nat) : Bool := p k && (k == 0 || Op.bytesLess (s (k - 1)).toList (s k).toList)
theorem wp_gen {P : Program} {c : Code} {Q : Exit → Act → World → Prop} {a : Act} {W : World} (h : ∀ W0, W0 = W → Code.wp P c Q a W0) : Code.wp P c Q a W := h W rfl
theorem cell_add {w : World} {a : Addr} {k o : Nat} {v : Value} (h : w.cell? (a.add k) = some v) (ho : o = a.off + k) : w.cell? ⟨a.block, o, none⟩ = some v := by
  subst ho
  obtain ⟨b, o, spot⟩ := a
  have hspot := Go.World.cell?_spot h
  unfold Addr.add at h hspot
  split at h
  · rename_i hk
    subst hk
    simp only [if_pos] at hspot
    subst hspot
    exact h
  · exact h
theorem cell_add2 {w : World} {a : Addr} {k j o : Nat} {v : Value} (h : w.cell? ((a.add k).add j) = some v) (ho : o = a.off + k + j) : w.cell? ⟨a.block, o, none⟩ = some v := by
  rw [Go.Deep.add_add] at h
  exact cell_add h (by omega)
section
variable {P : Program} {ops : Array Oper} {Q : Exit → Act → World → Prop} {md : Region.Mode} {S : World → Prop}
/-- an operation of a region whose order is drawn, taken first: its guard is met -/
theorem take_yes {i d : Nat} {v : Value} {fuel : Nat} {listed : Array Bool} {a : Act} {w : World} (o : Oper) (hi : ops[i]? = some o) (hd : o.dst = some d)
    (hs : Region.noSelect ops = true) (hf : Region.free md ops listed i = true) (hr : (Region.ready md ops listed).contains i = true)
    (hQ : ∀ c a v w, Q (.panic c) (a.put (some d) v) w → Q (.panic c) a w) (hw : Region.wanted o (yielded ops a.tmps) = true) (hy : ∀ w, S w → (execOp a.eval o).run P w = .ok (.value v) w) (hS : S w)
    (h : wpAnyH P md ops Q S fuel (listed.setIfInBounds i true) (a.put (some d) v) w) : wpAnyH P md ops Q S (fuel + 1) listed a w :=
  wpAnyH_take hi hs hf hr (fun c a w => by rw [hd]; exact hQ c a _ w) (Or.inl ⟨hw, hy⟩) hS (by rw [hd]; exact h)
/-- .. its guard is not met -/
theorem take_no {i d : Nat} {fuel : Nat} {listed : Array Bool} {a : Act} {w : World} (o : Oper) (hi : ops[i]? = some o) (hd : o.dst = some d)
    (hs : Region.noSelect ops = true) (hf : Region.free md ops listed i = true) (hr : (Region.ready md ops listed).contains i = true)
    (hQ : ∀ c a v w, Q (.panic c) (a.put (some d) v) w → Q (.panic c) a w) (hw : Region.wanted o (yielded ops a.tmps) = false) (hS : S w)
    (h : wpAnyH P md ops Q S fuel (listed.setIfInBounds i true) (a.put (some d) undef) w) : wpAnyH P md ops Q S (fuel + 1) listed a w :=
  wpAnyH_take hi hs hf hr (fun c a w => by rw [hd]; exact hQ c a _ w) (Or.inr ⟨hw, rfl⟩) hS (by rw [hd]; exact h)
end
end Go.Proofs.YticnpibkpfpojaaGreatDoor
