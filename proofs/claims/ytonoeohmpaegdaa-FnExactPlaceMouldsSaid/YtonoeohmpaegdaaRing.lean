/- Rings in a list: how they read, their size, copy and comparison, what mark and held do. -/
import Derived.Test.YtonoeohmpaegdaaPred
import Derived.Test.YtonoeohmpaegdaaRowBase
import Derived.Test.YtonoeohmpaegdaaOwn
import Derived.Test.YtonoeohmpaegdaaFrame
import Derived.Deep.RegionHeld3
import Derived.Handy
import Derived.KernelRfl
import Derived.ShutString
import Derived.ChangeShapes
namespace Go.Proofs.Ytonoeohmpaegdaa
set_option linter.unusedVariables false
open Go.RowKit

set_option maxHeartbeats 400000 in
theorem toRing_calls (a0 : Int) (a1 : Int) (a2 : Int) (w : World) :
    Calls Try.prog 100 #[.agg #[.int .i64 a0, .int .i64 a1, .int .i64 a2]] w fun e w' => e = .returned (.agg #[.int .i64 a0, .int .i64 a1, .int .i64 a2]) ∧ Below w.heap.size w w' := by
  go_enter Try.func100, Try.ntmps100
  go_wp2
  refine bodyPost_ret (v := .agg #[.int .i64 a0, .int .i64 a1, .int .i64 a2]) (by simp [results, Try.results100, go_sem]) rfl ⟨rfl, ?_⟩
  go_grown
set_option maxHeartbeats 400000 in
theorem eqRing_calls (a0 : Int) (a1 : Int) (a2 : Int) (w : World) :
    Calls Try.prog 102 #[.agg #[.int .i64 a0, .int .i64 a1, .int .i64 a2], .agg #[.int .i64 a0, .int .i64 a1, .int .i64 a2]] w fun e w' => e = .returned (.bool true) ∧ Below w.heap.size w w' := by
  go_enter Try.func102, Try.ntmps102
  go_wp2
  go_ret
  exact ⟨rfl, ((Below.refl _ _).alloc (Nat.le_refl _) _).alloc (by simp) _⟩
/-- element of type Ring at ⟨b, o⟩ -/
def RingAt (w : World) (b o : Nat) (a0 : Int) (a1 : Int) (a2 : Int) : Prop := w.cell? ⟨b, o, none⟩ = some (.int .i64 a0) ∧ w.cell? ⟨b, o + 1, none⟩ = some (.int .i64 a1) ∧ w.cell? ⟨b, o + 2, none⟩ = some (.int .i64 a2)
/-- the slice at A reads as n elements -/
def RingRow (w : World) (A : Option Addr) (n : Nat) (a0 : Nat → Int) (a1 : Nat → Int) (a2 : Nat → Int) : Prop := 0 < n → ∃ b o, A = some ⟨b, o, none⟩ ∧ ∀ i, i < n → RingAt w b (o + i * 3) (a0 i) (a1 i) (a2 i)
theorem RingAt.lt {w : World} {b o : Nat} {a0 : Int} {a1 : Int} {a2 : Int} (h : RingAt w b o a0 a1 a2) : b < w.heap.size := cell_lt h.1
theorem RingAt.below {w w' : World} {b o B : Nat} {a0 : Int} {a1 : Int} {a2 : Int} (h : RingAt w b o a0 a1 a2) (hb : Below B w w') (hB : w.heap.size ≤ B) : RingAt w' b o a0 a1 a2 :=
  ⟨(hb.cell (p := ⟨b, o, none⟩) (Nat.lt_of_lt_of_le (RingAt.lt h) hB)).trans h.1, (hb.cell (p := ⟨b, o + 1, none⟩) (Nat.lt_of_lt_of_le (RingAt.lt h) hB)).trans h.2.1, (hb.cell (p := ⟨b, o + 2, none⟩) (Nat.lt_of_lt_of_le (RingAt.lt h) hB)).trans h.2.2⟩
theorem RingRow.below {w w' : World} {A : Option Addr} {n B : Nat} {a0 : Nat → Int} {a1 : Nat → Int} {a2 : Nat → Int} (h : RingRow w A n a0 a1 a2) (hb : Below B w w') (hB : w.heap.size ≤ B) : RingRow w' A n a0 a1 a2 := fun hn => by
  obtain ⟨b, o, hA, hall⟩ := h hn
  exact ⟨b, o, hA, fun i hi => (hall i hi).below hb hB⟩
theorem RingRow.same {w w' : World} {g q n : Nat} {a0 : Nat → Int} {a1 : Nat → Int} {a2 : Nat → Int} (h : RingRow w (some ⟨g, q, none⟩) n a0 a1 a2) (hb : w'.heap[g]? = w.heap[g]?) : RingRow w' (some ⟨g, q, none⟩) n a0 a1 a2 := fun hn => by
  obtain ⟨b, o, hA, hall⟩ := h hn
  simp only [Option.some.injEq, Addr.mk.injEq, and_true] at hA
  obtain ⟨rfl, rfl⟩ := hA
  exact ⟨g, q, rfl, fun i hi => ⟨(World.cell?_of_block (w := w) (a := ⟨g, q + i * 3, none⟩) hb).trans (hall i hi).1, (World.cell?_of_block (w := w) (a := ⟨g, q + i * 3 + 1, none⟩) hb).trans (hall i hi).2.1, (World.cell?_of_block (w := w) (a := ⟨g, q + i * 3 + 2, none⟩) hb).trans (hall i hi).2.2⟩⟩
set_option maxHeartbeats 400000 in
theorem szRingS_calls (A : Option Addr) (n c : Nat) (left : Int) (w : World) (hn : n ≤ maxLen) (h0 : 0 ≤ left) (h1 : left ≤ 4611686018427387904) :
    Calls Try.prog 72 #[.slice A n c, .int .i64 left] w fun e w' => e = .returned (.int .i64 (if left < n then -1 else left - n)) ∧ Below w.heap.size w w' := by
  unfold maxLen at hn
  by_cases h : left < n
  · rw [if_pos h]
    go_enter Try.func72, Try.ntmps72
    go_wp2
    go_ret
    exact ⟨rfl, Below.refl _ _⟩
  · rw [if_neg h]
    go_enter Try.func72, Try.ntmps72
    go_wp2
    go_ret
    exact ⟨rfl, Below.refl _ _⟩
theorem Ring_info : (Try.prog.info? 127).map (fun i => (i.zero, i.size, i.bytes)) = some (some (.agg #[.int .i64 0, .int .i64 0, .int .i64 0]), 3, 24) := by kernel_rfl
def RingArr (arr : Array Value) (m : Nat) (a0 : Nat → Int) (a1 : Nat → Int) (a2 : Nat → Int) : Prop := ∀ i, i < m → arr[i * 3]? = some (.int .i64 (a0 i)) ∧ arr[i * 3 + 1]? = some (.int .i64 (a1 i)) ∧ arr[i * 3 + 2]? = some (.int .i64 (a2 i))
theorem RingArr.next {arr : Array Value} {n k : Nat} {a0 : Nat → Int} {a1 : Nat → Int} {a2 : Nat → Int} (h : RingArr arr k a0 a1 a2) (hs : arr.size = n * 3) (hk : k < n) : RingArr (((arr.setIfInBounds (k * 3) (.int .i64 (a0 k))).setIfInBounds (k * 3 + 1) (.int .i64 (a1 k))).setIfInBounds (k * 3 + 2) (.int .i64 (a2 k))) (k + 1) a0 a1 a2 := by
  intro i hi
  rcases Nat.lt_or_ge i k with h1 | h1
  · have h2 := h i h1
    refine ⟨?_, ?_, ?_⟩
    all_goals simp (disch := omega) only [Array.getElem?_setIfInBounds_ne]
    · exact h2.1
    · exact h2.2.1
    · exact h2.2.2
  · obtain rfl : i = k := by omega
    refine ⟨?_, ?_, ?_⟩
    · rw [Array.getElem?_setIfInBounds_ne (by omega), Array.getElem?_setIfInBounds_ne (by omega), Array.getElem?_setIfInBounds_self_of_lt (by (try simp); omega)]
    · rw [Array.getElem?_setIfInBounds_ne (by omega), Array.getElem?_setIfInBounds_self_of_lt (by (try simp); omega)]
    · rw [Array.getElem?_setIfInBounds_self_of_lt (by (try simp); omega)]
theorem RingArr.row {w : World} {g T n : Nat} {arr : Array Value} {a0 : Nat → Int} {a1 : Nat → Int} {a2 : Nat → Int} (h : RingArr arr n a0 a1 a2) (hb : Blk w g T arr) : RingRow w (some ⟨g, 0, none⟩) n a0 a1 a2 := fun _ =>
  ⟨g, 0, rfl, fun i hi => by
    have h2 := h i hi
    rw [Nat.zero_add]
    exact ⟨(hb.cell _).trans h2.1, (hb.cell _).trans h2.2.1, (hb.cell _).trans h2.2.2⟩⟩
set_option maxHeartbeats 1000000 in
theorem toRingS_calls (A : Option Addr) (n c : Nat) (a0 : Nat → Int) (a1 : Nat → Int) (a2 : Nat → Int) (w : World) (h : RingRow w A n a0 a1 a2) (hn : n ≤ 1048576) :
    Calls Try.prog 79 #[.slice A n c] w fun e w' => e = .returned (.slice (some ⟨w.heap.size, 0, none⟩) n n) ∧ Below w.heap.size w w' ∧ w.heap.size < w'.heap.size ∧ RingRow w' (some ⟨w.heap.size, 0, none⟩) n a0 a1 a2 := by
  obtain ⟨ie, hi, hz0, hz1, hz2⟩ := info_parts Ring_info
  have hmk := run_make_rowN (P := Try.prog) 67 127 ie _ Try.underlying67 hi hz0 .i64 .i64 n n (Nat.le_refl _) (by rw [hz2]; omega) (by omega) w
  rw [hz1] at hmk
  have hsz0 := madeCells_size (Value.cells (.agg #[.int .i64 0, .int .i64 0, .int .i64 0])) (n * 3)
  generalize madeCells (Value.cells (.agg #[.int .i64 0, .int .i64 0, .int .i64 0])) (n * 3) = arr0 at hmk hsz0
  have HSZ := Lib.hid hsz0
  have H := Lib.hid h
  clear h hsz0 hi hz0 hz1 hz2
  go_enter Try.func79, Try.ntmps79
  go_wp2
  clear hmk
  go_loopw [4] (fun i wr => ∃ (k : Nat) (arr : Array Value), k ≤ n ∧ i = .int .i64 k ∧ Hid (arr.size = n * 3) ∧ Hid (Blk wr w.heap.size 127 arr) ∧ Below w.heap.size w wr ∧ w.heap.size < wr.heap.size ∧ Hid (RingArr arr k a0 a1 a2)) (fun i _ => n - (intOf i).toNat)
  case atStart => exact ⟨0, arr0, by omega, rfl, HSZ, Blk.new w _ _, (Below.refl _ _).alloc (Nat.le_refl _) _, by simp, fun i hi => by omega⟩
  case round =>
    obtain ⟨k, arr, hk, rfl, hsz, hblk, hbr, hgt, hall⟩ := hrel
    by_cases hlt : k < n
    · obtain ⟨b, o, rfl, hrow⟩ := H.out (by omega)
      obtain ⟨c0, c1, c2⟩ := (hrow k hlt).below hbr (Nat.le_refl _)
      have HR := Lib.hid hrow
      clear hrow
      obtain ⟨x0, hx0⟩ := arr_some (arr := arr) (j := k * 3) (by have := hsz.out; omega)
      obtain ⟨x1, hx1⟩ := arr_some (arr := arr) (j := k * 3 + 1) (by have := hsz.out; omega)
      obtain ⟨x2, hx2⟩ := arr_some (arr := arr) (j := k * 3 + 2) (by have := hsz.out; omega)
      have HX0 := Lib.hid hx0
      have HX1 := Lib.hid hx1
      have HX2 := Lib.hid hx2
      clear hx0 hx1 hx2
      go_wp2_with (go_at_call 100; refine (toRing_calls _ _ _ _).mono ?_; rintro e w1 ⟨rfl, hb⟩; have hblk1 : Blk w1 w.heap.size 127 arr := hblk.out.below hb hgt; have y0 := (Blk.cell hblk1 (k * 3)).trans HX0.out; have z0 := Blk.frozen hblk1 (k * 3); have y1 := (Blk.cell hblk1 (k * 3 + 1)).trans HX1.out; have z1 := Blk.frozen hblk1 (k * 3 + 1); have y2 := (Blk.cell hblk1 (k * 3 + 2)).trans HX2.out; have z2 := Blk.frozen hblk1 (k * 3 + 2); have HB1 := Lib.hid hblk1; clear hblk1; have hbr2 : Below w.heap.size w w1 := hbr.trans (hb.mono hbr.size); have hgt2 := Nat.lt_of_lt_of_le hgt hb.size; clear hb)
      go_roundw
      case rel => exact ⟨k + 1, _, by omega, by go_num, by have := hsz.out; simpa [Hid] using this, (((HB1.out.set_ (k * 3) _).set_ (k * 3 + 1) _).set_ (k * 3 + 2) _), (((hbr2.setCell (Nat.le_refl _) _).setCell (Nat.le_refl _) _).setCell (Nat.le_refl _) _), by simpa using hgt2, hall.out.next hsz.out hlt⟩
      case measure => simp [intOf]; omega
    · obtain rfl : k = n := by omega
      have hfin := Lib.hid (hall.out.row hblk.out)
      clear hall hblk hsz
      go_wp2
      go_ret
      exact ⟨rfl, hbr, hgt, hfin.out⟩
set_option maxHeartbeats 2000000 in
theorem eqRingS_calls (A A2 : Option Addr) (n c c2 : Nat) (a0 : Nat → Int) (a1 : Nat → Int) (a2 : Nat → Int) (w : World) (h : RingRow w A n a0 a1 a2) (h2 : RingRow w A2 n a0 a1 a2) (hn : n ≤ 1048576) :
    Calls Try.prog 90 #[.slice A n c, .slice A2 n c2] w fun e w' => e = .returned (.bool true) ∧ Below w.heap.size w w' := by
  have H := Lib.hid h
  have H2 := Lib.hid h2
  clear h h2
  go_enter Try.func90, Try.ntmps90
  go_wp2
  go_loopw [5] (fun i wr => ∃ k : Nat, k ≤ n ∧ i = .int .i64 k ∧ Below w.heap.size w wr) (fun i _ => n - (intOf i).toNat)
  case atStart => exact ⟨0, by omega, rfl, Below.refl _ _⟩
  case round =>
    obtain ⟨k, hk, rfl, hbr⟩ := hrel
    by_cases hlt : k < n
    · obtain ⟨b, o, rfl, hrow⟩ := H.out (by omega)
      obtain ⟨b2, o2, rfl, hrow2⟩ := H2.out (by omega)
      have hbw := (hrow k hlt).lt
      have hbw2 := (hrow2 k hlt).lt
      obtain ⟨c0, c1, c2⟩ := (hrow k hlt).below hbr (Nat.le_refl _)
      obtain ⟨g0, g1, g2⟩ := (hrow2 k hlt).below hbr (Nat.le_refl _)
      have HR := Lib.hid hrow
      have HR2 := Lib.hid hrow2
      clear hrow hrow2
      go_wp2_with fail
      go_region_held3 (fun w' => Below w.heap.size w w' ∧ w'.cell? ⟨b, o + k * 3, none⟩ = some (.int .i64 (a0 k)) ∧ w'.cell? ⟨b, o + k * 3 + 1, none⟩ = some (.int .i64 (a1 k)) ∧ w'.cell? ⟨b, o + k * 3 + 2, none⟩ = some (.int .i64 (a2 k)) ∧ w'.cell? ⟨b2, o2 + k * 3, none⟩ = some (.int .i64 (a0 k)) ∧ w'.cell? ⟨b2, o2 + k * 3 + 1, none⟩ = some (.int .i64 (a1 k)) ∧ w'.cell? ⟨b2, o2 + k * 3 + 2, none⟩ = some (.int .i64 (a2 k)))
        (first
          | exact ⟨hbr.drew, c0, c1, c2, g0, g1, g2⟩
          | assumption
          | (obtain ⟨q0, d0, d1, d2, e0, e1, e2⟩ := ‹Below _ _ _ ∧ _›; exact ⟨q0.trans (hb.mono q0.size), (hb.cell (p := ⟨_, _, none⟩) (Nat.lt_of_lt_of_le hbw q0.size)).trans d0, (hb.cell (p := ⟨_, _, none⟩) (Nat.lt_of_lt_of_le hbw q0.size)).trans d1, (hb.cell (p := ⟨_, _, none⟩) (Nat.lt_of_lt_of_le hbw q0.size)).trans d2, (hb.cell (p := ⟨_, _, none⟩) (Nat.lt_of_lt_of_le hbw2 q0.size)).trans e0, (hb.cell (p := ⟨_, _, none⟩) (Nat.lt_of_lt_of_le hbw2 q0.size)).trans e1, (hb.cell (p := ⟨_, _, none⟩) (Nat.lt_of_lt_of_le hbw2 q0.size)).trans e2⟩))
        (first
          | (go_at_call 102; refine (eqRing_calls _ _ _ _).mono ?_; rintro e w1 ⟨rfl, hb⟩))
      all_goals
        have hbr2 := (‹Below _ _ _ ∧ _›).1
        go_wp2
        go_roundw
        case rel => exact ⟨k + 1, by omega, by go_num, hbr2⟩
        case measure => simp [intOf]; omega
    · obtain rfl : k = n := by omega
      go_wp2
      go_ret
      exact ⟨rfl, hbr⟩
open Go.ChangeShapes Go.WideShapes Go.Deep in
theorem openRingS {H : Type} {enc : TypeId × Value → H} {w : World} {base : Nat} {spare : Nat → Bool} {held : Bool} {fuel : Nat} {A : Option Addr} {n c : Nat} {x : DataW H × List MemPlace} (h : DataW.trod enc Try.prog w base spare held fuel 59 [.slice A n c] = some x) :
    ∃ (a0 : Nat → Int) (a1 : Nat → Int) (a2 : Nat → Int), RingRow w A n a0 a1 a2 ∧ n ≤ maxLen ∧ (∀ i, i < n → (Lit.int .i64 (a0 i)).wf = true) ∧ (∀ i, i < n → (Lit.int .i64 (a1 i)).wf = true) ∧ (∀ i, i < n → (Lit.int .i64 (a2 i)).wf = true) := by
  rcases open_slice Try.underlying59 h with ⟨hcs, hx⟩ | ⟨a, len, cap, m, fu, D, Pl, hcs, hb, hl, hm, hmm, hx, hi⟩
  · simp only [List.cons.injEq, Value.slice.injEq, and_true] at hcs
    obtain ⟨rfl, rfl, rfl⟩ := hcs
    exact ⟨fun _ => 0, fun _ => 0, fun _ => 0, fun h0 => by omega, by unfold maxLen; omega, fun i h0 => by omega, fun i h0 => by omega, fun i h0 => by omega⟩
  · simp only [List.cons.injEq, Value.slice.injEq, and_true] at hcs
    obtain ⟨rfl, rfl, rfl⟩ := hcs
    have hlm : n ≤ m := by rw [hmm]; split <;> omega
    have hC : Try.prog.cellsOf 149 = 3 := by kernel_rfl
    rw [hC] at hi
    have hall : ∀ i, ∃ t : Int × Int × Int, i < n → RingAt w a.block (a.off + i * 3) t.1 t.2.1 t.2.2 ∧ (Lit.int .i64 t.1).wf = true ∧ (Lit.int .i64 t.2.1).wf = true ∧ (Lit.int .i64 t.2.2).wf = true := by
      intro i
      by_cases hin : i < n
      · obtain ⟨cs, hc, ht⟩ := hi i (by omega)
        obtain ⟨-, hcl, hat⟩ := Go.World.cells?_some hc
        obtain ⟨hln, m2, hg⟩ := fields_of Try.underlying149 (by kernel_rfl) (by kernel_rfl) ht
        obtain ⟨v0, v1, v2, rfl⟩ := list3 hln
        obtain ⟨y0, t0⟩ := hg 0 _ rfl v0 rfl
        have k0 := hat 0 (by omega)
        obtain ⟨x0, e0, _, q0⟩ := DataW.trod_int Try.underlying2 t0
        obtain rfl := one_cell e0
        obtain ⟨y1, t1⟩ := hg 1 _ rfl v1 rfl
        have k1 := hat 1 (by omega)
        obtain ⟨x1, e1, _, q1⟩ := DataW.trod_int Try.underlying2 t1
        obtain rfl := one_cell e1
        obtain ⟨y2, t2⟩ := hg 2 _ rfl v2 rfl
        have k2 := hat 2 (by omega)
        obtain ⟨x2, e2, _, q2⟩ := DataW.trod_int Try.underlying2 t2
        obtain rfl := one_cell e2
        exact ⟨(x0, x1, x2), fun _ => ⟨⟨cell_add2 k0 (by omega), cell_add2 k1 (by omega), cell_add2 k2 (by omega)⟩, q0, q1, q2⟩⟩
      · exact ⟨(0, 0, 0), fun h0 => absurd h0 hin⟩
    obtain ⟨F, hF⟩ := Classical.axiomOfChoice hall
    refine ⟨fun i => (F i).1, fun i => (F i).2.1, fun i => (F i).2.2, fun hn => ?_, by omega, fun i h0 => (hF i h0).2.1, fun i h0 => (hF i h0).2.2.1, fun i h0 => (hF i h0).2.2.2⟩
    refine ⟨a.block, a.off, ?_, fun i h0 => (hF i h0).1⟩
    obtain ⟨b, o, spot⟩ := a
    obtain ⟨cs, hc, ht⟩ := hi 0 (by omega)
    obtain ⟨-, hcl, hat⟩ := Go.World.cells?_some hc
    have k0 := hat 0 (by omega)
    rw [List.getElem?_eq_getElem (show 0 < cs.length by omega)] at k0
    have hspot : spot = none := by simpa [Addr.add] using Go.World.cell?_spot k0
    rw [hspot]
/-- the row lies at the head of a block of the call's own -/
def RingOwn (w : World) (A : Option Addr) (n : Nat) (a0 : Nat → Int) (a1 : Nat → Int) (a2 : Nat → Int) (G : Nat) : Prop := 0 < n → A = some ⟨G, 0, none⟩ ∧ ∃ arr : Array Value, Blk w G 127 arr ∧ n * 3 ≤ arr.size ∧ RingArr arr n a0 a1 a2
theorem RingOwn.row {w : World} {A : Option Addr} {n G : Nat} {a0 : Nat → Int} {a1 : Nat → Int} {a2 : Nat → Int} (h : RingOwn w A n a0 a1 a2 G) : RingRow w A n a0 a1 a2 := fun hn => by
  obtain ⟨hA, arr, hb, -, ha⟩ := h hn
  exact hA ▸ (ha.row hb) hn
theorem RingOwn.keep {w w' : World} {A : Option Addr} {n G : Nat} {a0 : Nat → Int} {a1 : Nat → Int} {a2 : Nat → Int} (h : RingOwn w A n a0 a1 a2 G) (hb : Below w.heap.size w w') : RingOwn w' A n a0 a1 a2 G := fun hn => by
  obtain ⟨hA, arr, hk, hs, ha⟩ := h hn
  exact ⟨hA, arr, hk.keep hb, hs, ha⟩
theorem RingOwn.grown {w w' : World} {A : Option Addr} {n G H : Nat} {a0 : Nat → Int} {a1 : Nat → Int} {a2 : Nat → Int} (h : RingOwn w A n a0 a1 a2 G) (hg : w.grownBy w' (some H)) (hne : G ≠ H) : RingOwn w' A n a0 a1 a2 G := fun hn => by
  obtain ⟨hA, arr, hk, hs, ha⟩ := h hn
  exact ⟨hA, arr, (hg.block G hk.lt (by simpa using hne)).trans hk, hs, ha⟩
theorem RingRow.grown {w w' : World} {A : Option Addr} {n H : Nat} {a0 : Nat → Int} {a1 : Nat → Int} {a2 : Nat → Int} (h : RingRow w A n a0 a1 a2) (hg : w.grownBy w' (some H)) (hne : ∀ b o, A = some ⟨b, o, none⟩ → b ≠ H) : RingRow w' A n a0 a1 a2 := fun hn => by
  obtain ⟨b, o, hA, hall⟩ := h hn
  have hb := hne b o hA
  exact ⟨b, o, hA, fun i hi => ⟨hg.cell (hall i hi).1 (by simpa using hb), hg.cell (hall i hi).2.1 (by simpa using hb), hg.cell (hall i hi).2.2 (by simpa using hb)⟩⟩
theorem RingArr.mark {arr : Array Value} {n k : Nat} {a0 : Nat → Int} {a1 : Nat → Int} {a2 : Nat → Int} {v0 : Int} {v1 : Int} {v2 : Int} (h : RingArr arr k a0 a1 a2) (hs : n * 3 ≤ arr.size) (hk : k < n) (e0 : v0 = a0 k) (e1 : v1 = a1 k) (e2 : v2 = a2 k) : RingArr (((arr.setIfInBounds (k * 3) (.int .i64 v0)).setIfInBounds (k * 3 + 1) (.int .i64 v1)).setIfInBounds (k * 3 + 2) (.int .i64 v2)) (k + 1) a0 a1 a2 := by
  subst e0 e1 e2
  intro i hi
  rcases Nat.lt_or_ge i k with h1 | h1
  · have h2 := h i h1
    refine ⟨?_, ?_, ?_⟩
    all_goals simp (disch := omega) only [Array.getElem?_setIfInBounds_ne]
    · exact h2.1
    · exact h2.2.1
    · exact h2.2.2
  · obtain rfl : i = k := by omega
    refine ⟨?_, ?_, ?_⟩
    · rw [Array.getElem?_setIfInBounds_ne (by omega), Array.getElem?_setIfInBounds_ne (by omega), Array.getElem?_setIfInBounds_self_of_lt (by (try simp); omega)]
    · rw [Array.getElem?_setIfInBounds_ne (by omega), Array.getElem?_setIfInBounds_self_of_lt (by (try simp); omega)]
    · rw [Array.getElem?_setIfInBounds_self_of_lt (by (try simp); omega)]
theorem RingArr.size_mark {arr : Array Value} {n k : Nat} {v0 : Int} {v1 : Int} {v2 : Int} (hs : n * 3 ≤ arr.size) : n * 3 ≤ ((((arr.setIfInBounds (k * 3) (.int .i64 v0)).setIfInBounds (k * 3 + 1) (.int .i64 v1)).setIfInBounds (k * 3 + 2) (.int .i64 v2))).size := by simpa using hs
theorem RingOwn.same {w w' : World} {A : Option Addr} {n G : Nat} {a0 : Nat → Int} {a1 : Nat → Int} {a2 : Nat → Int} (h : RingOwn w A n a0 a1 a2 G) (hb : w'.heap[G]? = w.heap[G]?) : RingOwn w' A n a0 a1 a2 G := fun hn => by
  obtain ⟨hA, arr, hk, hs, ha⟩ := h hn
  exact ⟨hA, arr, hb.trans hk, hs, ha⟩
set_option maxHeartbeats 1000000 in
theorem toRingS_own (A : Option Addr) (n c : Nat) (a0 : Nat → Int) (a1 : Nat → Int) (a2 : Nat → Int) (w : World) (h : RingRow w A n a0 a1 a2) (hn : n ≤ 1048576) :
    Calls Try.prog 79 #[.slice A n c] w fun e w' => e = .returned (.slice (some ⟨w.heap.size, 0, none⟩) n n) ∧ Below w.heap.size w w' ∧ w.heap.size < w'.heap.size ∧ RingOwn w' (some ⟨w.heap.size, 0, none⟩) n a0 a1 a2 w.heap.size := by
  obtain ⟨ie, hi, hz0, hz1, hz2⟩ := info_parts Ring_info
  have hmk := run_make_rowN (P := Try.prog) 67 127 ie _ Try.underlying67 hi hz0 .i64 .i64 n n (Nat.le_refl _) (by rw [hz2]; omega) (by omega) w
  rw [hz1] at hmk
  have hsz0 := madeCells_size (Value.cells (.agg #[.int .i64 0, .int .i64 0, .int .i64 0])) (n * 3)
  generalize madeCells (Value.cells (.agg #[.int .i64 0, .int .i64 0, .int .i64 0])) (n * 3) = arr0 at hmk hsz0
  have HSZ := Lib.hid hsz0
  have H := Lib.hid h
  clear h hsz0 hi hz0 hz1 hz2
  go_enter Try.func79, Try.ntmps79
  go_wp2
  clear hmk
  go_loopw [4] (fun i wr => ∃ (k : Nat) (arr : Array Value), k ≤ n ∧ i = .int .i64 k ∧ Hid (arr.size = n * 3) ∧ Hid (Blk wr w.heap.size 127 arr) ∧ Below w.heap.size w wr ∧ w.heap.size < wr.heap.size ∧ Hid (RingArr arr k a0 a1 a2)) (fun i _ => n - (intOf i).toNat)
  case atStart => exact ⟨0, arr0, by omega, rfl, HSZ, Blk.new w _ _, (Below.refl _ _).alloc (Nat.le_refl _) _, by simp, fun i hi => by omega⟩
  case round =>
    obtain ⟨k, arr, hk, rfl, hsz, hblk, hbr, hgt, hall⟩ := hrel
    by_cases hlt : k < n
    · obtain ⟨b, o, rfl, hrow⟩ := H.out (by omega)
      obtain ⟨c0, c1, c2⟩ := (hrow k hlt).below hbr (Nat.le_refl _)
      have HR := Lib.hid hrow
      clear hrow
      obtain ⟨x0, hx0⟩ := arr_some (arr := arr) (j := k * 3) (by have := hsz.out; omega)
      obtain ⟨x1, hx1⟩ := arr_some (arr := arr) (j := k * 3 + 1) (by have := hsz.out; omega)
      obtain ⟨x2, hx2⟩ := arr_some (arr := arr) (j := k * 3 + 2) (by have := hsz.out; omega)
      have HX0 := Lib.hid hx0
      have HX1 := Lib.hid hx1
      have HX2 := Lib.hid hx2
      clear hx0 hx1 hx2
      go_wp2_with (go_at_call 100; refine (toRing_calls _ _ _ _).mono ?_; rintro e w1 ⟨rfl, hb⟩; have hblk1 : Blk w1 w.heap.size 127 arr := hblk.out.below hb hgt; have y0 := (Blk.cell hblk1 (k * 3)).trans HX0.out; have z0 := Blk.frozen hblk1 (k * 3); have y1 := (Blk.cell hblk1 (k * 3 + 1)).trans HX1.out; have z1 := Blk.frozen hblk1 (k * 3 + 1); have y2 := (Blk.cell hblk1 (k * 3 + 2)).trans HX2.out; have z2 := Blk.frozen hblk1 (k * 3 + 2); have HB1 := Lib.hid hblk1; clear hblk1; have hbr2 : Below w.heap.size w w1 := hbr.trans (hb.mono hbr.size); have hgt2 := Nat.lt_of_lt_of_le hgt hb.size; clear hb)
      go_roundw
      case rel => exact ⟨k + 1, _, by omega, by go_num, by have := hsz.out; simpa [Hid] using this, (((HB1.out.set_ (k * 3) _).set_ (k * 3 + 1) _).set_ (k * 3 + 2) _), (((hbr2.setCell (Nat.le_refl _) _).setCell (Nat.le_refl _) _).setCell (Nat.le_refl _) _), by simpa using hgt2, hall.out.next hsz.out hlt⟩
      case measure => simp [intOf]; omega
    · obtain rfl : k = n := by omega
      have hfin : Hid (RingOwn wr (some ⟨w.heap.size, 0, none⟩) k a0 a1 a2 w.heap.size) := Lib.hid fun _ => ⟨rfl, arr, hblk.out, Nat.le_of_eq hsz.out.symm, hall.out⟩
      clear hall hblk hsz
      go_wp2
      go_ret
      exact ⟨rfl, hbr, hgt, hfin.out⟩
set_option maxRecDepth 20000 in
set_option maxHeartbeats 2000000 in
theorem markRingS_calls (A : Option Addr) (n c G : Nat) (a0 : Nat → Int) (a1 : Nat → Int) (a2 : Nat → Int) (k : Nat) (w : World) (h : RingOwn w A n a0 a1 a2 G) (hn : n ≤ 1048576) (hk : k ≤ 1000000000) :
    Calls Try.prog 51 #[.slice A n c, .int .i64 k] w fun e w' => e = .returned (.int .i64 ((k + 3 * n : Nat) : Int)) ∧ RingOwn w' A n (fun i => ((k + 3 * i : Nat) : Int)) (fun i => ((k + 3 * i + 1 : Nat) : Int)) (fun i => ((k + 3 * i + 2 : Nat) : Int)) G ∧ w.grownBy w' (some G) := by
  have H := Lib.hid h
  clear h
  go_enter Try.func51, Try.ntmps51
  go_wp2
  go_loopw [1, 5] (fun q i wr => ∃ j : Nat, j ≤ n ∧ q = .int .i64 ((k + 3 * j : Nat) : Int) ∧ i = .int .i64 j ∧ Hid (w.grownBy wr (some G)) ∧ Hid (0 < n → A = some ⟨G, 0, none⟩ ∧ ∃ arr : Array Value, Blk wr G 127 arr ∧ n * 3 ≤ arr.size ∧ RingArr arr j (fun i => ((k + 3 * i : Nat) : Int)) (fun i => ((k + 3 * i + 1 : Nat) : Int)) (fun i => ((k + 3 * i + 2 : Nat) : Int)))) (fun _ i _ => n - (intOf i).toNat)
  case atStart => exact ⟨0, by omega, rfl, rfl, Lib.hid (World.grownBy.refl _ _), Lib.hid fun hn => by
    obtain ⟨hA, arr, hb, hs, ha⟩ := H.out hn
    exact ⟨hA, arr, hb, hs, fun i hi => by omega⟩⟩
  case round =>
    obtain ⟨j, hj, rfl, rfl, hg, harr⟩ := hrel
    by_cases hlt : j < n
    · obtain ⟨rfl, arr, hb, hs, ha⟩ := harr.out (by omega)
      obtain ⟨x0, hx0⟩ := arr_some (arr := arr) (j := j * 3) (by omega)
      obtain ⟨x1, hx1⟩ := arr_some (arr := arr) (j := j * 3 + 1) (by omega)
      obtain ⟨x2, hx2⟩ := arr_some (arr := arr) (j := j * 3 + 2) (by omega)
      have y0 := (hb.cell (j * 3)).trans hx0
      have z0 := hb.frozen (j * 3)
      have y1 := (hb.cell (j * 3 + 1)).trans hx1
      have z1 := hb.frozen (j * 3 + 1)
      have y2 := (hb.cell (j * 3 + 2)).trans hx2
      have z2 := hb.frozen (j * 3 + 2)
      have HB := Lib.hid hb
      have HA := Lib.hid ha
      have HS := Lib.hid hs
      obtain ⟨M, hM⟩ : ∃ M : Nat, M = k + 3 * j := ⟨_, rfl⟩
      rw [← hM]
      have hMb : M ≤ 2000000000000 := by omega
      have HM := Lib.hid hM
      clear hb ha hs hM hx0 hx1 hx2
      go_wp2
      go_roundw
      case rel =>
        refine ⟨j + 1, by omega, by have := HM.out; go_num, by go_num, Lib.hid ?_, Lib.hid ?_⟩
        · exact (gb_set (gb_set (gb_set hg.out (by simp) _) (by simp) _) (by simp) _)
        · intro _
          refine ⟨by first | rfl | trivial, _, (((HB.out.set_ (j * 3) _).set_ (j * 3 + 1) _).set_ (j * 3 + 2) _), ?_, ?_⟩
          · exact RingArr.size_mark HS.out
          · exact HA.out.mark HS.out hlt (by have := HM.out; show _ = ((k + 3 * j : Nat) : Int); omega) (by have := HM.out; show _ = ((k + 3 * j + 1 : Nat) : Int); omega) (by have := HM.out; show _ = ((k + 3 * j + 2 : Nat) : Int); omega)
      case measure => simp [intOf]; omega
    · obtain rfl : j = n := by omega
      go_wp2
      go_ret
      exact ⟨rfl, harr.out, hg.out⟩
end Go.Proofs.Ytonoeohmpaegdaa
