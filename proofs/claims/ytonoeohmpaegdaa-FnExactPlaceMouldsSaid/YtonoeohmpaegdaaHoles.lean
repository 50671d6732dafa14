/- Lists of holes: how they read, their size, copy and comparison; which are valid. -/
import Derived.Test.YtonoeohmpaegdaaHole
import Derived.Test.YtonoeohmpaegdaaRowBase
import Derived.Test.YtonoeohmpaegdaaOwn
import Derived.Test.YtonoeohmpaegdaaFrame
import Derived.Deep.RegionHeld3
import Derived.KernelRfl
import Derived.ShutString
import Derived.ChangeShapes
namespace Go.Proofs.Ytonoeohmpaegdaa
set_option linter.unusedVariables false
set_option linter.unusedSimpArgs false
open Go.RowKit

/-- element of type Hole at ⟨b, o⟩ -/
def HoleAt (w : World) (b o : Nat) (s0 : ByteArray) (a1 : Int) (a2 : Int) : Prop := w.cell? ⟨b, o, none⟩ = some (.string s0) ∧ w.cell? ⟨b, o + 1, none⟩ = some (.int .i64 a1) ∧ w.cell? ⟨b, o + 2, none⟩ = some (.int .i64 a2)
/-- the slice at A reads as n elements -/
def HoleRow (w : World) (A : Option Addr) (n : Nat) (s0 : Nat → ByteArray) (a1 : Nat → Int) (a2 : Nat → Int) : Prop := 0 < n → ∃ b o, A = some ⟨b, o, none⟩ ∧ ∀ i, i < n → HoleAt w b (o + i * 3) (s0 i) (a1 i) (a2 i)
theorem HoleAt.lt {w : World} {b o : Nat} {s0 : ByteArray} {a1 : Int} {a2 : Int} (h : HoleAt w b o s0 a1 a2) : b < w.heap.size := cell_lt h.1
theorem HoleAt.below {w w' : World} {b o B : Nat} {s0 : ByteArray} {a1 : Int} {a2 : Int} (h : HoleAt w b o s0 a1 a2) (hb : Below B w w') (hB : w.heap.size ≤ B) : HoleAt w' b o s0 a1 a2 :=
  ⟨(hb.cell (p := ⟨b, o, none⟩) (Nat.lt_of_lt_of_le (HoleAt.lt h) hB)).trans h.1, (hb.cell (p := ⟨b, o + 1, none⟩) (Nat.lt_of_lt_of_le (HoleAt.lt h) hB)).trans h.2.1, (hb.cell (p := ⟨b, o + 2, none⟩) (Nat.lt_of_lt_of_le (HoleAt.lt h) hB)).trans h.2.2⟩
theorem HoleRow.below {w w' : World} {A : Option Addr} {n B : Nat} {s0 : Nat → ByteArray} {a1 : Nat → Int} {a2 : Nat → Int} (h : HoleRow w A n s0 a1 a2) (hb : Below B w w') (hB : w.heap.size ≤ B) : HoleRow w' A n s0 a1 a2 := fun hn => by
  obtain ⟨b, o, hA, hall⟩ := h hn
  exact ⟨b, o, hA, fun i hi => (hall i hi).below hb hB⟩
theorem HoleRow.same {w w' : World} {g q n : Nat} {s0 : Nat → ByteArray} {a1 : Nat → Int} {a2 : Nat → Int} (h : HoleRow w (some ⟨g, q, none⟩) n s0 a1 a2) (hb : w'.heap[g]? = w.heap[g]?) : HoleRow w' (some ⟨g, q, none⟩) n s0 a1 a2 := fun hn => by
  obtain ⟨b, o, hA, hall⟩ := h hn
  simp only [Option.some.injEq, Addr.mk.injEq, and_true] at hA
  obtain ⟨rfl, rfl⟩ := hA
  exact ⟨g, q, rfl, fun i hi => ⟨(World.cell?_of_block (w := w) (a := ⟨g, q + i * 3, none⟩) hb).trans (hall i hi).1, (World.cell?_of_block (w := w) (a := ⟨g, q + i * 3 + 1, none⟩) hb).trans (hall i hi).2.1, (World.cell?_of_block (w := w) (a := ⟨g, q + i * 3 + 2, none⟩) hb).trans (hall i hi).2.2⟩⟩
set_option maxHeartbeats 1000000 in
theorem szHoleS_calls (A : Option Addr) (n c : Nat) (s0 : Nat → ByteArray) (a1 : Nat → Int) (a2 : Nat → Int) (left : Int) (w : World) (h : HoleRow w A n s0 a1 a2) (hs : ∀ i, i < n → (s0 i).size ≤ maxLen) (hn : n ≤ maxLen) (h0 : 0 ≤ left) (h1 : left ≤ 4611686018427387904) :
    Calls Try.prog 6 #[.slice A n c, .int .i64 left] w fun e w' => e = .returned (.int .i64 (if left < (n : Int) + sumS s0 n then -1 else left - ((n : Int) + sumS s0 n))) ∧ Below w.heap.size w w' := by
  unfold maxLen at hn
  by_cases hl : left < n
  · rw [if_pos (by omega)]
    go_enter Try.func6, Try.ntmps6
    go_wp2
    go_ret
    exact ⟨rfl, Below.refl _ _⟩
  · have H := Lib.hid h
    have HS := Lib.hid hs
    clear h hs
    generalize hres : (if left < (n : Int) + sumS s0 n then (-1 : Int) else left - ((n : Int) + sumS s0 n)) = R
    have HRES := Lib.hid hres
    clear hres
    go_enter Try.func6, Try.ntmps6
    go_wp2
    go_loopw [1, 5] (fun l i wr => ∃ k q : Nat, k ≤ n ∧ l = .int .i64 (left - n - q) ∧ i = .int .i64 k ∧ (q : Int) ≤ left - n ∧ Hid (q = sumS s0 k) ∧ Below w.heap.size w wr) (fun _ i _ => n - (intOf i).toNat)
    case atStart => exact ⟨0, 0, by omega, by simp, rfl, by omega, rfl, Below.refl _ _⟩
    case round =>
      obtain ⟨k, q, hk, rfl, rfl, hq, hv, hbr⟩ := hrel
      by_cases hlt : k < n
      · have hsk := HS.out k hlt
        have hmono := sumS_le s0 (show k + 1 ≤ n by omega)
        have hstep : Hid (sumS s0 (k + 1) = sumS s0 k + (s0 k).size) := rfl
        have hmono2 := Lib.hid hmono
        clear hmono
        obtain ⟨b, o, rfl, hall⟩ := H.out (by omega)
        obtain ⟨c0, c1, c2⟩ := (hall k hlt).below hbr (Nat.le_refl _)
        have HALL := Lib.hid hall
        clear hall
        by_cases hbig : left - n - q < (s0 k).size
        · go_wp2_with (go_at_call 32; refine (szHole_calls _ _ _ _ _ hsk (by omega) (by omega)).mono ?_; rintro e w1 ⟨rfl, hb⟩; rw [if_pos (by omega)]; have hbr2 : Below w.heap.size w w1 := hbr.trans (hb.mono hbr.size); clear hb)
          go_ret
          exact ⟨ret_int (by have h1 := hv.out; have h2 := hstep.out; have h3 := hmono2.out; rw [← HRES.out, if_pos (by omega)]), hbr2⟩
        · go_wp2_with (go_at_call 32; refine (szHole_calls _ _ _ _ _ hsk (by omega) (by omega)).mono ?_; rintro e w1 ⟨rfl, hb⟩; rw [if_neg (by omega)]; have hbr2 : Below w.heap.size w w1 := hbr.trans (hb.mono hbr.size); clear hb)
          go_roundw
          case rel => exact ⟨k + 1, q + (s0 k).size, by omega, by congr 1; omega, by go_num, by omega, Lib.hid (by have h1 := hv.out; have h2 := hstep.out; omega), hbr2⟩
          case measure => simp [intOf]; omega
      · obtain rfl : k = n := by omega
        have hfin : Hid (left - (k : Int) - q = R) := Lib.hid (by
          have h1 := hv.out
          rw [← HRES.out, if_neg (by omega)]; omega)
        go_wp2
        go_ret
        exact ⟨ret_int hfin.out, hbr⟩
theorem Hole_info : (Try.prog.info? 79).map (fun i => (i.zero, i.size, i.bytes)) = some (some (.agg #[.string ⟨#[]⟩, .int .i64 0, .int .i64 0]), 3, 32) := by kernel_rfl
def HoleArr (arr : Array Value) (m : Nat) (s0 : Nat → ByteArray) (a1 : Nat → Int) (a2 : Nat → Int) : Prop := ∀ i, i < m → arr[i * 3]? = some (.string (s0 i)) ∧ arr[i * 3 + 1]? = some (.int .i64 (a1 i)) ∧ arr[i * 3 + 2]? = some (.int .i64 (a2 i))
theorem HoleArr.next {arr : Array Value} {n k : Nat} {s0 : Nat → ByteArray} {a1 : Nat → Int} {a2 : Nat → Int} (h : HoleArr arr k s0 a1 a2) (hs : arr.size = n * 3) (hk : k < n) : HoleArr (((arr.setIfInBounds (k * 3) (.string (s0 k))).setIfInBounds (k * 3 + 1) (.int .i64 (a1 k))).setIfInBounds (k * 3 + 2) (.int .i64 (a2 k))) (k + 1) s0 a1 a2 := by
  intro i hi
  rcases Nat.lt_or_ge i k with h1 | h1
  · have h2 := h i h1
    refine ⟨?_, ?_, ?_⟩
    all_goals simp (disch := omega) only [Array.getElem?_setIfInBounds_ne]
    · exact h2.1
    · exact h2.2.1
    · exact h2.2.2
  · obtain rfl : i = k := by omega
    refine ⟨?_, ?_, ?_⟩
    · rw [Array.getElem?_setIfInBounds_ne (by omega), Array.getElem?_setIfInBounds_ne (by omega), Array.getElem?_setIfInBounds_self_of_lt (by (try simp); omega)]
    · rw [Array.getElem?_setIfInBounds_ne (by omega), Array.getElem?_setIfInBounds_self_of_lt (by (try simp); omega)]
    · rw [Array.getElem?_setIfInBounds_self_of_lt (by (try simp); omega)]
theorem HoleArr.row {w : World} {g T n : Nat} {arr : Array Value} {s0 : Nat → ByteArray} {a1 : Nat → Int} {a2 : Nat → Int} (h : HoleArr arr n s0 a1 a2) (hb : Blk w g T arr) : HoleRow w (some ⟨g, 0, none⟩) n s0 a1 a2 := fun _ =>
  ⟨g, 0, rfl, fun i hi => by
    have h2 := h i hi
    rw [Nat.zero_add]
    exact ⟨(hb.cell _).trans h2.1, (hb.cell _).trans h2.2.1, (hb.cell _).trans h2.2.2⟩⟩
set_option maxHeartbeats 1000000 in
theorem toHoleS_calls (A : Option Addr) (n c : Nat) (s0 : Nat → ByteArray) (a1 : Nat → Int) (a2 : Nat → Int) (w : World) (h : HoleRow w A n s0 a1 a2) (hn : n ≤ 1048576) :
    Calls Try.prog 9 #[.slice A n c] w fun e w' => e = .returned (.slice (some ⟨w.heap.size, 0, none⟩) n n) ∧ Below w.heap.size w w' ∧ w.heap.size < w'.heap.size ∧ HoleRow w' (some ⟨w.heap.size, 0, none⟩) n s0 a1 a2 := by
  obtain ⟨ie, hi, hz0, hz1, hz2⟩ := info_parts Hole_info
  have hmk := run_make_rowN (P := Try.prog) 31 79 ie _ Try.underlying31 hi hz0 .i64 .i64 n n (Nat.le_refl _) (by rw [hz2]; omega) (by omega) w
  rw [hz1] at hmk
  have hsz0 := madeCells_size (Value.cells (.agg #[.string ⟨#[]⟩, .int .i64 0, .int .i64 0])) (n * 3)
  generalize madeCells (Value.cells (.agg #[.string ⟨#[]⟩, .int .i64 0, .int .i64 0])) (n * 3) = arr0 at hmk hsz0
  have HSZ := Lib.hid hsz0
  have H := Lib.hid h
  clear h hsz0 hi hz0 hz1 hz2
  go_enter Try.func9, Try.ntmps9
  go_wp2
  clear hmk
  go_loopw [4] (fun i wr => ∃ (k : Nat) (arr : Array Value), k ≤ n ∧ i = .int .i64 k ∧ Hid (arr.size = n * 3) ∧ Hid (Blk wr w.heap.size 79 arr) ∧ Below w.heap.size w wr ∧ w.heap.size < wr.heap.size ∧ Hid (HoleArr arr k s0 a1 a2)) (fun i _ => n - (intOf i).toNat)
  case atStart => exact ⟨0, arr0, by omega, rfl, HSZ, Blk.new w _ _, (Below.refl _ _).alloc (Nat.le_refl _) _, by simp, fun i hi => by omega⟩
  case round =>
    obtain ⟨k, arr, hk, rfl, hsz, hblk, hbr, hgt, hall⟩ := hrel
    by_cases hlt : k < n
    · obtain ⟨b, o, rfl, hrow⟩ := H.out (by omega)
      obtain ⟨c0, c1, c2⟩ := (hrow k hlt).below hbr (Nat.le_refl _)
      have HR := Lib.hid hrow
      clear hrow
      obtain ⟨x0, hx0⟩ := arr_some (arr := arr) (j := k * 3) (by have := hsz.out; omega)
      obtain ⟨x1, hx1⟩ := arr_some (arr := arr) (j := k * 3 + 1) (by have := hsz.out; omega)
      obtain ⟨x2, hx2⟩ := arr_some (arr := arr) (j := k * 3 + 2) (by have := hsz.out; omega)
      have HX0 := Lib.hid hx0
      have HX1 := Lib.hid hx1
      have HX2 := Lib.hid hx2
      clear hx0 hx1 hx2
      go_wp2_with (go_at_call 40; refine (toHole_calls _ _ _ _).mono ?_; rintro e w1 ⟨rfl, hb⟩; have hblk1 : Blk w1 w.heap.size 79 arr := hblk.out.below hb hgt; have y0 := (Blk.cell hblk1 (k * 3)).trans HX0.out; have z0 := Blk.frozen hblk1 (k * 3); have y1 := (Blk.cell hblk1 (k * 3 + 1)).trans HX1.out; have z1 := Blk.frozen hblk1 (k * 3 + 1); have y2 := (Blk.cell hblk1 (k * 3 + 2)).trans HX2.out; have z2 := Blk.frozen hblk1 (k * 3 + 2); have HB1 := Lib.hid hblk1; clear hblk1; have hbr2 : Below w.heap.size w w1 := hbr.trans (hb.mono hbr.size); have hgt2 := Nat.lt_of_lt_of_le hgt hb.size; clear hb)
      go_roundw
      case rel => exact ⟨k + 1, _, by omega, by go_num, by have := hsz.out; simpa [Hid] using this, (((HB1.out.set_ (k * 3) _).set_ (k * 3 + 1) _).set_ (k * 3 + 2) _), (((hbr2.setCell (Nat.le_refl _) _).setCell (Nat.le_refl _) _).setCell (Nat.le_refl _) _), by simpa using hgt2, hall.out.next hsz.out hlt⟩
      case measure => simp [intOf]; omega
    · obtain rfl : k = n := by omega
      have hfin := Lib.hid (hall.out.row hblk.out)
      clear hall hblk hsz
      go_wp2
      go_ret
      exact ⟨rfl, hbr, hgt, hfin.out⟩
set_option maxHeartbeats 2000000 in
theorem eqHoleS_calls (A A2 : Option Addr) (n c c2 : Nat) (s0 : Nat → ByteArray) (a1 : Nat → Int) (a2 : Nat → Int) (w : World) (h : HoleRow w A n s0 a1 a2) (h2 : HoleRow w A2 n s0 a1 a2) (hn : n ≤ 1048576) :
    Calls Try.prog 13 #[.slice A n c, .slice A2 n c2] w fun e w' => e = .returned (.bool true) ∧ Below w.heap.size w w' := by
  have H := Lib.hid h
  have H2 := Lib.hid h2
  clear h h2
  go_enter Try.func13, Try.ntmps13
  go_wp2
  go_loopw [5] (fun i wr => ∃ k : Nat, k ≤ n ∧ i = .int .i64 k ∧ Below w.heap.size w wr) (fun i _ => n - (intOf i).toNat)
  case atStart => exact ⟨0, by omega, rfl, Below.refl _ _⟩
  case round =>
    obtain ⟨k, hk, rfl, hbr⟩ := hrel
    by_cases hlt : k < n
    · obtain ⟨b, o, rfl, hrow⟩ := H.out (by omega)
      obtain ⟨b2, o2, rfl, hrow2⟩ := H2.out (by omega)
      have hbw := (hrow k hlt).lt
      have hbw2 := (hrow2 k hlt).lt
      obtain ⟨c0, c1, c2⟩ := (hrow k hlt).below hbr (Nat.le_refl _)
      obtain ⟨g0, g1, g2⟩ := (hrow2 k hlt).below hbr (Nat.le_refl _)
      have HR := Lib.hid hrow
      have HR2 := Lib.hid hrow2
      clear hrow hrow2
      go_wp2_with fail
      go_region_held3 (fun w' => Below w.heap.size w w' ∧ w'.cell? ⟨b, o + k * 3, none⟩ = some (.string (s0 k)) ∧ w'.cell? ⟨b, o + k * 3 + 1, none⟩ = some (.int .i64 (a1 k)) ∧ w'.cell? ⟨b, o + k * 3 + 2, none⟩ = some (.int .i64 (a2 k)) ∧ w'.cell? ⟨b2, o2 + k * 3, none⟩ = some (.string (s0 k)) ∧ w'.cell? ⟨b2, o2 + k * 3 + 1, none⟩ = some (.int .i64 (a1 k)) ∧ w'.cell? ⟨b2, o2 + k * 3 + 2, none⟩ = some (.int .i64 (a2 k)))
        (first
          | exact ⟨hbr.drew, c0, c1, c2, g0, g1, g2⟩
          | assumption
          | (obtain ⟨q0, d0, d1, d2, e0, e1, e2⟩ := ‹Below _ _ _ ∧ _›; exact ⟨q0.trans (hb.mono q0.size), (hb.cell (p := ⟨_, _, none⟩) (Nat.lt_of_lt_of_le hbw q0.size)).trans d0, (hb.cell (p := ⟨_, _, none⟩) (Nat.lt_of_lt_of_le hbw q0.size)).trans d1, (hb.cell (p := ⟨_, _, none⟩) (Nat.lt_of_lt_of_le hbw q0.size)).trans d2, (hb.cell (p := ⟨_, _, none⟩) (Nat.lt_of_lt_of_le hbw2 q0.size)).trans e0, (hb.cell (p := ⟨_, _, none⟩) (Nat.lt_of_lt_of_le hbw2 q0.size)).trans e1, (hb.cell (p := ⟨_, _, none⟩) (Nat.lt_of_lt_of_le hbw2 q0.size)).trans e2⟩))
        (first
          | (go_at_call 49; refine (eqHole_calls _ _ _ _).mono ?_; rintro e w1 ⟨rfl, hb⟩))
      all_goals
        have hbr2 := (‹Below _ _ _ ∧ _›).1
        go_wp2
        go_roundw
        case rel => exact ⟨k + 1, by omega, by go_num, hbr2⟩
        case measure => simp [intOf]; omega
    · obtain rfl : k = n := by omega
      go_wp2
      go_ret
      exact ⟨rfl, hbr⟩
open Go.ChangeShapes Go.WideShapes Go.Deep in
theorem openHoleS {H : Type} {enc : TypeId × Value → H} {w : World} {base : Nat} {spare : Nat → Bool} {held : Bool} {fuel : Nat} {A : Option Addr} {n c : Nat} {x : DataW H × List MemPlace} (h : DataW.trod enc Try.prog w base spare held fuel 23 [.slice A n c] = some x) :
    ∃ (s0 : Nat → ByteArray) (a1 : Nat → Int) (a2 : Nat → Int), HoleRow w A n s0 a1 a2 ∧ n ≤ maxLen ∧ (∀ i, i < n → (s0 i).size ≤ maxLen) ∧ (∀ i, i < n → (Lit.int .i64 (a1 i)).wf = true) ∧ (∀ i, i < n → (Lit.int .i64 (a2 i)).wf = true) := by
  rcases open_slice Try.underlying23 h with ⟨hcs, hx⟩ | ⟨a, len, cap, m, fu, D, Pl, hcs, hb, hl, hm, hmm, hx, hi⟩
  · simp only [List.cons.injEq, Value.slice.injEq, and_true] at hcs
    obtain ⟨rfl, rfl, rfl⟩ := hcs
    exact ⟨fun _ => ⟨#[]⟩, fun _ => 0, fun _ => 0, fun h0 => by omega, by unfold maxLen; omega, fun i h0 => by omega, fun i h0 => by omega, fun i h0 => by omega⟩
  · simp only [List.cons.injEq, Value.slice.injEq, and_true] at hcs
    obtain ⟨rfl, rfl, rfl⟩ := hcs
    have hlm : n ≤ m := by rw [hmm]; split <;> omega
    have hC : Try.prog.cellsOf 64 = 3 := by kernel_rfl
    rw [hC] at hi
    have hall : ∀ i, ∃ t : ByteArray × Int × Int, i < n → HoleAt w a.block (a.off + i * 3) t.1 t.2.1 t.2.2 ∧ t.1.size ≤ maxLen ∧ (Lit.int .i64 t.2.1).wf = true ∧ (Lit.int .i64 t.2.2).wf = true := by
      intro i
      by_cases hin : i < n
      · obtain ⟨cs, hc, ht⟩ := hi i (by omega)
        obtain ⟨-, hcl, hat⟩ := Go.World.cells?_some hc
        obtain ⟨hln, m2, hg⟩ := fields_of Try.underlying64 (by kernel_rfl) (by kernel_rfl) ht
        obtain ⟨v0, v1, v2, rfl⟩ := list3 hln
        obtain ⟨y0, t0⟩ := hg 0 _ rfl v0 rfl
        have k0 := hat 0 (by omega)
        obtain ⟨x0, e0, _, q0⟩ := DataW.trod_string Try.underlying9 t0
        obtain rfl := one_cell e0
        obtain ⟨y1, t1⟩ := hg 1 _ rfl v1 rfl
        have k1 := hat 1 (by omega)
        obtain ⟨x1, e1, _, q1⟩ := DataW.trod_int Try.underlying2 t1
        obtain rfl := one_cell e1
        obtain ⟨y2, t2⟩ := hg 2 _ rfl v2 rfl
        have k2 := hat 2 (by omega)
        obtain ⟨x2, e2, _, q2⟩ := DataW.trod_int Try.underlying2 t2
        obtain rfl := one_cell e2
        exact ⟨(x0, x1, x2), fun _ => ⟨⟨cell_add2 k0 (by omega), cell_add2 k1 (by omega), cell_add2 k2 (by omega)⟩, q0, q1, q2⟩⟩
      · exact ⟨(⟨#[]⟩, 0, 0), fun h0 => absurd h0 hin⟩
    obtain ⟨F, hF⟩ := Classical.axiomOfChoice hall
    refine ⟨fun i => (F i).1, fun i => (F i).2.1, fun i => (F i).2.2, fun hn => ?_, by omega, fun i h0 => (hF i h0).2.1, fun i h0 => (hF i h0).2.2.1, fun i h0 => (hF i h0).2.2.2⟩
    refine ⟨a.block, a.off, ?_, fun i h0 => (hF i h0).1⟩
    obtain ⟨b, o, spot⟩ := a
    obtain ⟨cs, hc, ht⟩ := hi 0 (by omega)
    obtain ⟨-, hcl, hat⟩ := Go.World.cells?_some hc
    have k0 := hat 0 (by omega)
    rw [List.getElem?_eq_getElem (show 0 < cs.length by omega)] at k0
    have hspot : spot = none := by simpa [Addr.add] using Go.World.cell?_spot k0
    rw [hspot]
set_option maxHeartbeats 4000000 in
theorem impl_ValidHoles_calls (A : Option Addr) (n c : Nat) (s0 : Nat → ByteArray) (a1 : Nat → Int) (a2 : Nat → Int) (w : World) (h : HoleRow w A n s0 a1 a2) (hs : ∀ i, i < n → (s0 i).size ≤ maxLen) (hn : n ≤ maxLen) :
    Calls Try.prog 44 #[.slice A n c] w fun e w' => e = .returned (.bool (allB (goodAt (fun i => holeB (s0 i) (a1 i) (a2 i)) s0) n && decide ((n : Int) ≤ 8))) ∧ Below w.heap.size w w' := by
  unfold maxLen at hn
  generalize hres : (allB (goodAt (fun i => holeB (s0 i) (a1 i) (a2 i)) s0) n && decide ((n : Int) ≤ 8)) = R
  have HRES := Lib.hid hres
  have H := Lib.hid h
  have HS := Lib.hid hs
  clear h hs hres
  go_enter Try.func44, Try.ntmps44
  go_wp2
  go_loopw [7] (fun i wr => ∃ k : Nat, k ≤ n ∧ i = .int .i64 k ∧ Hid (allB (goodAt (fun i => holeB (s0 i) (a1 i) (a2 i)) s0) k = true) ∧ Below w.heap.size w wr) (fun i _ => n - (intOf i).toNat)
  case atStart => exact ⟨0, by omega, rfl, rfl, Below.refl _ _⟩
  case round =>
    obtain ⟨k, hk, rfl, hgood, hbr⟩ := hrel
    by_cases hlt : k < n
    · have hsk := HS.out k hlt
      obtain ⟨b, o, rfl, hrow⟩ := H.out (by omega)
      have hbw := (hrow k hlt).lt
      obtain ⟨c0, c1, c2⟩ := (hrow k hlt).below hbr (Nat.le_refl _)
      have HR := Lib.hid hrow
      clear hrow
      cases q1 : holeB (s0 k) (a1 k) (a2 k)
      · have HK : Hid (goodAt (fun i => holeB (s0 i) (a1 i) (a2 i)) s0 k = false) := Lib.hid (by simp [goodAt, q1])
        go_wp2_with fail
        refine wp_gen (fun W0 hW0 => ?_)
        have s0_ : Below w.heap.size w W0 := by rw [hW0]; exact hbr.alloc hbr.size _
        have s1_ : W0.cell? ⟨wr.heap.size, 0, none⟩ = some (.string (s0 (k))) := by simp [hW0]
        have s2_ : W0.cell? ⟨wr.heap.size, 1, none⟩ = some (.int .i64 (a1 (k))) := by simp [hW0]
        have s3_ : W0.cell? ⟨wr.heap.size, 2, none⟩ = some (.int .i64 (a2 (k))) := by simp [hW0]
        have s4_ : wr.heap.size < W0.heap.size := by simp [hW0]
        clear hW0
        refine wp_region_held_drew (S := fun w' => Below w.heap.size w w' ∧ w'.cell? ⟨wr.heap.size, 0, none⟩ = some (.string (s0 (k))) ∧ w'.cell? ⟨wr.heap.size, 1, none⟩ = some (.int .i64 (a1 (k))) ∧ w'.cell? ⟨wr.heap.size, 2, none⟩ = some (.int .i64 (a2 (k))) ∧ wr.heap.size < w'.heap.size) (by kernel_rfl) ?_ (fun hHeld => ?_)
        · exact ⟨s0_.drew, s1_, s2_, s3_, s4_⟩
        refine take_yes (i := 0) (d := 12) (v := ?_) _ rfl rfl (by kernel_rfl) (by kernel_rfl) (by kernel_rfl) (fun _ _ _ _ h => h) (by rfl) ?_ (by assumption) ?_
        rotate_left 1
        · ((intro w hSw; (try dsimp only at hSw); go_simp) <;> (try with_reducible rfl))
        try simp only [Act.put, List.setIfInBounds_toArray, List.set_cons_zero, List.set_cons_succ]
        refine wpAnyH_ready (rs := [1]) (by kernel_rfl) (by simp) ?_
        refine AllReadyH.cons rfl (fun K hK => ?_) AllReadyH.nil
        go_simp
        go_at_call 86
        refine (validHole_calls _ _ _ _ hsk).mono ?_
        simp only [q1]
        rintro e w1 ⟨rfl, hb⟩
        refine hK.out _ _ ?_ (fun hHeld2 => ?_)
        · obtain ⟨x0_, x1_, x2_, x3_, x4_⟩ := hHeld
          exact ⟨x0_.trans (hb.mono x0_.size), (hb.cell (p := ⟨_, _, none⟩) x4_).trans x1_, (hb.cell (p := ⟨_, _, none⟩) x4_).trans x2_, (hb.cell (p := ⟨_, _, none⟩) x4_).trans x3_, Nat.lt_of_lt_of_le x4_ hb.size⟩
        clear hK K hHeld
        try simp only [Act.put, List.setIfInBounds_toArray, List.set_cons_zero, List.set_cons_succ]
        refine take_yes (i := 2) (d := 14) (v := ?_) _ rfl rfl (by kernel_rfl) (by kernel_rfl) (by kernel_rfl) (fun _ _ _ _ h => h) (by rfl) ?_ (by assumption) ?_
        rotate_left 1
        · ((intro w hSw; (try dsimp only at hSw); go_simp) <;> (try with_reducible rfl))
        try simp only [Act.put, List.setIfInBounds_toArray, List.set_cons_zero, List.set_cons_succ]
        refine take_yes (i := 3) (d := 15) (v := ?_) _ rfl rfl (by kernel_rfl) (by kernel_rfl) (by kernel_rfl) (fun _ _ _ _ h => h) (by rfl) ?_ (by assumption) ?_
        rotate_left 1
        · ((intro w hSw; (try dsimp only at hSw); go_simp) <;> (try with_reducible rfl))
        try simp only [Act.put, List.setIfInBounds_toArray, List.set_cons_zero, List.set_cons_succ]
        refine take_no (i := 4) (d := 16) _ rfl rfl (by kernel_rfl) (by kernel_rfl) (by kernel_rfl) (fun _ _ _ _ h => h) (by rfl) (by assumption) ?_
        try simp only [Act.put, List.setIfInBounds_toArray, List.set_cons_zero, List.set_cons_succ]
        refine take_no (i := 5) (d := 17) _ rfl rfl (by kernel_rfl) (by kernel_rfl) (by kernel_rfl) (fun _ _ _ _ h => h) (by rfl) (by assumption) ?_
        try simp only [Act.put, List.setIfInBounds_toArray, List.set_cons_zero, List.set_cons_succ]
        refine take_no (i := 6) (d := 18) _ rfl rfl (by kernel_rfl) (by kernel_rfl) (by kernel_rfl) (fun _ _ _ _ h => h) (by rfl) (by assumption) ?_
        try simp only [Act.put, List.setIfInBounds_toArray, List.set_cons_zero, List.set_cons_succ]
        refine take_no (i := 7) (d := 19) _ rfl rfl (by kernel_rfl) (by kernel_rfl) (by kernel_rfl) (fun _ _ _ _ h => h) (by rfl) (by assumption) ?_
        try simp only [Act.put, List.setIfInBounds_toArray, List.set_cons_zero, List.set_cons_succ]
        refine take_no (i := 8) (d := 20) _ rfl rfl (by kernel_rfl) (by kernel_rfl) (by kernel_rfl) (fun _ _ _ _ h => h) (by rfl) (by assumption) ?_
        try simp only [Act.put, List.setIfInBounds_toArray, List.set_cons_zero, List.set_cons_succ]
        refine take_no (i := 9) (d := 21) _ rfl rfl (by kernel_rfl) (by kernel_rfl) (by kernel_rfl) (fun _ _ _ _ h => h) (by rfl) (by assumption) ?_
        try simp only [Act.put, List.setIfInBounds_toArray, List.set_cons_zero, List.set_cons_succ]
        refine take_no (i := 10) (d := 22) _ rfl rfl (by kernel_rfl) (by kernel_rfl) (by kernel_rfl) (fun _ _ _ _ h => h) (by rfl) (by assumption) ?_
        try simp only [Act.put, List.setIfInBounds_toArray, List.set_cons_zero, List.set_cons_succ]
        refine take_no (i := 11) (d := 23) _ rfl rfl (by kernel_rfl) (by kernel_rfl) (by kernel_rfl) (fun _ _ _ _ h => h) (by rfl) (by assumption) ?_
        try simp only [Act.put, List.setIfInBounds_toArray, List.set_cons_zero, List.set_cons_succ]
        refine take_no (i := 12) (d := 24) _ rfl rfl (by kernel_rfl) (by kernel_rfl) (by kernel_rfl) (fun _ _ _ _ h => h) (by rfl) (by assumption) ?_
        try simp only [Act.put, List.setIfInBounds_toArray, List.set_cons_zero, List.set_cons_succ]
        refine take_no (i := 13) (d := 25) _ rfl rfl (by kernel_rfl) (by kernel_rfl) (by kernel_rfl) (fun _ _ _ _ h => h) (by rfl) (by assumption) ?_
        try simp only [Act.put, List.setIfInBounds_toArray, List.set_cons_zero, List.set_cons_succ]
        refine take_no (i := 14) (d := 26) _ rfl rfl (by kernel_rfl) (by kernel_rfl) (by kernel_rfl) (fun _ _ _ _ h => h) (by rfl) (by assumption) ?_
        try simp only [Act.put, List.setIfInBounds_toArray, List.set_cons_zero, List.set_cons_succ]
        refine take_no (i := 15) (d := 27) _ rfl rfl (by kernel_rfl) (by kernel_rfl) (by kernel_rfl) (fun _ _ _ _ h => h) (by rfl) (by assumption) ?_
        try simp only [Act.put, List.setIfInBounds_toArray, List.set_cons_zero, List.set_cons_succ]
        refine take_no (i := 16) (d := 28) _ rfl rfl (by kernel_rfl) (by kernel_rfl) (by kernel_rfl) (fun _ _ _ _ h => h) (by rfl) (by assumption) ?_
        try simp only [Act.put, List.setIfInBounds_toArray, List.set_cons_zero, List.set_cons_succ]
        refine take_yes (i := 17) (d := 29) (v := ?_) _ rfl rfl (by kernel_rfl) (by kernel_rfl) (by kernel_rfl) (fun _ _ _ _ h => h) (by rfl) ?_ (by assumption) ?_
        rotate_left 1
        · ((intro w hSw; (try dsimp only at hSw); go_simp) <;> (try with_reducible rfl))
        try simp only [Act.put, List.setIfInBounds_toArray, List.set_cons_zero, List.set_cons_succ]
        refine wpAnyH_done (by kernel_rfl) ?_ _
        all_goals
          have hbr2 := (‹Below _ _ _ ∧ _›).1
          go_wp2
          go_ret
          exact ⟨ret_bool (by rw [← HRES.out, allB_no hlt HK.out]; rfl), hbr2⟩
      · rcases Nat.eq_zero_or_pos k with hz | hz
        · have hd1 : decide ((0 : Int) < (k : Int)) = false := decide_eq_false (by omega)
          have hd2 : decide (0 < k) = false := decide_eq_false (by omega)
          have HK : Hid (goodAt (fun i => holeB (s0 i) (a1 i) (a2 i)) s0 k = true) := Lib.hid (by subst hz; simp [goodAt, q1])
          clear hz
          go_wp2_with fail
          refine wp_gen (fun W0 hW0 => ?_)
          have s0_ : Below w.heap.size w W0 := by rw [hW0]; exact hbr.alloc hbr.size _
          have s1_ : W0.cell? ⟨wr.heap.size, 0, none⟩ = some (.string (s0 (k))) := by simp [hW0]
          have s2_ : W0.cell? ⟨wr.heap.size, 1, none⟩ = some (.int .i64 (a1 (k))) := by simp [hW0]
          have s3_ : W0.cell? ⟨wr.heap.size, 2, none⟩ = some (.int .i64 (a2 (k))) := by simp [hW0]
          have s4_ : wr.heap.size < W0.heap.size := by simp [hW0]
          clear hW0
          refine wp_region_held_drew (S := fun w' => Below w.heap.size w w' ∧ w'.cell? ⟨wr.heap.size, 0, none⟩ = some (.string (s0 (k))) ∧ w'.cell? ⟨wr.heap.size, 1, none⟩ = some (.int .i64 (a1 (k))) ∧ w'.cell? ⟨wr.heap.size, 2, none⟩ = some (.int .i64 (a2 (k))) ∧ wr.heap.size < w'.heap.size) (by kernel_rfl) ?_ (fun hHeld => ?_)
          · exact ⟨s0_.drew, s1_, s2_, s3_, s4_⟩
          refine take_yes (i := 0) (d := 12) (v := ?_) _ rfl rfl (by kernel_rfl) (by kernel_rfl) (by kernel_rfl) (fun _ _ _ _ h => h) (by rfl) ?_ (by assumption) ?_
          rotate_left 1
          · ((intro w hSw; (try dsimp only at hSw); go_simp) <;> (try with_reducible rfl))
          try simp only [Act.put, List.setIfInBounds_toArray, List.set_cons_zero, List.set_cons_succ]
          refine wpAnyH_ready (rs := [1]) (by kernel_rfl) (by simp) ?_
          refine AllReadyH.cons rfl (fun K hK => ?_) AllReadyH.nil
          go_simp
          go_at_call 86
          refine (validHole_calls _ _ _ _ hsk).mono ?_
          simp only [q1]
          rintro e w1 ⟨rfl, hb⟩
          refine hK.out _ _ ?_ (fun hHeld2 => ?_)
          · obtain ⟨x0_, x1_, x2_, x3_, x4_⟩ := hHeld
            exact ⟨x0_.trans (hb.mono x0_.size), (hb.cell (p := ⟨_, _, none⟩) x4_).trans x1_, (hb.cell (p := ⟨_, _, none⟩) x4_).trans x2_, (hb.cell (p := ⟨_, _, none⟩) x4_).trans x3_, Nat.lt_of_lt_of_le x4_ hb.size⟩
          clear hK K hHeld
          try simp only [Act.put, List.setIfInBounds_toArray, List.set_cons_zero, List.set_cons_succ]
          refine take_yes (i := 2) (d := 14) (v := ?_) _ rfl rfl (by kernel_rfl) (by kernel_rfl) (by kernel_rfl) (fun _ _ _ _ h => h) (by rfl) ?_ (by assumption) ?_
          rotate_left 1
          · ((intro w hSw; (try dsimp only at hSw); go_simp) <;> (try with_reducible rfl))
          try simp only [Act.put, List.setIfInBounds_toArray, List.set_cons_zero, List.set_cons_succ]
          refine take_yes (i := 3) (d := 15) (v := ?_) _ rfl rfl (by kernel_rfl) (by kernel_rfl) (by kernel_rfl) (fun _ _ _ _ h => h) (by rfl) ?_ (by assumption) ?_
          rotate_left 1
          · ((intro w hSw; (try dsimp only at hSw); go_simp) <;> (try with_reducible rfl))
          try simp only [Act.put, List.setIfInBounds_toArray, List.set_cons_zero, List.set_cons_succ]
          refine take_yes (i := 4) (d := 16) (v := ?_) _ rfl rfl (by kernel_rfl) (by kernel_rfl) (by kernel_rfl) (fun _ _ _ _ h => h) (by rfl) ?_ (by assumption) ?_
          rotate_left 1
          · ((intro w hSw; (try dsimp only at hSw); go_simp) <;> (try with_reducible rfl))
          try simp only [Act.put, List.setIfInBounds_toArray, List.set_cons_zero, List.set_cons_succ]
          refine take_yes (i := 5) (d := 17) (v := ?_) _ rfl rfl (by kernel_rfl) (by kernel_rfl) (by kernel_rfl) (fun _ _ _ _ h => h) (by rfl) ?_ (by assumption) ?_
          rotate_left 1
          · ((intro w hSw; (try dsimp only at hSw); go_simp) <;> (try with_reducible rfl))
          try simp only [Act.put, List.setIfInBounds_toArray, List.set_cons_zero, List.set_cons_succ]
          refine take_yes (i := 6) (d := 18) (v := ?_) _ rfl rfl (by kernel_rfl) (by kernel_rfl) (by kernel_rfl) (fun _ _ _ _ h => h) (by rfl) ?_ (by assumption) ?_
          rotate_left 1
          · ((intro w hSw; (try dsimp only at hSw); go_simp) <;> (try with_reducible rfl))
          try simp only [Act.put, List.setIfInBounds_toArray, List.set_cons_zero, List.set_cons_succ]
          refine take_no (i := 7) (d := 19) _ rfl rfl (by kernel_rfl) (by kernel_rfl) (by kernel_rfl) (fun _ _ _ _ h => h) (by rfl) (by assumption) ?_
          try simp only [Act.put, List.setIfInBounds_toArray, List.set_cons_zero, List.set_cons_succ]
          refine take_no (i := 8) (d := 20) _ rfl rfl (by kernel_rfl) (by kernel_rfl) (by kernel_rfl) (fun _ _ _ _ h => h) (by rfl) (by assumption) ?_
          try simp only [Act.put, List.setIfInBounds_toArray, List.set_cons_zero, List.set_cons_succ]
          refine take_no (i := 9) (d := 21) _ rfl rfl (by kernel_rfl) (by kernel_rfl) (by kernel_rfl) (fun _ _ _ _ h => h) (by rfl) (by assumption) ?_
          try simp only [Act.put, List.setIfInBounds_toArray, List.set_cons_zero, List.set_cons_succ]
          refine take_no (i := 10) (d := 22) _ rfl rfl (by kernel_rfl) (by kernel_rfl) (by kernel_rfl) (fun _ _ _ _ h => h) (by rfl) (by assumption) ?_
          try simp only [Act.put, List.setIfInBounds_toArray, List.set_cons_zero, List.set_cons_succ]
          refine take_no (i := 11) (d := 23) _ rfl rfl (by kernel_rfl) (by kernel_rfl) (by kernel_rfl) (fun _ _ _ _ h => h) (by rfl) (by assumption) ?_
          try simp only [Act.put, List.setIfInBounds_toArray, List.set_cons_zero, List.set_cons_succ]
          refine take_no (i := 12) (d := 24) _ rfl rfl (by kernel_rfl) (by kernel_rfl) (by kernel_rfl) (fun _ _ _ _ h => h) (by rfl) (by assumption) ?_
          try simp only [Act.put, List.setIfInBounds_toArray, List.set_cons_zero, List.set_cons_succ]
          refine take_no (i := 13) (d := 25) _ rfl rfl (by kernel_rfl) (by kernel_rfl) (by kernel_rfl) (fun _ _ _ _ h => h) (by rfl) (by assumption) ?_
          try simp only [Act.put, List.setIfInBounds_toArray, List.set_cons_zero, List.set_cons_succ]
          refine take_no (i := 14) (d := 26) _ rfl rfl (by kernel_rfl) (by kernel_rfl) (by kernel_rfl) (fun _ _ _ _ h => h) (by rfl) (by assumption) ?_
          try simp only [Act.put, List.setIfInBounds_toArray, List.set_cons_zero, List.set_cons_succ]
          refine take_no (i := 15) (d := 27) _ rfl rfl (by kernel_rfl) (by kernel_rfl) (by kernel_rfl) (fun _ _ _ _ h => h) (by rfl) (by assumption) ?_
          try simp only [Act.put, List.setIfInBounds_toArray, List.set_cons_zero, List.set_cons_succ]
          refine take_yes (i := 16) (d := 28) (v := ?_) _ rfl rfl (by kernel_rfl) (by kernel_rfl) (by kernel_rfl) (fun _ _ _ _ h => h) (by rfl) ?_ (by assumption) ?_
          rotate_left 1
          · ((intro w hSw; (try dsimp only at hSw); go_simp) <;> (try with_reducible rfl))
          try simp only [Act.put, List.setIfInBounds_toArray, List.set_cons_zero, List.set_cons_succ]
          refine take_yes (i := 17) (d := 29) (v := ?_) _ rfl rfl (by kernel_rfl) (by kernel_rfl) (by kernel_rfl) (fun _ _ _ _ h => h) (by rfl) ?_ (by assumption) ?_
          rotate_left 1
          · ((intro w hSw; (try dsimp only at hSw); go_simp) <;> (try with_reducible rfl))
          try simp only [Act.put, List.setIfInBounds_toArray, List.set_cons_zero, List.set_cons_succ]
          refine wpAnyH_done (by kernel_rfl) ?_ _
          all_goals
            have hbr2 := (‹Below _ _ _ ∧ _›).1
            go_wp2
            go_roundw
            case rel => exact ⟨k + 1, by omega, by go_num, Lib.hid (by rw [show allB (goodAt (fun i => holeB (s0 i) (a1 i) (a2 i)) s0) (k + 1) = (allB (goodAt (fun i => holeB (s0 i) (a1 i) (a2 i)) s0) (k) && goodAt (fun i => holeB (s0 i) (a1 i) (a2 i)) s0 (k)) from rfl, hgood.out, HK.out]; rfl), hbr2⟩
            case measure => simp [intOf]; omega
        · obtain ⟨j, hj⟩ : ∃ j, k = j + 1 := ⟨k - 1, by omega⟩
          have pr := (HR.out j (by omega)).below hbr (Nat.le_refl _) |>.1
          have hd1 : decide ((0 : Int) < (k : Int)) = true := decide_eq_true (by omega)
          have hd2 : decide (0 < k) = true := decide_eq_true (by omega)
          have hw : IntKind.i64.wrap ((k : Int) - 1) = (j : Int) := (IntWalk.i64_in _ ⟨by omega, by omega⟩).trans (by omega)
          have hjn : j < n := by omega
          have hg : goodAt (fun i => holeB (s0 i) (a1 i) (a2 i)) s0 k = Op.bytesLess (s0 j).toList (s0 k).toList := by subst hj; simp [goodAt, q1]
          clear hj hz
          have hle := less_total (s0 k).toList (s0 j).toList
          cases q2 : (Op.bytesLess (s0 k).toList (s0 j).toList || (s0 k).toList == (s0 j).toList)
          · have HK : Hid (goodAt (fun i => holeB (s0 i) (a1 i) (a2 i)) s0 k = true) := Lib.hid (by rw [q2] at hle; rw [hg]; simpa using hle)
            clear hg hle
            go_wp2_with fail
            refine wp_gen (fun W0 hW0 => ?_)
            have s0_ : Below w.heap.size w W0 := by rw [hW0]; exact hbr.alloc hbr.size _
            have s1_ : W0.cell? ⟨wr.heap.size, 0, none⟩ = some (.string (s0 (k))) := by simp [hW0]
            have s2_ : W0.cell? ⟨wr.heap.size, 1, none⟩ = some (.int .i64 (a1 (k))) := by simp [hW0]
            have s3_ : W0.cell? ⟨wr.heap.size, 2, none⟩ = some (.int .i64 (a2 (k))) := by simp [hW0]
            have s4_ : W0.cell? ⟨b, o + j * 3, none⟩ = some (.string (s0 j)) := by rw [hW0]; exact (Go.World.cell?_alloc_some _ _ _ (by rw [pr]; rfl)).trans pr
            have s5_ : wr.heap.size < W0.heap.size := by simp [hW0]
            clear hW0
            go_region_held3 (fun w' => Below w.heap.size w w' ∧ w'.cell? ⟨wr.heap.size, 0, none⟩ = some (.string (s0 (k))) ∧ w'.cell? ⟨wr.heap.size, 1, none⟩ = some (.int .i64 (a1 (k))) ∧ w'.cell? ⟨wr.heap.size, 2, none⟩ = some (.int .i64 (a2 (k))) ∧ w'.cell? ⟨b, o + j * 3, none⟩ = some (.string (s0 j)) ∧ wr.heap.size < w'.heap.size)
              (first
                | exact ⟨s0_.drew, s1_, s2_, s3_, s4_, s5_⟩
                | assumption
                | (obtain ⟨x0_, x1_, x2_, x3_, x4_, x5_⟩ := ‹Below _ _ _ ∧ _›; exact ⟨x0_.trans (hb.mono x0_.size), (hb.cell (p := ⟨_, _, none⟩) x5_).trans x1_, (hb.cell (p := ⟨_, _, none⟩) x5_).trans x2_, (hb.cell (p := ⟨_, _, none⟩) x5_).trans x3_, (hb.cell (p := ⟨_, _, none⟩) (Nat.lt_of_lt_of_le hbw x0_.size)).trans x4_, Nat.lt_of_lt_of_le x5_ hb.size⟩)
                | go_keep)
              (first | (go_at_call 86; refine (validHole_calls _ _ _ _ hsk).mono ?_; simp only [q1]; rintro e w1 ⟨rfl, hb⟩))
            all_goals
              have hbr2 := (‹Below _ _ _ ∧ _›).1
              go_wp2
              go_roundw
              case rel => exact ⟨k + 1, by omega, by go_num, Lib.hid (by rw [show allB (goodAt (fun i => holeB (s0 i) (a1 i) (a2 i)) s0) (k + 1) = (allB (goodAt (fun i => holeB (s0 i) (a1 i) (a2 i)) s0) (k) && goodAt (fun i => holeB (s0 i) (a1 i) (a2 i)) s0 (k)) from rfl, hgood.out, HK.out]; rfl), hbr2⟩
              case measure => simp [intOf]; omega
          · have HK : Hid (goodAt (fun i => holeB (s0 i) (a1 i) (a2 i)) s0 k = false) := Lib.hid (by rw [q2] at hle; rw [hg]; simpa using hle)
            clear hg hle
            go_wp2_with fail
            refine wp_gen (fun W0 hW0 => ?_)
            have s0_ : Below w.heap.size w W0 := by rw [hW0]; exact hbr.alloc hbr.size _
            have s1_ : W0.cell? ⟨wr.heap.size, 0, none⟩ = some (.string (s0 (k))) := by simp [hW0]
            have s2_ : W0.cell? ⟨wr.heap.size, 1, none⟩ = some (.int .i64 (a1 (k))) := by simp [hW0]
            have s3_ : W0.cell? ⟨wr.heap.size, 2, none⟩ = some (.int .i64 (a2 (k))) := by simp [hW0]
            have s4_ : W0.cell? ⟨b, o + j * 3, none⟩ = some (.string (s0 j)) := by rw [hW0]; exact (Go.World.cell?_alloc_some _ _ _ (by rw [pr]; rfl)).trans pr
            have s5_ : wr.heap.size < W0.heap.size := by simp [hW0]
            clear hW0
            go_region_held3 (fun w' => Below w.heap.size w w' ∧ w'.cell? ⟨wr.heap.size, 0, none⟩ = some (.string (s0 (k))) ∧ w'.cell? ⟨wr.heap.size, 1, none⟩ = some (.int .i64 (a1 (k))) ∧ w'.cell? ⟨wr.heap.size, 2, none⟩ = some (.int .i64 (a2 (k))) ∧ w'.cell? ⟨b, o + j * 3, none⟩ = some (.string (s0 j)) ∧ wr.heap.size < w'.heap.size)
              (first
                | exact ⟨s0_.drew, s1_, s2_, s3_, s4_, s5_⟩
                | assumption
                | (obtain ⟨x0_, x1_, x2_, x3_, x4_, x5_⟩ := ‹Below _ _ _ ∧ _›; exact ⟨x0_.trans (hb.mono x0_.size), (hb.cell (p := ⟨_, _, none⟩) x5_).trans x1_, (hb.cell (p := ⟨_, _, none⟩) x5_).trans x2_, (hb.cell (p := ⟨_, _, none⟩) x5_).trans x3_, (hb.cell (p := ⟨_, _, none⟩) (Nat.lt_of_lt_of_le hbw x0_.size)).trans x4_, Nat.lt_of_lt_of_le x5_ hb.size⟩)
                | go_keep)
              (first | (go_at_call 86; refine (validHole_calls _ _ _ _ hsk).mono ?_; simp only [q1]; rintro e w1 ⟨rfl, hb⟩))
            all_goals
              have hbr2 := (‹Below _ _ _ ∧ _›).1
              go_wp2
              go_ret
              exact ⟨ret_bool (by rw [← HRES.out, allB_no hlt HK.out]; rfl), hbr2⟩
    · obtain rfl : k = n := by omega
      by_cases hm : (k : Int) ≤ 8
      ·
        go_wp2
        go_ret
        exact ⟨ret_bool (by rw [← HRES.out, hgood.out]; simp [hm] <;> omega), hbr⟩
      ·
        go_wp2
        go_ret
        exact ⟨ret_bool (by rw [← HRES.out, hgood.out]; simp [hm] <;> omega), hbr⟩
set_option maxHeartbeats 4000000 in
theorem spec_l15Holes_calls (A : Option Addr) (n c : Nat) (s0 : Nat → ByteArray) (a1 : Nat → Int) (a2 : Nat → Int) (w : World) (h : HoleRow w A n s0 a1 a2) (hs : ∀ i, i < n → (s0 i).size ≤ maxLen) (hn : n ≤ maxLen) :
    Calls Try.prog 34 #[.slice A n c] w fun e w' => e = .returned (.bool (allB (goodAt (fun i => holeB (s0 i) (a1 i) (a2 i)) s0) n && decide ((n : Int) ≤ 8))) ∧ Below w.heap.size w w' := by
  unfold maxLen at hn
  generalize hres : (allB (goodAt (fun i => holeB (s0 i) (a1 i) (a2 i)) s0) n && decide ((n : Int) ≤ 8)) = R
  have HRES := Lib.hid hres
  have H := Lib.hid h
  have HS := Lib.hid hs
  clear h hs hres
  go_enter Try.func34, Try.ntmps34
  go_wp2
  go_loopw [3] (fun i wr => ∃ k : Nat, k ≤ n ∧ i = .int .i64 k ∧ Hid (allB (goodAt (fun i => holeB (s0 i) (a1 i) (a2 i)) s0) k = true) ∧ Below w.heap.size w wr) (fun i _ => n - (intOf i).toNat)
  case atStart => exact ⟨0, by omega, rfl, rfl, Below.refl _ _⟩
  case round =>
    obtain ⟨k, hk, rfl, hgood, hbr⟩ := hrel
    by_cases hlt : k < n
    · have hsk := HS.out k hlt
      obtain ⟨b, o, rfl, hrow⟩ := H.out (by omega)
      have hbw := (hrow k hlt).lt
      obtain ⟨c0, c1, c2⟩ := (hrow k hlt).below hbr (Nat.le_refl _)
      have HR := Lib.hid hrow
      clear hrow
      cases q1 : holeB (s0 k) (a1 k) (a2 k)
      · have HK : Hid (goodAt (fun i => holeB (s0 i) (a1 i) (a2 i)) s0 k = false) := Lib.hid (by simp [goodAt, q1])
        have HC := Lib.hid (show ∀ m, Calls Try.prog 77 #[.pointer (some ⟨b, o + k * 3, none⟩)] (wr.drewN m) (fun e w' => e = .returned (.bool false) ∧ wr.drewN m = w') from fun m => by have hq := sokHole_calls b (o + k * 3) (s0 k) (a1 k) (a2 k) (wr.drewN m) hsk (by simpa using c0) (by simpa using c1) (by simpa using c2); rwa [q1] at hq)
        go_wp2_with fail
        go_quiet ((go_at_call 77; exact quiet_left (HC.out _)))
        have hbr2 := hbr
        go_wp2
        go_ret
        exact ⟨ret_bool (by rw [← HRES.out, allB_no hlt HK.out]; rfl), below_drewN hbr2 _⟩
      · rcases Nat.eq_zero_or_pos k with hz | hz
        · have hd1 : decide ((0 : Int) < (k : Int)) = false := decide_eq_false (by omega)
          have hd2 : decide (0 < k) = false := decide_eq_false (by omega)
          have HK : Hid (goodAt (fun i => holeB (s0 i) (a1 i) (a2 i)) s0 k = true) := Lib.hid (by subst hz; simp [goodAt, q1])
          clear hz
          have HC := Lib.hid (show ∀ m, Calls Try.prog 77 #[.pointer (some ⟨b, o + k * 3, none⟩)] (wr.drewN m) (fun e w' => e = .returned (.bool true) ∧ wr.drewN m = w') from fun m => by have hq := sokHole_calls b (o + k * 3) (s0 k) (a1 k) (a2 k) (wr.drewN m) hsk (by simpa using c0) (by simpa using c1) (by simpa using c2); rwa [q1] at hq)
          go_wp2_with fail
          go_quiet ((go_at_call 77; exact quiet_left (HC.out _)))
          have hbr2 := hbr
          go_wp2
          go_roundw
          case rel => exact ⟨k + 1, by omega, by go_num, Lib.hid (by rw [show allB (goodAt (fun i => holeB (s0 i) (a1 i) (a2 i)) s0) (k + 1) = (allB (goodAt (fun i => holeB (s0 i) (a1 i) (a2 i)) s0) k && goodAt (fun i => holeB (s0 i) (a1 i) (a2 i)) s0 k) from rfl, hgood.out, HK.out]; rfl), below_drewN hbr2 _⟩
          case measure => simp [intOf]; omega
        · obtain ⟨j, hj⟩ : ∃ j, k = j + 1 := ⟨k - 1, by omega⟩
          have pr := (HR.out j (by omega)).below hbr (Nat.le_refl _) |>.1
          have hd1 : decide ((0 : Int) < (k : Int)) = true := decide_eq_true (by omega)
          have hd2 : decide (0 < k) = true := decide_eq_true (by omega)
          have hw : IntKind.i64.wrap ((k : Int) - 1) = (j : Int) := (IntWalk.i64_in _ ⟨by omega, by omega⟩).trans (by omega)
          have hjn : j < n := by omega
          have hg : goodAt (fun i => holeB (s0 i) (a1 i) (a2 i)) s0 k = Op.bytesLess (s0 j).toList (s0 k).toList := by subst hj; simp [goodAt, q1]
          clear hj hz
          cases q3 : Op.bytesLess (s0 j).toList (s0 k).toList
          · have HK : Hid (goodAt (fun i => holeB (s0 i) (a1 i) (a2 i)) s0 k = false) := Lib.hid (by rw [hg, q3])
            clear hg
            have HC := Lib.hid (show ∀ m, Calls Try.prog 77 #[.pointer (some ⟨b, o + k * 3, none⟩)] (wr.drewN m) (fun e w' => e = .returned (.bool true) ∧ wr.drewN m = w') from fun m => by have hq := sokHole_calls b (o + k * 3) (s0 k) (a1 k) (a2 k) (wr.drewN m) hsk (by simpa using c0) (by simpa using c1) (by simpa using c2); rwa [q1] at hq)
            go_wp2_with fail
            go_quiet ((go_at_call 77; exact quiet_left (HC.out _)))
            have hbr2 := hbr
            go_wp2
            go_ret
            exact ⟨ret_bool (by rw [← HRES.out, allB_no hlt HK.out]; rfl), below_drewN hbr2 _⟩
          · have HK : Hid (goodAt (fun i => holeB (s0 i) (a1 i) (a2 i)) s0 k = true) := Lib.hid (by rw [hg, q3])
            clear hg
            have HC := Lib.hid (show ∀ m, Calls Try.prog 77 #[.pointer (some ⟨b, o + k * 3, none⟩)] (wr.drewN m) (fun e w' => e = .returned (.bool true) ∧ wr.drewN m = w') from fun m => by have hq := sokHole_calls b (o + k * 3) (s0 k) (a1 k) (a2 k) (wr.drewN m) hsk (by simpa using c0) (by simpa using c1) (by simpa using c2); rwa [q1] at hq)
            go_wp2_with fail
            go_quiet ((go_at_call 77; exact quiet_left (HC.out _)))
            have hbr2 := hbr
            go_wp2
            go_roundw
            case rel => exact ⟨k + 1, by omega, by go_num, Lib.hid (by rw [show allB (goodAt (fun i => holeB (s0 i) (a1 i) (a2 i)) s0) (k + 1) = (allB (goodAt (fun i => holeB (s0 i) (a1 i) (a2 i)) s0) k && goodAt (fun i => holeB (s0 i) (a1 i) (a2 i)) s0 k) from rfl, hgood.out, HK.out]; rfl), below_drewN hbr2 _⟩
            case measure => simp [intOf]; omega
    · obtain rfl : k = n := by omega
      by_cases hm : (k : Int) ≤ 8
      ·
        go_wp2
        go_ret
        exact ⟨ret_bool (by rw [← HRES.out, hgood.out]; simp [hm] <;> omega), hbr⟩
      ·
        go_wp2
        go_ret
        exact ⟨ret_bool (by rw [← HRES.out, hgood.out]; simp [hm] <;> omega), hbr⟩
end Go.Proofs.Ytonoeohmpaegdaa
