/- Shares and lists of shares: how they read, their size, copy and comparison. -/
import Derived.Test.YticnpibkpfpojaaName
import Derived.Test.YticnpibkpfpojaaPred
import Derived.Test.YticnpibkpfpojaaRowBase
import Derived.Test.YticnpibkpfpojaaFrame
import Derived.Deep.RegionHeld3
import Derived.Handy
import Derived.KernelRfl
import Derived.ShutString
import Derived.ChangeShapes
namespace Go.Proofs.Yticnpibkpfpojaa
set_option linter.unusedVariables false
open Go.RowKit

set_option maxHeartbeats 400000 in
theorem toShare_calls (s0 : ByteArray) (a1 : Int) (w : World) :
    Calls Try.prog 54 #[.agg #[.string s0, .int .i64 a1]] w fun e w' => e = .returned (.agg #[.string s0, .int .i64 a1]) ∧ Below w.heap.size w w' := by
  go_enter Try.func54, Try.ntmps54
  go_wp2
  refine bodyPost_ret (v := .agg #[.string s0, .int .i64 a1]) (by simp [results, Try.results54, go_sem]) rfl ⟨rfl, ?_⟩
  go_grown
set_option maxHeartbeats 400000 in
theorem szShare_calls (s0 : ByteArray) (a1 : Int) (n : Int) (w : World) (hs : s0.size ≤ maxLen) (h0 : 0 ≤ n) (h1 : n ≤ 4611686018427387904) :
    Calls Try.prog 46 #[.agg #[.string s0, .int .i64 a1], .int .i64 n] w fun e w' => e = .returned (.int .i64 (if n < s0.size then -1 else n - s0.size)) ∧ Below w.heap.size w w' := by
  unfold maxLen at hs
  by_cases h : n < s0.size
  · rw [if_pos h]
    go_enter Try.func46, Try.ntmps46
    go_wp2
    go_ret
    exact ⟨rfl, (Below.refl _ _).alloc (Nat.le_refl _) _⟩
  · rw [if_neg h]
    go_enter Try.func46, Try.ntmps46
    go_wp2
    go_ret
    exact ⟨rfl, (Below.refl _ _).alloc (Nat.le_refl _) _⟩
set_option maxHeartbeats 400000 in
theorem eqShare_calls (s0 : ByteArray) (a1 : Int) (w : World) :
    Calls Try.prog 71 #[.agg #[.string s0, .int .i64 a1], .agg #[.string s0, .int .i64 a1]] w fun e w' => e = .returned (.bool true) ∧ Below w.heap.size w w' := by
  go_enter Try.func71, Try.ntmps71
  go_wp2
  go_ret
  exact ⟨rfl, ((Below.refl _ _).alloc (Nat.le_refl _) _).alloc (by simp) _⟩
/-- element of type Share at ⟨b, o⟩ -/
def ShareAt (w : World) (b o : Nat) (s0 : ByteArray) (a1 : Int) : Prop := w.cell? ⟨b, o, none⟩ = some (.string s0) ∧ w.cell? ⟨b, o + 1, none⟩ = some (.int .i64 a1)
/-- the slice at A reads as n elements -/
def ShareRow (w : World) (A : Option Addr) (n : Nat) (s0 : Nat → ByteArray) (a1 : Nat → Int) : Prop := 0 < n → ∃ b o, A = some ⟨b, o, none⟩ ∧ ∀ i, i < n → ShareAt w b (o + i * 2) (s0 i) (a1 i)
theorem ShareAt.lt {w : World} {b o : Nat} {s0 : ByteArray} {a1 : Int} (h : ShareAt w b o s0 a1) : b < w.heap.size := cell_lt h.1
theorem ShareAt.below {w w' : World} {b o B : Nat} {s0 : ByteArray} {a1 : Int} (h : ShareAt w b o s0 a1) (hb : Below B w w') (hB : w.heap.size ≤ B) : ShareAt w' b o s0 a1 :=
  ⟨(hb.cell (p := ⟨b, o, none⟩) (Nat.lt_of_lt_of_le (ShareAt.lt h) hB)).trans h.1, (hb.cell (p := ⟨b, o + 1, none⟩) (Nat.lt_of_lt_of_le (ShareAt.lt h) hB)).trans h.2⟩
theorem ShareRow.below {w w' : World} {A : Option Addr} {n B : Nat} {s0 : Nat → ByteArray} {a1 : Nat → Int} (h : ShareRow w A n s0 a1) (hb : Below B w w') (hB : w.heap.size ≤ B) : ShareRow w' A n s0 a1 := fun hn => by
  obtain ⟨b, o, hA, hall⟩ := h hn
  exact ⟨b, o, hA, fun i hi => (hall i hi).below hb hB⟩
theorem ShareRow.same {w w' : World} {g q n : Nat} {s0 : Nat → ByteArray} {a1 : Nat → Int} (h : ShareRow w (some ⟨g, q, none⟩) n s0 a1) (hb : w'.heap[g]? = w.heap[g]?) : ShareRow w' (some ⟨g, q, none⟩) n s0 a1 := fun hn => by
  obtain ⟨b, o, hA, hall⟩ := h hn
  simp only [Option.some.injEq, Addr.mk.injEq, and_true] at hA
  obtain ⟨rfl, rfl⟩ := hA
  exact ⟨g, q, rfl, fun i hi => ⟨(World.cell?_of_block (w := w) (a := ⟨g, q + i * 2, none⟩) hb).trans (hall i hi).1, (World.cell?_of_block (w := w) (a := ⟨g, q + i * 2 + 1, none⟩) hb).trans (hall i hi).2⟩⟩
set_option maxHeartbeats 1000000 in
theorem szShareS_calls (A : Option Addr) (n c : Nat) (s0 : Nat → ByteArray) (a1 : Nat → Int) (left : Int) (w : World) (h : ShareRow w A n s0 a1) (hs : ∀ i, i < n → (s0 i).size ≤ maxLen) (hn : n ≤ maxLen) (h0 : 0 ≤ left) (h1 : left ≤ 4611686018427387904) :
    Calls Try.prog 20 #[.slice A n c, .int .i64 left] w fun e w' => e = .returned (.int .i64 (if left < (n : Int) + sumS s0 n then -1 else left - ((n : Int) + sumS s0 n))) ∧ Below w.heap.size w w' := by
  unfold maxLen at hn
  by_cases hl : left < n
  · rw [if_pos (by omega)]
    go_enter Try.func20, Try.ntmps20
    go_wp2
    go_ret
    exact ⟨rfl, Below.refl _ _⟩
  · have H := Lib.hid h
    have HS := Lib.hid hs
    clear h hs
    generalize hres : (if left < (n : Int) + sumS s0 n then (-1 : Int) else left - ((n : Int) + sumS s0 n)) = R
    have HRES := Lib.hid hres
    clear hres
    go_enter Try.func20, Try.ntmps20
    go_wp2
    go_loopw [1, 5] (fun l i wr => ∃ k q : Nat, k ≤ n ∧ l = .int .i64 (left - n - q) ∧ i = .int .i64 k ∧ (q : Int) ≤ left - n ∧ Hid (q = sumS s0 k) ∧ Below w.heap.size w wr) (fun _ i _ => n - (intOf i).toNat)
    case atStart => exact ⟨0, 0, by omega, by simp, rfl, by omega, rfl, Below.refl _ _⟩
    case round =>
      obtain ⟨k, q, hk, rfl, rfl, hq, hv, hbr⟩ := hrel
      by_cases hlt : k < n
      · have hsk := HS.out k hlt
        have hmono := sumS_le s0 (show k + 1 ≤ n by omega)
        have hstep : Hid (sumS s0 (k + 1) = sumS s0 k + (s0 k).size) := rfl
        have hmono2 := Lib.hid hmono
        clear hmono
        obtain ⟨b, o, rfl, hall⟩ := H.out (by omega)
        obtain ⟨c0, c1⟩ := (hall k hlt).below hbr (Nat.le_refl _)
        have HALL := Lib.hid hall
        clear hall
        by_cases hbig : left - n - q < (s0 k).size
        · go_wp2_with (go_at_call 46; refine (szShare_calls _ _ _ _ hsk (by omega) (by omega)).mono ?_; rintro e w1 ⟨rfl, hb⟩; rw [if_pos (by omega)]; have hbr2 : Below w.heap.size w w1 := hbr.trans (hb.mono hbr.size); clear hb)
          go_ret
          exact ⟨ret_int (by have h1 := hv.out; have h2 := hstep.out; have h3 := hmono2.out; rw [← HRES.out, if_pos (by omega)]), hbr2⟩
        · go_wp2_with (go_at_call 46; refine (szShare_calls _ _ _ _ hsk (by omega) (by omega)).mono ?_; rintro e w1 ⟨rfl, hb⟩; rw [if_neg (by omega)]; have hbr2 : Below w.heap.size w w1 := hbr.trans (hb.mono hbr.size); clear hb)
          go_roundw
          case rel => exact ⟨k + 1, q + (s0 k).size, by omega, by congr 1; omega, by go_num, by omega, Lib.hid (by have h1 := hv.out; have h2 := hstep.out; omega), hbr2⟩
          case measure => simp [intOf]; omega
      · obtain rfl : k = n := by omega
        have hfin : Hid (left - (k : Int) - q = R) := Lib.hid (by
          have h1 := hv.out
          rw [← HRES.out, if_neg (by omega)]; omega)
        go_wp2
        go_ret
        exact ⟨ret_int hfin.out, hbr⟩
theorem Share_info : (Try.prog.info? 81).map (fun i => (i.zero, i.size, i.bytes)) = some (some (.agg #[.string ⟨#[]⟩, .int .i64 0]), 2, 24) := by kernel_rfl
def ShareArr (arr : Array Value) (m : Nat) (s0 : Nat → ByteArray) (a1 : Nat → Int) : Prop := ∀ i, i < m → arr[i * 2]? = some (.string (s0 i)) ∧ arr[i * 2 + 1]? = some (.int .i64 (a1 i))
theorem ShareArr.next {arr : Array Value} {n k : Nat} {s0 : Nat → ByteArray} {a1 : Nat → Int} (h : ShareArr arr k s0 a1) (hs : arr.size = n * 2) (hk : k < n) : ShareArr ((arr.setIfInBounds (k * 2) (.string (s0 k))).setIfInBounds (k * 2 + 1) (.int .i64 (a1 k))) (k + 1) s0 a1 := by
  intro i hi
  rcases Nat.lt_or_ge i k with h1 | h1
  · have h2 := h i h1
    refine ⟨?_, ?_⟩
    all_goals simp (disch := omega) only [Array.getElem?_setIfInBounds_ne]
    · exact h2.1
    · exact h2.2
  · obtain rfl : i = k := by omega
    refine ⟨?_, ?_⟩
    · rw [Array.getElem?_setIfInBounds_ne (by omega), Array.getElem?_setIfInBounds_self_of_lt (by (try simp); omega)]
    · rw [Array.getElem?_setIfInBounds_self_of_lt (by (try simp); omega)]
theorem ShareArr.row {w : World} {g T n : Nat} {arr : Array Value} {s0 : Nat → ByteArray} {a1 : Nat → Int} (h : ShareArr arr n s0 a1) (hb : Blk w g T arr) : ShareRow w (some ⟨g, 0, none⟩) n s0 a1 := fun _ =>
  ⟨g, 0, rfl, fun i hi => by
    have h2 := h i hi
    rw [Nat.zero_add]
    exact ⟨(hb.cell _).trans h2.1, (hb.cell _).trans h2.2⟩⟩
set_option maxHeartbeats 1000000 in
theorem toShareS_calls (A : Option Addr) (n c : Nat) (s0 : Nat → ByteArray) (a1 : Nat → Int) (w : World) (h : ShareRow w A n s0 a1) (hn : n ≤ 1048576) :
    Calls Try.prog 27 #[.slice A n c] w fun e w' => e = .returned (.slice (some ⟨w.heap.size, 0, none⟩) n n) ∧ Below w.heap.size w w' ∧ w.heap.size < w'.heap.size ∧ ShareRow w' (some ⟨w.heap.size, 0, none⟩) n s0 a1 := by
  obtain ⟨ie, hi, hz0, hz1, hz2⟩ := info_parts Share_info
  have hmk := run_make_rowN (P := Try.prog) 36 81 ie _ Try.underlying36 hi hz0 .i64 .i64 n n (Nat.le_refl _) (by rw [hz2]; omega) (by omega) w
  rw [hz1] at hmk
  have hsz0 := madeCells_size (Value.cells (.agg #[.string ⟨#[]⟩, .int .i64 0])) (n * 2)
  generalize madeCells (Value.cells (.agg #[.string ⟨#[]⟩, .int .i64 0])) (n * 2) = arr0 at hmk hsz0
  have HSZ := Lib.hid hsz0
  have H := Lib.hid h
  clear h hsz0 hi hz0 hz1 hz2
  go_enter Try.func27, Try.ntmps27
  go_wp2
  clear hmk
  go_loopw [4] (fun i wr => ∃ (k : Nat) (arr : Array Value), k ≤ n ∧ i = .int .i64 k ∧ Hid (arr.size = n * 2) ∧ Hid (Blk wr w.heap.size 81 arr) ∧ Below w.heap.size w wr ∧ w.heap.size < wr.heap.size ∧ Hid (ShareArr arr k s0 a1)) (fun i _ => n - (intOf i).toNat)
  case atStart => exact ⟨0, arr0, by omega, rfl, HSZ, Blk.new w _ _, (Below.refl _ _).alloc (Nat.le_refl _) _, by simp, fun i hi => by omega⟩
  case round =>
    obtain ⟨k, arr, hk, rfl, hsz, hblk, hbr, hgt, hall⟩ := hrel
    by_cases hlt : k < n
    · obtain ⟨b, o, rfl, hrow⟩ := H.out (by omega)
      obtain ⟨c0, c1⟩ := (hrow k hlt).below hbr (Nat.le_refl _)
      have HR := Lib.hid hrow
      clear hrow
      obtain ⟨x0, hx0⟩ := arr_some (arr := arr) (j := k * 2) (by have := hsz.out; omega)
      obtain ⟨x1, hx1⟩ := arr_some (arr := arr) (j := k * 2 + 1) (by have := hsz.out; omega)
      have HX0 := Lib.hid hx0
      have HX1 := Lib.hid hx1
      clear hx0 hx1
      go_wp2_with (go_at_call 54; refine (toShare_calls _ _ _).mono ?_; rintro e w1 ⟨rfl, hb⟩; have hblk1 : Blk w1 w.heap.size 81 arr := hblk.out.below hb hgt; have y0 := (Blk.cell hblk1 (k * 2)).trans HX0.out; have z0 := Blk.frozen hblk1 (k * 2); have y1 := (Blk.cell hblk1 (k * 2 + 1)).trans HX1.out; have z1 := Blk.frozen hblk1 (k * 2 + 1); have HB1 := Lib.hid hblk1; clear hblk1; have hbr2 : Below w.heap.size w w1 := hbr.trans (hb.mono hbr.size); have hgt2 := Nat.lt_of_lt_of_le hgt hb.size; clear hb)
      go_roundw
      case rel => exact ⟨k + 1, _, by omega, by go_num, by have := hsz.out; simpa [Hid] using this, ((HB1.out.set_ (k * 2) _).set_ (k * 2 + 1) _), ((hbr2.setCell (Nat.le_refl _) _).setCell (Nat.le_refl _) _), by simpa using hgt2, hall.out.next hsz.out hlt⟩
      case measure => simp [intOf]; omega
    · obtain rfl : k = n := by omega
      have hfin := Lib.hid (hall.out.row hblk.out)
      clear hall hblk hsz
      go_wp2
      go_ret
      exact ⟨rfl, hbr, hgt, hfin.out⟩
set_option maxHeartbeats 2000000 in
theorem eqShareS_calls (A A2 : Option Addr) (n c c2 : Nat) (s0 : Nat → ByteArray) (a1 : Nat → Int) (w : World) (h : ShareRow w A n s0 a1) (h2 : ShareRow w A2 n s0 a1) (hn : n ≤ 1048576) :
    Calls Try.prog 40 #[.slice A n c, .slice A2 n c2] w fun e w' => e = .returned (.bool true) ∧ Below w.heap.size w w' := by
  have H := Lib.hid h
  have H2 := Lib.hid h2
  clear h h2
  go_enter Try.func40, Try.ntmps40
  go_wp2
  go_loopw [5] (fun i wr => ∃ k : Nat, k ≤ n ∧ i = .int .i64 k ∧ Below w.heap.size w wr) (fun i _ => n - (intOf i).toNat)
  case atStart => exact ⟨0, by omega, rfl, Below.refl _ _⟩
  case round =>
    obtain ⟨k, hk, rfl, hbr⟩ := hrel
    by_cases hlt : k < n
    · obtain ⟨b, o, rfl, hrow⟩ := H.out (by omega)
      obtain ⟨b2, o2, rfl, hrow2⟩ := H2.out (by omega)
      have hbw := (hrow k hlt).lt
      have hbw2 := (hrow2 k hlt).lt
      obtain ⟨c0, c1⟩ := (hrow k hlt).below hbr (Nat.le_refl _)
      obtain ⟨g0, g1⟩ := (hrow2 k hlt).below hbr (Nat.le_refl _)
      have HR := Lib.hid hrow
      have HR2 := Lib.hid hrow2
      clear hrow hrow2
      go_wp2_with fail
      go_region_held3 (fun w' => Below w.heap.size w w' ∧ w'.cell? ⟨b, o + k * 2, none⟩ = some (.string (s0 k)) ∧ w'.cell? ⟨b, o + k * 2 + 1, none⟩ = some (.int .i64 (a1 k)) ∧ w'.cell? ⟨b2, o2 + k * 2, none⟩ = some (.string (s0 k)) ∧ w'.cell? ⟨b2, o2 + k * 2 + 1, none⟩ = some (.int .i64 (a1 k)))
        (first
          | exact ⟨hbr.drew, c0, c1, g0, g1⟩
          | assumption
          | (obtain ⟨q0, d0, d1, e0, e1⟩ := ‹Below _ _ _ ∧ _›; exact ⟨q0.trans (hb.mono q0.size), (hb.cell (p := ⟨_, _, none⟩) (Nat.lt_of_lt_of_le hbw q0.size)).trans d0, (hb.cell (p := ⟨_, _, none⟩) (Nat.lt_of_lt_of_le hbw q0.size)).trans d1, (hb.cell (p := ⟨_, _, none⟩) (Nat.lt_of_lt_of_le hbw2 q0.size)).trans e0, (hb.cell (p := ⟨_, _, none⟩) (Nat.lt_of_lt_of_le hbw2 q0.size)).trans e1⟩))
        (first
          | (go_at_call 71; refine (eqShare_calls _ _ _).mono ?_; rintro e w1 ⟨rfl, hb⟩))
      all_goals
        have hbr2 := (‹Below _ _ _ ∧ _›).1
        go_wp2
        go_roundw
        case rel => exact ⟨k + 1, by omega, by go_num, hbr2⟩
        case measure => simp [intOf]; omega
    · obtain rfl : k = n := by omega
      go_wp2
      go_ret
      exact ⟨rfl, hbr⟩
open Go.ChangeShapes Go.WideShapes Go.Deep in
theorem openShareS {H : Type} {enc : TypeId × Value → H} {w : World} {base : Nat} {spare : Nat → Bool} {held : Bool} {fuel : Nat} {A : Option Addr} {n c : Nat} {x : DataW H × List MemPlace} (h : DataW.trod enc Try.prog w base spare held fuel 24 [.slice A n c] = some x) :
    ∃ (s0 : Nat → ByteArray) (a1 : Nat → Int), ShareRow w A n s0 a1 ∧ n ≤ maxLen ∧ (∀ i, i < n → (s0 i).size ≤ maxLen) ∧ (∀ i, i < n → (Lit.int .i64 (a1 i)).wf = true) := by
  rcases open_slice Try.underlying24 h with ⟨hcs, hx⟩ | ⟨a, len, cap, m, fu, D, Pl, hcs, hb, hl, hm, hmm, hx, hi⟩
  · simp only [List.cons.injEq, Value.slice.injEq, and_true] at hcs
    obtain ⟨rfl, rfl, rfl⟩ := hcs
    exact ⟨fun _ => ⟨#[]⟩, fun _ => 0, fun h0 => by omega, by unfold maxLen; omega, fun i h0 => by omega, fun i h0 => by omega⟩
  · simp only [List.cons.injEq, Value.slice.injEq, and_true] at hcs
    obtain ⟨rfl, rfl, rfl⟩ := hcs
    have hlm : n ≤ m := by rw [hmm]; split <;> omega
    have hC : Try.prog.cellsOf 78 = 2 := by kernel_rfl
    rw [hC] at hi
    have hall : ∀ i, ∃ t : ByteArray × Int, i < n → ShareAt w a.block (a.off + i * 2) t.1 t.2 ∧ t.1.size ≤ maxLen ∧ (Lit.int .i64 t.2).wf = true := by
      intro i
      by_cases hin : i < n
      · obtain ⟨cs, hc, ht⟩ := hi i (by omega)
        obtain ⟨-, hcl, hat⟩ := Go.World.cells?_some hc
        obtain ⟨hln, m2, hg⟩ := fields_of Try.underlying78 (by kernel_rfl) (by kernel_rfl) ht
        obtain ⟨v0, v1, rfl⟩ := list2 hln
        obtain ⟨y0, t0⟩ := hg 0 _ rfl v0 rfl
        have k0 := hat 0 (by omega)
        obtain ⟨x0, e0, _, q0⟩ := DataW.trod_string Try.underlying9 t0
        obtain rfl := one_cell e0
        obtain ⟨y1, t1⟩ := hg 1 _ rfl v1 rfl
        have k1 := hat 1 (by omega)
        obtain ⟨x1, e1, _, q1⟩ := DataW.trod_int Try.underlying2 t1
        obtain rfl := one_cell e1
        exact ⟨(x0, x1), fun _ => ⟨⟨cell_add2 k0 (by omega), cell_add2 k1 (by omega)⟩, q0, q1⟩⟩
      · exact ⟨(⟨#[]⟩, 0), fun h0 => absurd h0 hin⟩
    obtain ⟨F, hF⟩ := Classical.axiomOfChoice hall
    refine ⟨fun i => (F i).1, fun i => (F i).2, fun hn => ?_, by omega, fun i h0 => (hF i h0).2.1, fun i h0 => (hF i h0).2.2⟩
    refine ⟨a.block, a.off, ?_, fun i h0 => (hF i h0).1⟩
    obtain ⟨b, o, spot⟩ := a
    obtain ⟨cs, hc, ht⟩ := hi 0 (by omega)
    obtain ⟨-, hcl, hat⟩ := Go.World.cells?_some hc
    have k0 := hat 0 (by omega)
    rw [List.getElem?_eq_getElem (show 0 < cs.length by omega)] at k0
    have hspot : spot = none := by simpa [Addr.add] using Go.World.cell?_spot k0
    rw [hspot]
/-- the sum of the first n -/
def sumI (f : Nat → Int) : Nat → Int
  | 0 => 0
  | n + 1 => sumI f n + f n
end Go.Proofs.Yticnpibkpfpojaa
