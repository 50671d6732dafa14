/- What mark does with a list of holes. -/
import Derived.Test.YtonoeohmpaegdaaHolesFor
namespace Go.Proofs.Ytonoeohmpaegdaa
set_option linter.unusedVariables false
open Go.RowKit

/-- the row lies at the head of a block of the call's own -/
def HoleOwn (w : World) (A : Option Addr) (n : Nat) (s0 : Nat → ByteArray) (a1 : Nat → Int) (a2 : Nat → Int) (G : Nat) : Prop := 0 < n → A = some ⟨G, 0, none⟩ ∧ ∃ arr : Array Value, Blk w G 79 arr ∧ n * 3 ≤ arr.size ∧ HoleArr arr n s0 a1 a2
theorem HoleOwn.row {w : World} {A : Option Addr} {n G : Nat} {s0 : Nat → ByteArray} {a1 : Nat → Int} {a2 : Nat → Int} (h : HoleOwn w A n s0 a1 a2 G) : HoleRow w A n s0 a1 a2 := fun hn => by
  obtain ⟨hA, arr, hb, -, ha⟩ := h hn
  exact hA ▸ (ha.row hb) hn
theorem HoleOwn.keep {w w' : World} {A : Option Addr} {n G : Nat} {s0 : Nat → ByteArray} {a1 : Nat → Int} {a2 : Nat → Int} (h : HoleOwn w A n s0 a1 a2 G) (hb : Below w.heap.size w w') : HoleOwn w' A n s0 a1 a2 G := fun hn => by
  obtain ⟨hA, arr, hk, hs, ha⟩ := h hn
  exact ⟨hA, arr, hk.keep hb, hs, ha⟩
theorem HoleOwn.grown {w w' : World} {A : Option Addr} {n G H : Nat} {s0 : Nat → ByteArray} {a1 : Nat → Int} {a2 : Nat → Int} (h : HoleOwn w A n s0 a1 a2 G) (hg : w.grownBy w' (some H)) (hne : G ≠ H) : HoleOwn w' A n s0 a1 a2 G := fun hn => by
  obtain ⟨hA, arr, hk, hs, ha⟩ := h hn
  exact ⟨hA, arr, (hg.block G hk.lt (by simpa using hne)).trans hk, hs, ha⟩
theorem HoleRow.grown {w w' : World} {A : Option Addr} {n H : Nat} {s0 : Nat → ByteArray} {a1 : Nat → Int} {a2 : Nat → Int} (h : HoleRow w A n s0 a1 a2) (hg : w.grownBy w' (some H)) (hne : ∀ b o, A = some ⟨b, o, none⟩ → b ≠ H) : HoleRow w' A n s0 a1 a2 := fun hn => by
  obtain ⟨b, o, hA, hall⟩ := h hn
  have hb := hne b o hA
  exact ⟨b, o, hA, fun i hi => ⟨hg.cell (hall i hi).1 (by simpa using hb), hg.cell (hall i hi).2.1 (by simpa using hb), hg.cell (hall i hi).2.2 (by simpa using hb)⟩⟩
theorem HoleOwn.same {w w' : World} {A : Option Addr} {n G : Nat} {s0 : Nat → ByteArray} {a1 : Nat → Int} {a2 : Nat → Int} (h : HoleOwn w A n s0 a1 a2 G) (hb : w'.heap[G]? = w.heap[G]?) : HoleOwn w' A n s0 a1 a2 G := fun hn => by
  obtain ⟨hA, arr, hk, hs, ha⟩ := h hn
  exact ⟨hA, arr, hb.trans hk, hs, ha⟩
set_option maxHeartbeats 1000000 in
theorem toHoleS_own (A : Option Addr) (n c : Nat) (s0 : Nat → ByteArray) (a1 : Nat → Int) (a2 : Nat → Int) (w : World) (h : HoleRow w A n s0 a1 a2) (hn : n ≤ 1048576) :
    Calls Try.prog 9 #[.slice A n c] w fun e w' => e = .returned (.slice (some ⟨w.heap.size, 0, none⟩) n n) ∧ Below w.heap.size w w' ∧ w.heap.size < w'.heap.size ∧ HoleOwn w' (some ⟨w.heap.size, 0, none⟩) n s0 a1 a2 w.heap.size := by
  obtain ⟨ie, hi, hz0, hz1, hz2⟩ := info_parts Hole_info
  have hmk := run_make_rowN (P := Try.prog) 31 79 ie _ Try.underlying31 hi hz0 .i64 .i64 n n (Nat.le_refl _) (by rw [hz2]; omega) (by omega) w
  rw [hz1] at hmk
  have hsz0 := madeCells_size (Value.cells (.agg #[.string ⟨#[]⟩, .int .i64 0, .int .i64 0])) (n * 3)
  generalize madeCells (Value.cells (.agg #[.string ⟨#[]⟩, .int .i64 0, .int .i64 0])) (n * 3) = arr0 at hmk hsz0
  have HSZ := Lib.hid hsz0
  have H := Lib.hid h
  clear h hsz0 hi hz0 hz1 hz2
  go_enter Try.func9, Try.ntmps9
  go_wp2
  clear hmk
  go_loopw [4] (fun i wr => ∃ (k : Nat) (arr : Array Value), k ≤ n ∧ i = .int .i64 k ∧ Hid (arr.size = n * 3) ∧ Hid (Blk wr w.heap.size 79 arr) ∧ Below w.heap.size w wr ∧ w.heap.size < wr.heap.size ∧ Hid (HoleArr arr k s0 a1 a2)) (fun i _ => n - (intOf i).toNat)
  case atStart => exact ⟨0, arr0, by omega, rfl, HSZ, Blk.new w _ _, (Below.refl _ _).alloc (Nat.le_refl _) _, by simp, fun i hi => by omega⟩
  case round =>
    obtain ⟨k, arr, hk, rfl, hsz, hblk, hbr, hgt, hall⟩ := hrel
    by_cases hlt : k < n
    · obtain ⟨b, o, rfl, hrow⟩ := H.out (by omega)
      obtain ⟨c0, c1, c2⟩ := (hrow k hlt).below hbr (Nat.le_refl _)
      have HR := Lib.hid hrow
      clear hrow
      obtain ⟨x0, hx0⟩ := arr_some (arr := arr) (j := k * 3) (by have := hsz.out; omega)
      obtain ⟨x1, hx1⟩ := arr_some (arr := arr) (j := k * 3 + 1) (by have := hsz.out; omega)
      obtain ⟨x2, hx2⟩ := arr_some (arr := arr) (j := k * 3 + 2) (by have := hsz.out; omega)
      have HX0 := Lib.hid hx0
      have HX1 := Lib.hid hx1
      have HX2 := Lib.hid hx2
      clear hx0 hx1 hx2
      go_wp2_with (go_at_call 40; refine (toHole_calls _ _ _ _).mono ?_; rintro e w1 ⟨rfl, hb⟩; have hblk1 : Blk w1 w.heap.size 79 arr := hblk.out.below hb hgt; have y0 := (Blk.cell hblk1 (k * 3)).trans HX0.out; have z0 := Blk.frozen hblk1 (k * 3); have y1 := (Blk.cell hblk1 (k * 3 + 1)).trans HX1.out; have z1 := Blk.frozen hblk1 (k * 3 + 1); have y2 := (Blk.cell hblk1 (k * 3 + 2)).trans HX2.out; have z2 := Blk.frozen hblk1 (k * 3 + 2); have HB1 := Lib.hid hblk1; clear hblk1; have hbr2 : Below w.heap.size w w1 := hbr.trans (hb.mono hbr.size); have hgt2 := Nat.lt_of_lt_of_le hgt hb.size; clear hb)
      go_roundw
      case rel => exact ⟨k + 1, _, by omega, by go_num, by have := hsz.out; simpa [Hid] using this, (((HB1.out.set_ (k * 3) _).set_ (k * 3 + 1) _).set_ (k * 3 + 2) _), (((hbr2.setCell (Nat.le_refl _) _).setCell (Nat.le_refl _) _).setCell (Nat.le_refl _) _), by simpa using hgt2, hall.out.next hsz.out hlt⟩
      case measure => simp [intOf]; omega
    · obtain rfl : k = n := by omega
      have hfin : Hid (HoleOwn wr (some ⟨w.heap.size, 0, none⟩) k s0 a1 a2 w.heap.size) := Lib.hid fun _ => ⟨rfl, arr, hblk.out, Nat.le_of_eq hsz.out.symm, hall.out⟩
      clear hall hblk hsz
      go_wp2
      go_ret
      exact ⟨rfl, hbr, hgt, hfin.out⟩
set_option maxRecDepth 20000 in
set_option maxHeartbeats 4000000 in
theorem markHoleS_calls (A : Option Addr) (n c G : Nat) (s0 : Nat → ByteArray) (a1 a2 : Nat → Int) (k : Nat) (w : World) (h : HoleOwn w A n s0 a1 a2 G) (hn : n ≤ 1048576) (hk : k ≤ 1000000000) :
    Calls Try.prog 15 #[.slice A n c, .int .i64 k] w fun e w' => e = .returned (.int .i64 ((k + 3 * n : Nat) : Int)) ∧ w.grownBy w' (some G) := by
  have H := Lib.hid h
  clear h
  go_enter Try.func15, Try.ntmps15
  go_wp2
  go_loopw [1, 5] (fun q i wr => ∃ j : Nat, j ≤ n ∧ q = .int .i64 ((k + 3 * j : Nat) : Int) ∧ i = .int .i64 j ∧ Hid (w.grownBy wr (some G)) ∧ Hid (0 < n → A = some ⟨G, 0, none⟩ ∧ ∃ arr : Array Value, Blk wr G 79 arr ∧ n * 3 ≤ arr.size)) (fun _ i _ => n - (intOf i).toNat)
  case atStart => exact ⟨0, by omega, rfl, rfl, Lib.hid (World.grownBy.refl _ _), Lib.hid fun hn => by
    obtain ⟨hA, arr, hb, hs, ha⟩ := H.out hn
    exact ⟨hA, arr, hb, hs⟩⟩
  case round =>
    obtain ⟨j, hj, rfl, rfl, hg, harr⟩ := hrel
    by_cases hlt : j < n
    · obtain ⟨rfl, arr, hb, hs⟩ := harr.out (by omega)
      obtain ⟨x0, hx0⟩ := arr_some (arr := arr) (j := j * 3) (by omega)
      obtain ⟨x1, hx1⟩ := arr_some (arr := arr) (j := j * 3 + 1) (by omega)
      obtain ⟨x2, hx2⟩ := arr_some (arr := arr) (j := j * 3 + 2) (by omega)
      have HX0 := Lib.hid hx0
      have HX1 := Lib.hid hx1
      have HX2 := Lib.hid hx2
      have HB := Lib.hid hb
      have HS := Lib.hid hs
      obtain ⟨M, hM⟩ : ∃ M : Nat, M = k + 3 * j := ⟨_, rfl⟩
      rw [← hM]
      have hMb : M ≤ 4000000000 := by omega
      have HM := Lib.hid hM
      clear hb hs hM hx0 hx1 hx2
      go_wp2_with (go_at_call 50; refine (markText_calls M _ hMb).mono ?_; rintro e w1 ⟨⟨t, rfl⟩, hb⟩; have hb1 := HB.out.keep hb; have y0 := (hb1.cell (j * 3)).trans HX0.out; have y1 := (hb1.cell (j * 3 + 1)).trans HX1.out; have y2 := (hb1.cell (j * 3 + 2)).trans HX2.out; have f0 := hb1.frozen; have HB1 := Lib.hid hb1; have HG1 := Lib.hid (gb_trans hg.out (gb_below hb)); clear hb1 hb)
      go_roundw
      case rel =>
        refine ⟨j + 1, by omega, by have := HM.out; go_num, by go_num, Lib.hid ?_, Lib.hid ?_⟩
        · exact gb_set (gb_set (gb_set HG1.out (by simp) _) (by simp) _) (by simp) _
        · intro _
          exact ⟨by first | rfl | trivial, _, ((HB1.out.set_ (j * 3) _).set_ (j * 3 + 1) _).set_ (j * 3 + 2) _, by simpa using HS.out⟩
      case measure => simp [intOf]; omega
    · obtain rfl : j = n := by omega
      go_wp2
      go_ret
      exact ⟨rfl, hg.out⟩
end Go.Proofs.Ytonoeohmpaegdaa
