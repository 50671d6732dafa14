/- Lists of bells: size, copy, comparison; how such an argument reads. -/
import Derived.Test.YticnpibkpfpojaaBells
import Derived.Test.YticnpibkpfpojaaBellOp
namespace Go.Proofs.Yticnpibkpfpojaa
set_option linter.unusedVariables false
set_option linter.unusedSimpArgs false
open Go.RowKit

/-- values and letters of a bell -/
def bellSz (x : BellV) : Nat := x.id.size + (x.n + sumS x.ss x.n)
def sumB (f : Nat → BellV) : Nat → Nat
  | 0 => 0
  | n + 1 => sumB f n + bellSz (f n)
theorem sumB_le (f : Nat → BellV) {k n : Nat} (h : k ≤ n) : sumB f k ≤ sumB f n := by
  induction n with
  | zero => obtain rfl : k = 0 := by omega
            exact Nat.le_refl _
  | succ m ih =>
    rcases Nat.lt_or_ge k (m + 1) with h1 | h1
    · exact Nat.le_trans (ih (by omega)) (Nat.le_add_right _ _)
    · obtain rfl : k = m + 1 := by omega
      exact Nat.le_refl _
theorem sumB_one (f : Nat → BellV) {i n : Nat} (h : i < n) : bellSz (f i) ≤ sumB f n := by
  have := sumB_le f (show i + 1 ≤ n by omega)
  have e : sumB f (i + 1) = sumB f i + bellSz (f i) := rfl
  omega
theorem szV_if (l : Int) (x : BellV) : szV l x.id x.n x.ss = if l < (bellSz x : Int) then -1 else l - bellSz x := by
  unfold szV bellSz
  have e : ((x.id.size + (x.n + sumS x.ss x.n) : Nat) : Int) = x.id.size + ((x.n : Int) + sumS x.ss x.n) := by omega
  rw [e]
/-- what a list must be for its size to be asked -/
def Fit (x : BellV) : Prop := x.id.size ≤ maxLen ∧ (∀ i, i < x.n → (x.ss i).size ≤ maxLen) ∧ x.n ≤ maxLen
set_option maxHeartbeats 1000000 in
theorem szBellS_calls (A : Option Addr) (n c : Nat) (f : Nat → BellV) (left : Int) (w : World) (h : BellRow w A n f) (hs : ∀ i, i < n → Fit (f i)) (hn : n ≤ maxLen) (h0 : 0 ≤ left) (h1 : left ≤ 4611686018427387904) :
    Calls Try.prog 5 #[.slice A n c, .int .i64 left] w fun e w' => e = .returned (.int .i64 (if left < (n : Int) + sumB f n then -1 else left - ((n : Int) + sumB f n))) ∧ Below w.heap.size w w' := by
  unfold maxLen at hn
  by_cases hl : left < n
  · rw [if_pos (by omega)]
    go_enter Try.func5, Try.ntmps5
    go_wp2
    go_ret
    exact ⟨rfl, Below.refl _ _⟩
  · have H := Lib.hid h
    have HS := Lib.hid hs
    clear h hs
    generalize hres : (if left < (n : Int) + sumB f n then (-1 : Int) else left - ((n : Int) + sumB f n)) = R
    have HRES := Lib.hid hres
    clear hres
    go_enter Try.func5, Try.ntmps5
    go_wp2
    go_loopw [1, 5] (fun l i wr => ∃ k q : Nat, k ≤ n ∧ l = .int .i64 (left - n - q) ∧ i = .int .i64 k ∧ (q : Int) ≤ left - n ∧ Hid (q = sumB f k) ∧ Below w.heap.size w wr) (fun _ i _ => n - (intOf i).toNat)
    case atStart => exact ⟨0, 0, by omega, by simp, rfl, by omega, rfl, Below.refl _ _⟩
    case round =>
      obtain ⟨k, q, hk, rfl, rfl, hq, hv, hbr⟩ := hrel
      by_cases hlt : k < n
      · obtain ⟨fid, fss, fn⟩ := HS.out k hlt
        have FSS := Lib.hid fss
        clear fss
        have hmono := sumB_le f (show k + 1 ≤ n by omega)
        have hstep : Hid (sumB f (k + 1) = sumB f k + bellSz (f k)) := rfl
        have hmono2 := Lib.hid hmono
        clear hmono
        obtain ⟨b, o, rfl, hall⟩ := H.out (by omega)
        obtain ⟨AK, CK, c0, c1, c2, c3, c4, c5⟩ := (hall k hlt).keep hbr
        have HALL := Lib.hid hall
        have C5 := Lib.hid c5
        clear hall c5
        by_cases hbig : left - n - q < bellSz (f k)
        · go_wp2_with (go_at_call 6; refine (szBell_calls _ _ _ _ _ _ _ _ _ _ _ C5.out fid FSS.out fn (by omega) (by omega)).mono ?_; rw [szV_if, if_pos hbig]; rintro e w1 ⟨rfl, hb⟩; have hbr2 : Below w.heap.size w w1 := hbr.trans (hb.mono hbr.size); clear hb)
          go_ret
          exact ⟨ret_int (by have h1 := hv.out; have h2 := hstep.out; have h3 := hmono2.out; rw [← HRES.out, if_pos (by omega)]), hbr2⟩
        · go_wp2_with (go_at_call 6; refine (szBell_calls _ _ _ _ _ _ _ _ _ _ _ C5.out fid FSS.out fn (by omega) (by omega)).mono ?_; rw [szV_if, if_neg hbig]; rintro e w1 ⟨rfl, hb⟩; have hbr2 : Below w.heap.size w w1 := hbr.trans (hb.mono hbr.size); clear hb)
          go_roundw
          case rel => exact ⟨k + 1, q + bellSz (f k), by omega, by congr 1; omega, by go_num, by omega, Lib.hid (by have h1 := hv.out; have h2 := hstep.out; omega), hbr2⟩
          case measure => simp [intOf]; omega
      · obtain rfl : k = n := by omega
        have hfin : Hid (left - (k : Int) - q = R) := Lib.hid (by
          have h1 := hv.out
          rw [← HRES.out, if_neg (by omega)]; omega)
        go_wp2
        go_ret
        exact ⟨ret_int hfin.out, hbr⟩
/-- the first m bells of a block's cells, each with its shares in a block of their own behind block base -/
def BellArr (w : World) (base : Nat) (arr : Array Value) (m : Nat) (f : Nat → BellV) : Prop := ∀ i, i < m → (arr[i * 5]? = some (.string (f i).id) ∧ arr[i * 5 + 1]? = some (.int .i64 (f i).no) ∧ arr[i * 5 + 2]? = some (.int .i64 (f i).ma) ∧ arr[i * 5 + 3]? = some (.int .i64 (f i).fe)) ∧ ∃ g c, base < g ∧ g < w.heap.size ∧ arr[i * 5 + 4]? = some (.slice (some ⟨g, 0, none⟩) (f i).n c) ∧ ShareRow w (some ⟨g, 0, none⟩) (f i).n (f i).ss (f i).ms
theorem BellArr.next {w w1 w2 : World} {base n k G : Nat} {arr : Array Value} {f : Nat → BellV} (h : BellArr w base arr k f) (hs : arr.size = n * 5) (hk : k < n) (hb : Below w.heap.size w w1) (hg : base < w.heap.size) (h1 : w.heap.size ≤ G) (h2 : G < w1.heap.size) (hr : ShareRow w1 (some ⟨G, 0, none⟩) (f k).n (f k).ss (f k).ms)
    (hw : ∀ g, g ≠ base → w2.heap[g]? = w1.heap[g]?) (hz : w1.heap.size = w2.heap.size) : BellArr w2 base (((((arr.setIfInBounds (k * 5) (.string (f k).id)).setIfInBounds (k * 5 + 1) (.int .i64 (f k).no)).setIfInBounds (k * 5 + 2) (.int .i64 (f k).ma)).setIfInBounds (k * 5 + 3) (.int .i64 (f k).fe)).setIfInBounds (k * 5 + 4) (.slice (some ⟨G, 0, none⟩) (f k).n (f k).n)) (k + 1) f := by
  intro i hi
  rcases Nat.lt_or_ge i k with q | q
  · obtain ⟨⟨a0, a1, a2, a3⟩, g, c, g1, g2, g3, g4⟩ := h i q
    refine ⟨⟨?_, ?_, ?_, ?_⟩, g, c, g1, ?_, ?_, ?_⟩
    · simp (disch := omega) only [Array.getElem?_setIfInBounds_ne]; exact a0
    · simp (disch := omega) only [Array.getElem?_setIfInBounds_ne]; exact a1
    · simp (disch := omega) only [Array.getElem?_setIfInBounds_ne]; exact a2
    · simp (disch := omega) only [Array.getElem?_setIfInBounds_ne]; exact a3
    · have := hb.size; omega
    · simp (disch := omega) only [Array.getElem?_setIfInBounds_ne]; exact g3
    · exact (g4.below hb (Nat.le_refl _)).same (hw g (by omega))
  · obtain rfl : i = k := by omega
    refine ⟨⟨?_, ?_, ?_, ?_⟩, G, (f i).n, by omega, by omega, ?_, hr.same (hw G (by omega))⟩
    · rw [Array.getElem?_setIfInBounds_ne (by omega), Array.getElem?_setIfInBounds_ne (by omega), Array.getElem?_setIfInBounds_ne (by omega), Array.getElem?_setIfInBounds_ne (by omega), Array.getElem?_setIfInBounds_self_of_lt (by (try simp); omega)]
    · rw [Array.getElem?_setIfInBounds_ne (by omega), Array.getElem?_setIfInBounds_ne (by omega), Array.getElem?_setIfInBounds_ne (by omega), Array.getElem?_setIfInBounds_self_of_lt (by (try simp); omega)]
    · rw [Array.getElem?_setIfInBounds_ne (by omega), Array.getElem?_setIfInBounds_ne (by omega), Array.getElem?_setIfInBounds_self_of_lt (by (try simp); omega)]
    · rw [Array.getElem?_setIfInBounds_ne (by omega), Array.getElem?_setIfInBounds_self_of_lt (by (try simp); omega)]
    · rw [Array.getElem?_setIfInBounds_self_of_lt (by (try simp); omega)]
theorem BellArr.row {w : World} {g T n : Nat} {arr : Array Value} {f : Nat → BellV} (h : BellArr w g arr n f) (hb : Blk w g T arr) : BellRow w (some ⟨g, 0, none⟩) n f := fun _ =>
  ⟨g, 0, rfl, fun i hi => by
    obtain ⟨⟨a0, a1, a2, a3⟩, G, c, g1, g2, g3, g4⟩ := h i hi
    rw [Nat.zero_add]
    exact ⟨_, c, (hb.cell _).trans a0, (hb.cell _).trans a1, (hb.cell _).trans a2, (hb.cell _).trans a3, (hb.cell _).trans g3, g4⟩⟩
theorem Bell_info : (Try.prog.info? 38).map (fun i => (i.zero, i.size, i.bytes)) = some (some (.agg #[.string ⟨#[]⟩, .int .i64 0, .int .i64 0, .int .i64 0, .slice none 0 0]), 5, 64) := by kernel_rfl
set_option maxHeartbeats 2000000 in
theorem toBellS_calls (A : Option Addr) (n c : Nat) (f : Nat → BellV) (w : World) (h : BellRow w A n f) (hf : ∀ i, i < n → (f i).n ≤ 1048576) (hn : n ≤ 1048576) :
    Calls Try.prog 9 #[.slice A n c] w fun e w' => e = .returned (.slice (some ⟨w.heap.size, 0, none⟩) n n) ∧ Below w.heap.size w w' ∧ w.heap.size < w'.heap.size ∧ BellRow w' (some ⟨w.heap.size, 0, none⟩) n f := by
  obtain ⟨ie, hi, hz0, hz1, hz2⟩ := info_parts Bell_info
  have hmk := run_make_rowN (P := Try.prog) 30 38 ie _ Try.underlying30 hi hz0 .i64 .i64 n n (Nat.le_refl _) (by rw [hz2]; omega) (by omega) w
  rw [hz1] at hmk
  have hsz0 := madeCells_size (Value.cells (.agg #[.string ⟨#[]⟩, .int .i64 0, .int .i64 0, .int .i64 0, .slice none 0 0])) (n * 5)
  generalize madeCells (Value.cells (.agg #[.string ⟨#[]⟩, .int .i64 0, .int .i64 0, .int .i64 0, .slice none 0 0])) (n * 5) = arr0 at hmk hsz0
  have HSZ := Lib.hid hsz0
  have H := Lib.hid h
  have HF := Lib.hid hf
  clear h hf hsz0 hi hz0 hz1 hz2
  go_enter Try.func9, Try.ntmps9
  go_wp2
  clear hmk
  go_loopw [4] (fun i wr => ∃ (k : Nat) (arr : Array Value), k ≤ n ∧ i = .int .i64 k ∧ Hid (arr.size = n * 5) ∧ Hid (Blk wr w.heap.size 38 arr) ∧ Below w.heap.size w wr ∧ w.heap.size < wr.heap.size ∧ Hid (BellArr wr w.heap.size arr k f)) (fun i _ => n - (intOf i).toNat)
  case atStart => exact ⟨0, arr0, by omega, rfl, HSZ, Blk.new w _ _, (Below.refl _ _).alloc (Nat.le_refl _) _, by simp, fun i hi => by omega⟩
  case round =>
    obtain ⟨k, arr, hk, rfl, hsz, hblk, hbr, hgt, hall⟩ := hrel
    by_cases hlt : k < n
    · have fn := HF.out k hlt
      obtain ⟨b, o, rfl, hrow⟩ := H.out (by omega)
      obtain ⟨AK, CK, c0, c1, c2, c3, c4, c5⟩ := (hrow k hlt).keep hbr
      have HR := Lib.hid hrow
      have C5 := Lib.hid c5
      clear hrow c5
      obtain ⟨x0, hx0⟩ := arr_some (arr := arr) (j := k * 5) (by have := hsz.out; omega)
      obtain ⟨x1, hx1⟩ := arr_some (arr := arr) (j := k * 5 + 1) (by have := hsz.out; omega)
      obtain ⟨x2, hx2⟩ := arr_some (arr := arr) (j := k * 5 + 2) (by have := hsz.out; omega)
      obtain ⟨x3, hx3⟩ := arr_some (arr := arr) (j := k * 5 + 3) (by have := hsz.out; omega)
      obtain ⟨x4, hx4⟩ := arr_some (arr := arr) (j := k * 5 + 4) (by have := hsz.out; omega)
      have HX0 := Lib.hid hx0
      have HX1 := Lib.hid hx1
      have HX2 := Lib.hid hx2
      have HX3 := Lib.hid hx3
      have HX4 := Lib.hid hx4
      clear hx0 hx1 hx2 hx3 hx4
      go_wp2_with fail
      go_at_call 10
      refine (toBell_calls _ _ _ _ _ _ _ _ _ _ C5.out fn).mono ?_
      rintro e w1 ⟨G, rfl, hb, g1, g2, hrow⟩
      have hblk1 : Blk w1 w.heap.size 38 arr := hblk.out.below hb hgt
      have y0 := (Blk.cell hblk1 (k * 5)).trans HX0.out
      have z0 := Blk.frozen hblk1 (k * 5)
      have y1 := (Blk.cell hblk1 (k * 5 + 1)).trans HX1.out
      have z1 := Blk.frozen hblk1 (k * 5 + 1)
      have y2 := (Blk.cell hblk1 (k * 5 + 2)).trans HX2.out
      have z2 := Blk.frozen hblk1 (k * 5 + 2)
      have y3 := (Blk.cell hblk1 (k * 5 + 3)).trans HX3.out
      have z3 := Blk.frozen hblk1 (k * 5 + 3)
      have y4 := (Blk.cell hblk1 (k * 5 + 4)).trans HX4.out
      have z4 := Blk.frozen hblk1 (k * 5 + 4)
      have HB1 := Lib.hid hblk1
      have hnext := fun w2 => hall.out.next (w2 := w2) hsz.out hlt hb hgt g1 g2 hrow
      have HN := Lib.hid hnext
      have hbr2 := Lib.hid (hbr.trans (hb.mono hbr.size))
      have hgt2 := Nat.lt_of_lt_of_le hgt hb.size
      clear hblk1 hb hnext hrow hall hbr g1 g2
      go_wp2
      go_roundw
      case rel => exact ⟨k + 1, _, by omega, by go_num, by have := hsz.out; simpa [Hid] using this, (((((HB1.out.set_ (k * 5) _).set_ (k * 5 + 1) _).set_ (k * 5 + 2) _).set_ (k * 5 + 3) _).set_ (k * 5 + 4) _), (((((hbr2.out.setCell (Nat.le_refl _) _).setCell (Nat.le_refl _) _).setCell (Nat.le_refl _) _).setCell (Nat.le_refl _) _).setCell (Nat.le_refl _) _), by simpa using hgt2, HN.out _ (fun g hg => (Below.heap_setCell _ _ _ _ hg).trans ((Below.heap_setCell _ _ _ _ hg).trans ((Below.heap_setCell _ _ _ _ hg).trans ((Below.heap_setCell _ _ _ _ hg).trans (Below.heap_setCell _ _ _ _ hg))))) (by simp [World.setCell])⟩
      case measure => simp [intOf]; omega
    · obtain rfl : k = n := by omega
      have hfin := Lib.hid (hall.out.row hblk.out)
      clear hall hblk hsz
      go_wp2
      go_ret
      exact ⟨rfl, hbr, hgt, hfin.out⟩
set_option maxHeartbeats 2000000 in
theorem eqBellS_calls (A A2 : Option Addr) (n c c2 : Nat) (f : Nat → BellV) (w : World) (h : BellRow w A n f) (h2 : BellRow w A2 n f) (hf : ∀ i, i < n → (f i).n ≤ 1048576) (hn : n ≤ 1048576) :
    Calls Try.prog 12 #[.slice A n c, .slice A2 n c2] w fun e w' => e = .returned (.bool true) ∧ Below w.heap.size w w' := by
  have H := Lib.hid h
  have H2 := Lib.hid h2
  have HF := Lib.hid hf
  clear h h2 hf
  go_enter Try.func12, Try.ntmps12
  go_wp2
  go_loopw [5] (fun i wr => ∃ k : Nat, k ≤ n ∧ i = .int .i64 k ∧ Below w.heap.size w wr) (fun i _ => n - (intOf i).toNat)
  case atStart => exact ⟨0, by omega, rfl, Below.refl _ _⟩
  case round =>
    obtain ⟨k, hk, rfl, hbr⟩ := hrel
    by_cases hlt : k < n
    · have fn := HF.out k hlt
      obtain ⟨b, o, rfl, hrow⟩ := H.out (by omega)
      obtain ⟨b2, o2, rfl, hrow2⟩ := H2.out (by omega)
      obtain ⟨AK, CK, c0, c1, c2, c3, c4, c5⟩ := (hrow k hlt).keep hbr
      obtain ⟨AL, CL, g0, g1, g2, g3, g4, g5⟩ := (hrow2 k hlt).keep hbr
      have HR := Lib.hid hrow
      have HR2 := Lib.hid hrow2
      clear hrow hrow2
      go_wp2_with fail
      refine wp_gen (fun W0 hW0 => ?_)
      have s0_ : Below w.heap.size w W0 := by rw [hW0]; exact hbr
      have s1_ : ShareRow W0 AK (f k).n (f k).ss (f k).ms := by rw [hW0]; exact c5
      have s2_ : ShareRow W0 AL (f k).n (f k).ss (f k).ms := by rw [hW0]; exact g5
      have s3_ : W0.cell? ⟨b, o + k * 5, none⟩ = some (.string (f k).id) := by rw [hW0]; exact c0
      have s4_ : W0.cell? ⟨b, o + k * 5 + 1, none⟩ = some (.int .i64 (f k).no) := by rw [hW0]; exact c1
      have s5_ : W0.cell? ⟨b, o + k * 5 + 2, none⟩ = some (.int .i64 (f k).ma) := by rw [hW0]; exact c2
      have s6_ : W0.cell? ⟨b, o + k * 5 + 3, none⟩ = some (.int .i64 (f k).fe) := by rw [hW0]; exact c3
      have s7_ : W0.cell? ⟨b, o + k * 5 + 4, none⟩ = some (.slice AK (f k).n CK) := by rw [hW0]; exact c4
      have s8_ : W0.cell? ⟨b2, o2 + k * 5, none⟩ = some (.string (f k).id) := by rw [hW0]; exact g0
      have s9_ : W0.cell? ⟨b2, o2 + k * 5 + 1, none⟩ = some (.int .i64 (f k).no) := by rw [hW0]; exact g1
      have s10_ : W0.cell? ⟨b2, o2 + k * 5 + 2, none⟩ = some (.int .i64 (f k).ma) := by rw [hW0]; exact g2
      have s11_ : W0.cell? ⟨b2, o2 + k * 5 + 3, none⟩ = some (.int .i64 (f k).fe) := by rw [hW0]; exact g3
      have s12_ : W0.cell? ⟨b2, o2 + k * 5 + 4, none⟩ = some (.slice AL (f k).n CL) := by rw [hW0]; exact g4
      clear c0 c1 c2 c3 c4 c5 g0 g1 g2 g3 g4 g5
      clear hW0
      refine wp_region_held_drew (S := fun w' => Below w.heap.size w w' ∧ ShareRow w' AK (f k).n (f k).ss (f k).ms ∧ ShareRow w' AL (f k).n (f k).ss (f k).ms ∧ w'.cell? ⟨b, o + k * 5, none⟩ = some (.string (f k).id) ∧ w'.cell? ⟨b, o + k * 5 + 1, none⟩ = some (.int .i64 (f k).no) ∧ w'.cell? ⟨b, o + k * 5 + 2, none⟩ = some (.int .i64 (f k).ma) ∧ w'.cell? ⟨b, o + k * 5 + 3, none⟩ = some (.int .i64 (f k).fe) ∧ w'.cell? ⟨b, o + k * 5 + 4, none⟩ = some (.slice AK (f k).n CK) ∧ w'.cell? ⟨b2, o2 + k * 5, none⟩ = some (.string (f k).id) ∧ w'.cell? ⟨b2, o2 + k * 5 + 1, none⟩ = some (.int .i64 (f k).no) ∧ w'.cell? ⟨b2, o2 + k * 5 + 2, none⟩ = some (.int .i64 (f k).ma) ∧ w'.cell? ⟨b2, o2 + k * 5 + 3, none⟩ = some (.int .i64 (f k).fe) ∧ w'.cell? ⟨b2, o2 + k * 5 + 4, none⟩ = some (.slice AL (f k).n CL)) (by kernel_rfl) ?_ (fun hHeld => ?_)
      · exact ⟨s0_.drew, s1_, s2_, s3_, s4_, s5_, s6_, s7_, s8_, s9_, s10_, s11_, s12_⟩
      clear s0_ s1_ s2_ s3_ s4_ s5_ s6_ s7_ s8_ s9_ s10_ s11_ s12_
      refine take_yes (i := 0) (d := 17) (v := ?_) _ rfl rfl (by kernel_rfl) (by kernel_rfl) (by kernel_rfl) (fun _ _ _ _ h => h) (by rfl) ?_ (by assumption) ?_
      rotate_left 1
      · ((intro w hSw; (try dsimp only at hSw); go_simp) <;> (try with_reducible rfl))
      (try simp only [Act.put, List.setIfInBounds_toArray, List.set_cons_zero, List.set_cons_succ])
      refine take_yes (i := 1) (d := 18) (v := ?_) _ rfl rfl (by kernel_rfl) (by kernel_rfl) (by kernel_rfl) (fun _ _ _ _ h => h) (by rfl) ?_ (by assumption) ?_
      rotate_left 1
      · ((intro w hSw; (try dsimp only at hSw); go_simp) <;> (try with_reducible rfl))
      (try simp only [Act.put, List.setIfInBounds_toArray, List.set_cons_zero, List.set_cons_succ])
      refine take_yes (i := 2) (d := 19) (v := ?_) _ rfl rfl (by kernel_rfl) (by kernel_rfl) (by kernel_rfl) (fun _ _ _ _ h => h) (by rfl) ?_ (by assumption) ?_
      rotate_left 1
      · ((intro w hSw; (try dsimp only at hSw); go_simp) <;> (try with_reducible rfl))
      (try simp only [Act.put, List.setIfInBounds_toArray, List.set_cons_zero, List.set_cons_succ])
      refine take_yes (i := 3) (d := 20) (v := ?_) _ rfl rfl (by kernel_rfl) (by kernel_rfl) (by kernel_rfl) (fun _ _ _ _ h => h) (by rfl) ?_ (by assumption) ?_
      rotate_left 1
      · ((intro w hSw; (try dsimp only at hSw); go_simp) <;> (try with_reducible rfl))
      (try simp only [Act.put, List.setIfInBounds_toArray, List.set_cons_zero, List.set_cons_succ])
      refine take_yes (i := 4) (d := 21) (v := ?_) _ rfl rfl (by kernel_rfl) (by kernel_rfl) (by kernel_rfl) (fun _ _ _ _ h => h) (by rfl) ?_ (by assumption) ?_
      rotate_left 1
      · ((intro w hSw; (try dsimp only at hSw); go_simp) <;> (try with_reducible rfl))
      (try simp only [Act.put, List.setIfInBounds_toArray, List.set_cons_zero, List.set_cons_succ])
      refine take_yes (i := 5) (d := 22) (v := ?_) _ rfl rfl (by kernel_rfl) (by kernel_rfl) (by kernel_rfl) (fun _ _ _ _ h => h) (by rfl) ?_ (by assumption) ?_
      rotate_left 1
      · ((intro w hSw; (try dsimp only at hSw); go_simp) <;> (try with_reducible rfl))
      (try simp only [Act.put, List.setIfInBounds_toArray, List.set_cons_zero, List.set_cons_succ])
      refine take_yes (i := 6) (d := 23) (v := ?_) _ rfl rfl (by kernel_rfl) (by kernel_rfl) (by kernel_rfl) (fun _ _ _ _ h => h) (by rfl) ?_ (by assumption) ?_
      rotate_left 1
      · ((intro w hSw; (try dsimp only at hSw); go_simp) <;> (try with_reducible rfl))
      (try simp only [Act.put, List.setIfInBounds_toArray, List.set_cons_zero, List.set_cons_succ])
      refine take_yes (i := 7) (d := 24) (v := ?_) _ rfl rfl (by kernel_rfl) (by kernel_rfl) (by kernel_rfl) (fun _ _ _ _ h => h) (by rfl) ?_ (by assumption) ?_
      rotate_left 1
      · ((intro w hSw; (try dsimp only at hSw); go_simp) <;> (try with_reducible rfl))
      (try simp only [Act.put, List.setIfInBounds_toArray, List.set_cons_zero, List.set_cons_succ])
      (refine wpAnyH_ready (rs := [8]) (by kernel_rfl) (by simp) ?_; refine AllReadyH.cons rfl (fun K hK => ?_) AllReadyH.nil; go_simp; go_at_call 14; refine (eqBell_calls _ _ _ _ _ _ _ _ _ _ _ _ hHeld.2.1 hHeld.2.2.1 fn).mono ?_; rintro e wd ⟨rfl, hb⟩; refine hK.out _ _ (by obtain ⟨x0_, x1_, x2_, x3_, x4_, x5_, x6_, x7_, x8_, x9_, x10_, x11_, x12_⟩ := hHeld; exact ⟨x0_.trans (hb.mono x0_.size), x1_.keep hb, x2_.keep hb, cell_keep hb x3_, cell_keep hb x4_, cell_keep hb x5_, cell_keep hb x6_, cell_keep hb x7_, cell_keep hb x8_, cell_keep hb x9_, cell_keep hb x10_, cell_keep hb x11_, cell_keep hb x12_⟩) (fun hHeld2 => ?_); clear hK K hHeld hb; have hHeld := hHeld2; clear hHeld2; (try simp only [Act.put, List.setIfInBounds_toArray, List.set_cons_zero, List.set_cons_succ]))
      refine take_yes (i := 9) (d := 26) (v := ?_) _ rfl rfl (by kernel_rfl) (by kernel_rfl) (by kernel_rfl) (fun _ _ _ _ h => h) (by rfl) ?_ (by assumption) ?_
      rotate_left 1
      · ((intro w hSw; (try dsimp only at hSw); go_simp) <;> (try with_reducible rfl))
      (try simp only [Act.put, List.setIfInBounds_toArray, List.set_cons_zero, List.set_cons_succ])
      refine wpAnyH_done (by kernel_rfl) ?_ _
      obtain ⟨z0, z1, z2, z3, z4, z5, z6, z7, z8, z9, z10, z11, z12⟩ := hHeld
      go_wp2
      go_roundw
      case rel => exact ⟨k + 1, by omega, by go_num, z0⟩
      case measure => simp [intOf]; omega
    · obtain rfl : k = n := by omega
      go_wp2
      go_ret
      exact ⟨rfl, hbr⟩
open Go.ChangeShapes Go.WideShapes Go.Deep in
theorem openBellS {H : Type} {enc : TypeId × Value → H} {w : World} {base : Nat} {spare : Nat → Bool} {held : Bool} {fuel : Nat} {A : Option Addr} {n c : Nat} {x : DataW H × List MemPlace} (h : DataW.trod enc Try.prog w base spare held fuel 23 [.slice A n c] = some x) :
    ∃ f, BellRow w A n f ∧ n ≤ maxLen ∧ ∀ i, i < n → Fit (f i) := by
  rcases open_slice Try.underlying23 h with ⟨hcs, hx⟩ | ⟨a, len, cap, m, fu, D, Pl, hcs, hb, hl, hm, hmm, hx, hi⟩
  · simp only [List.cons.injEq, Value.slice.injEq, and_true] at hcs
    obtain ⟨rfl, rfl, rfl⟩ := hcs
    exact ⟨fun _ => ⟨⟨#[]⟩, 0, 0, 0, 0, fun _ => ⟨#[]⟩, fun _ => 0⟩, fun h0 => by omega, by unfold maxLen; omega, fun i h0 => by omega⟩
  · simp only [List.cons.injEq, Value.slice.injEq, and_true] at hcs
    obtain ⟨rfl, rfl, rfl⟩ := hcs
    have hlm : n ≤ m := by rw [hmm]; split <;> omega
    have hC : Try.prog.cellsOf 26 = 5 := by kernel_rfl
    rw [hC] at hi
    have hall : ∀ i, ∃ t : BellV, i < n → BellAt w a.block (a.off + i * 5) t ∧ Fit t := by
      intro i
      by_cases hin : i < n
      · obtain ⟨cs, hc, ht⟩ := hi i (by omega)
        obtain ⟨-, hcl, hat⟩ := Go.World.cells?_some hc
        obtain ⟨hln, m2, hg⟩ := fields_of Try.underlying26 (by kernel_rfl) (by kernel_rfl) ht
        obtain ⟨v0, v1, v2, v3, v4, rfl⟩ := list5 hln
        obtain ⟨y0, t0⟩ := hg 0 _ rfl v0 rfl
        obtain ⟨y1, t1⟩ := hg 1 _ rfl v1 rfl
        obtain ⟨y2, t2⟩ := hg 2 _ rfl v2 rfl
        obtain ⟨y3, t3⟩ := hg 3 _ rfl v3 rfl
        obtain ⟨y4, t4⟩ := hg 4 _ rfl v4 rfl
        have k0 := hat 0 (by omega)
        have k1 := hat 1 (by omega)
        have k2 := hat 2 (by omega)
        have k3 := hat 3 (by omega)
        have k4 := hat 4 (by omega)
        obtain ⟨x0, e0, _, q0⟩ := DataW.trod_string Try.underlying9 t0
        obtain rfl := one_cell e0
        obtain ⟨x1, e1, _, q1⟩ := DataW.trod_int Try.underlying2 t1
        obtain rfl := one_cell e1
        obtain ⟨x2, e2, _, q2⟩ := DataW.trod_int Try.underlying2 t2
        obtain rfl := one_cell e2
        obtain ⟨x3, e3, _, q3⟩ := DataW.trod_int Try.underlying2 t3
        obtain rfl := one_cell e3
        obtain ⟨SA, sn, sc, rfl⟩ := slice_cell Try.underlying24 t4
        obtain ⟨ss, ms, hr, hsn, hss, hms⟩ := openShareS t4
        exact ⟨⟨x0, x1, x2, x3, sn, ss, ms⟩, fun _ => ⟨⟨SA, sc, cell_add2 k0 (by omega), cell_add2 k1 (by omega), cell_add2 k2 (by omega), cell_add2 k3 (by omega), cell_add2 k4 (by omega), hr⟩, q0, hss, hsn⟩⟩
      · exact ⟨⟨⟨#[]⟩, 0, 0, 0, 0, fun _ => ⟨#[]⟩, fun _ => 0⟩, fun h0 => absurd h0 hin⟩
    obtain ⟨F, hF⟩ := Classical.axiomOfChoice hall
    refine ⟨F, fun hn => ?_, by omega, fun i h0 => (hF i h0).2⟩
    refine ⟨a.block, a.off, ?_, fun i h0 => (hF i h0).1⟩
    obtain ⟨b, o, spot⟩ := a
    obtain ⟨cs, hc, ht⟩ := hi 0 (by omega)
    obtain ⟨-, hcl, hat⟩ := Go.World.cells?_some hc
    have k0 := hat 0 (by omega)
    rw [List.getElem?_eq_getElem (show 0 < cs.length by omega)] at k0
    have hspot : spot = none := by simpa [Addr.add] using Go.World.cell?_spot k0
    rw [hspot]
theorem fine_of {f : Nat → BellV} {n : Nat} (h : ∀ i, i < n → Fit (f i)) (hs : n + sumB f n ≤ 1048576) : ∀ i, i < n → Fine (f i) := fun i hi => by
  obtain ⟨a, b, c⟩ := h i hi
  have := sumB_one f hi
  exact ⟨a, b, by unfold bellSz at this; omega⟩
end Go.Proofs.Yticnpibkpfpojaa
