/- Lists of profiles: how they read; size, copy, comparison; what mark does with them. -/
import Derived.Test.YtonoeohmpaegdaaProfC
import Derived.Test.YtonoeohmpaegdaaMarkT
import Derived.Test.YtonoeohmpaegdaaKin
namespace Go.Proofs.Ytonoeohmpaegdaa
set_option linter.unusedVariables false
set_option linter.unusedSimpArgs false
open Go.RowKit

theorem RingRow.keep {w w' : World} {A : Option Addr} {n : Nat} {p q h : Nat → Int} (hr : RingRow w A n p q h) (hb : Below w.heap.size w w') : RingRow w' A n p q h := hr.below hb (Nat.le_refl _)
/-- a profile, whatever memory it lies in -/
structure ProfV where
  id : ByteArray
  n : Nat
  p : Nat → Int
  q : Nat → Int
  h : Nat → Int
def ProfAt (w : World) (b o : Nat) (x : ProfV) : Prop := ∃ A c, w.cell? ⟨b, o, none⟩ = some (.string x.id) ∧ w.cell? ⟨b, o + 1, none⟩ = some (.slice A x.n c) ∧ RingRow w A x.n x.p x.q x.h
def ProfRow (w : World) (A : Option Addr) (n : Nat) (f : Nat → ProfV) : Prop := 0 < n → ∃ b o, A = some ⟨b, o, none⟩ ∧ ∀ i, i < n → ProfAt w b (o + i * 2) (f i)
theorem ProfAt.keep {w w' : World} {b o : Nat} {x : ProfV} (h : ProfAt w b o x) (hb : Below w.heap.size w w') : ProfAt w' b o x := by
  obtain ⟨A, c, h0, h1, h2⟩ := h
  exact ⟨A, c, cell_keep hb h0, cell_keep hb h1, h2.below hb (Nat.le_refl _)⟩
theorem ProfRow.keep {w w' : World} {A : Option Addr} {n : Nat} {f : Nat → ProfV} (h : ProfRow w A n f) (hb : Below w.heap.size w w') : ProfRow w' A n f := fun hn => by
  obtain ⟨b, o, hA, hall⟩ := h hn
  exact ⟨b, o, hA, fun i hi => (hall i hi).keep hb⟩
theorem ProfRow.below {w w' : World} {A : Option Addr} {n B : Nat} {f : Nat → ProfV} (h : ProfRow w A n f) (hb : Below B w w') (hB : w.heap.size ≤ B) : ProfRow w' A n f := h.keep (hb.mono hB)
noncomputable def profV (x : ProfV) : Bool := profB x.id x.n x.p x.q x.h
def FineP (x : ProfV) : Prop := x.id.size ≤ maxLen ∧ x.n ≤ 1048576
/-- values and letters of a profile -/
def profSz (x : ProfV) : Nat := x.id.size + x.n
def sumP (f : Nat → ProfV) : Nat → Nat
  | 0 => 0
  | n + 1 => sumP f n + profSz (f n)
theorem sumP_le (f : Nat → ProfV) {k n : Nat} (h : k ≤ n) : sumP f k ≤ sumP f n := by
  induction n with
  | zero => obtain rfl : k = 0 := by omega
            exact Nat.le_refl _
  | succ m ih =>
    rcases Nat.lt_or_ge k (m + 1) with h1 | h1
    · exact Nat.le_trans (ih (by omega)) (Nat.le_add_right _ _)
    · obtain rfl : k = m + 1 := by omega
      exact Nat.le_refl _
theorem sumP_one (f : Nat → ProfV) {i n : Nat} (h : i < n) : profSz (f i) ≤ sumP f n := by
  have := sumP_le f (show i + 1 ≤ n by omega)
  have e : sumP f (i + 1) = sumP f i + profSz (f i) := rfl
  omega
theorem sumN_P (f : Nat → ProfV) : ∀ n, sumN (fun i => (f i).n) n ≤ sumP f n
  | 0 => Nat.le_refl _
  | n + 1 => by
    have := sumN_P f n
    show sumN _ n + (f n).n ≤ sumP f n + ((f n).id.size + (f n).n)
    omega
/-- what a list must be for its size to be asked -/
def FitP (x : ProfV) : Prop := x.id.size ≤ maxLen ∧ x.n ≤ maxLen
theorem szP_if (l : Int) (x : ProfV) : szP l x.id x.n = if l < (profSz x : Int) then -1 else l - profSz x := by
  unfold szP profSz
  have e : ((x.id.size + x.n : Nat) : Int) = x.id.size + (x.n : Int) := by omega
  rw [e]
theorem fineP_of {f : Nat → ProfV} {n : Nat} (h : ∀ i, i < n → FitP (f i)) (hs : n + sumP f n ≤ 1048576) : ∀ i, i < n → FineP (f i) := fun i hi => by
  obtain ⟨a, b⟩ := h i hi
  have := sumP_one f hi
  exact ⟨a, by unfold profSz at this; omega⟩
set_option maxHeartbeats 1000000 in
theorem szProfileS_calls (A : Option Addr) (n c : Nat) (f : Nat → ProfV) (left : Int) (w : World) (h : ProfRow w A n f) (hs : ∀ i, i < n → FitP (f i)) (hn : n ≤ maxLen) (h0 : 0 ≤ left) (h1 : left ≤ 4611686018427387904) :
    Calls Try.prog 5 #[.slice A n c, .int .i64 left] w fun e w' => e = .returned (.int .i64 (if left < (n : Int) + sumP f n then -1 else left - ((n : Int) + sumP f n))) ∧ Below w.heap.size w w' := by
  unfold maxLen at hn
  by_cases hl : left < n
  · rw [if_pos (by omega)]
    go_enter Try.func5, Try.ntmps5
    go_wp2
    go_ret
    exact ⟨rfl, Below.refl _ _⟩
  · have H := Lib.hid h
    have HS := Lib.hid hs
    clear h hs
    generalize hres : (if left < (n : Int) + sumP f n then (-1 : Int) else left - ((n : Int) + sumP f n)) = R
    have HRES := Lib.hid hres
    clear hres
    go_enter Try.func5, Try.ntmps5
    go_wp2
    go_loopw [1, 5] (fun l i wr => ∃ k q : Nat, k ≤ n ∧ l = .int .i64 (left - n - q) ∧ i = .int .i64 k ∧ (q : Int) ≤ left - n ∧ Hid (q = sumP f k) ∧ Below w.heap.size w wr) (fun _ i _ => n - (intOf i).toNat)
    case atStart => exact ⟨0, 0, by omega, by simp, rfl, by omega, rfl, Below.refl _ _⟩
    case round =>
      obtain ⟨k, q, hk, rfl, rfl, hq, hv, hbr⟩ := hrel
      by_cases hlt : k < n
      · obtain ⟨fid, fn⟩ := HS.out k hlt
        have hmono := sumP_le f (show k + 1 ≤ n by omega)
        have hstep : Hid (sumP f (k + 1) = sumP f k + profSz (f k)) := rfl
        have hmono2 := Lib.hid hmono
        clear hmono
        obtain ⟨b, o, rfl, hall⟩ := H.out (by omega)
        obtain ⟨AK, CK, c0, c1, c2⟩ := (hall k hlt).keep hbr
        have HALL := Lib.hid hall
        clear hall c2
        by_cases hbig : left - n - q < profSz (f k)
        · go_wp2_with (go_at_call 31; refine (szProfile_calls (f k).id AK (f k).n CK (f k).p (f k).q (f k).h _ _ fid fn (by omega) (by omega)).mono ?_; rw [szP_if, if_pos hbig]; rintro e w1 ⟨rfl, hb⟩; have hbr2 : Below w.heap.size w w1 := hbr.trans (hb.mono hbr.size); clear hb)
          go_ret
          exact ⟨ret_int (by have h1 := hv.out; have h2 := hstep.out; have h3 := hmono2.out; rw [← HRES.out, if_pos (by omega)]), hbr2⟩
        · go_wp2_with (go_at_call 31; refine (szProfile_calls (f k).id AK (f k).n CK (f k).p (f k).q (f k).h _ _ fid fn (by omega) (by omega)).mono ?_; rw [szP_if, if_neg hbig]; rintro e w1 ⟨rfl, hb⟩; have hbr2 : Below w.heap.size w w1 := hbr.trans (hb.mono hbr.size); clear hb)
          go_roundw
          case rel => exact ⟨k + 1, q + profSz (f k), by omega, by congr 1; omega, by go_num, by omega, Lib.hid (by have h1 := hv.out; have h2 := hstep.out; omega), hbr2⟩
          case measure => simp [intOf]; omega
      · obtain rfl : k = n := by omega
        have hfin : Hid (left - (k : Int) - q = R) := Lib.hid (by
          have h1 := hv.out
          rw [← HRES.out, if_neg (by omega)]; omega)
        go_wp2
        go_ret
        exact ⟨ret_int hfin.out, hbr⟩
/-- the first m profiles of a block's cells, each with its rings in a block of their own behind block base -/
def ProfArr (w : World) (base : Nat) (arr : Array Value) (m : Nat) (f : Nat → ProfV) : Prop := ∀ i, i < m → arr[i * 2]? = some (.string (f i).id) ∧ ∃ g c, base < g ∧ g < w.heap.size ∧ arr[i * 2 + 1]? = some (.slice (some ⟨g, 0, none⟩) (f i).n c) ∧ RingOwn w (some ⟨g, 0, none⟩) (f i).n (f i).p (f i).q (f i).h g
theorem ProfArr.next {w w1 w2 : World} {base n k G : Nat} {arr : Array Value} {f : Nat → ProfV} (h : ProfArr w base arr k f) (hs : arr.size = n * 2) (hk : k < n) (hb : Below w.heap.size w w1) (hg : base < w.heap.size) (h1 : w.heap.size ≤ G) (h2 : G < w1.heap.size) (hr : RingOwn w1 (some ⟨G, 0, none⟩) (f k).n (f k).p (f k).q (f k).h G)
    (hw : ∀ g, g ≠ base → w2.heap[g]? = w1.heap[g]?) (hz : w1.heap.size = w2.heap.size) : ProfArr w2 base ((arr.setIfInBounds (k * 2) (.string (f k).id)).setIfInBounds (k * 2 + 1) (.slice (some ⟨G, 0, none⟩) (f k).n (f k).n)) (k + 1) f := by
  intro i hi
  rcases Nat.lt_or_ge i k with q | q
  · obtain ⟨a0, g, c, g1, g2, g3, g4⟩ := h i q
    refine ⟨?_, g, c, g1, ?_, ?_, ?_⟩
    · simp (disch := omega) only [Array.getElem?_setIfInBounds_ne]; exact a0
    · have := hb.size; omega
    · simp (disch := omega) only [Array.getElem?_setIfInBounds_ne]; exact g3
    · exact (g4.keep hb).same (hw g (by omega))
  · obtain rfl : i = k := by omega
    refine ⟨?_, G, (f i).n, by omega, by omega, ?_, hr.same (hw G (by omega))⟩
    · rw [Array.getElem?_setIfInBounds_ne (by omega), Array.getElem?_setIfInBounds_self_of_lt (by (try simp); omega)]
    · rw [Array.getElem?_setIfInBounds_self_of_lt (by (try simp); omega)]
theorem ProfArr.row {w : World} {g T n : Nat} {arr : Array Value} {f : Nat → ProfV} (h : ProfArr w g arr n f) (hb : Blk w g T arr) : ProfRow w (some ⟨g, 0, none⟩) n f := fun _ =>
  ⟨g, 0, rfl, fun i hi => by
    obtain ⟨a0, G, c, g1, g2, g3, g4⟩ := h i hi
    rw [Nat.zero_add]
    exact ⟨_, c, (hb.cell _).trans a0, (hb.cell _).trans g3, g4.row⟩⟩
/-- a row of rings in blocks lo .. hi, whatever its values -/
def RingShape (w : World) (A : Option Addr) (n lo hi : Nat) : Prop := 0 < n → ∃ (g : Nat) (T : TypeId) (arr : Array Value), A = some ⟨g, 0, none⟩ ∧ lo ≤ g ∧ g < hi ∧ Blk w g T arr ∧ ∀ i, i < n → (∃ m, arr[i * 3]? = some (.int .i64 m)) ∧ (∃ m, arr[i * 3 + 1]? = some (.int .i64 m)) ∧ ∃ m, arr[i * 3 + 2]? = some (.int .i64 m)
theorem RingShape.kin {w w' : World} {A : Option Addr} {n lo hi : Nat} (h : RingShape w A n lo hi) (hk : Kin lo hi w w') : RingShape w' A n lo hi := fun hn => by
  obtain ⟨g, T, arr, hA, h1, h2, hb, ha⟩ := h hn
  obtain ⟨a', b', -, e'⟩ := hk.near g T arr h1 h2 hb
  exact ⟨g, T, a', hA, h1, h2, b', fun i hi => by
    obtain ⟨⟨s, hs⟩, ⟨m, hm⟩, m2, hm2⟩ := ha i hi
    exact ⟨kin_int (e' _) hs, kin_int (e' _) hm, kin_int (e' _) hm2⟩⟩
/-- a row of profiles in blocks lo .. hi, whatever its values -/
def ProfShape (w : World) (A : Option Addr) (n : Nat) (ns : Nat → Nat) (lo hi : Nat) : Prop := 0 < n → ∃ (g : Nat) (T : TypeId) (arr : Array Value), A = some ⟨g, 0, none⟩ ∧ lo ≤ g ∧ g < hi ∧ Blk w g T arr ∧ ∀ i, i < n → (∃ s, arr[i * 2]? = some (.string s)) ∧ ∃ A2 c2, arr[i * 2 + 1]? = some (.slice A2 (ns i) c2) ∧ RingShape w A2 (ns i) lo hi
theorem ProfShape.kin {w w' : World} {A : Option Addr} {n lo hi : Nat} {ns : Nat → Nat} (h : ProfShape w A n ns lo hi) (hk : Kin lo hi w w') : ProfShape w' A n ns lo hi := fun hn => by
  obtain ⟨g, T, arr, hA, h1, h2, hb, ha⟩ := h hn
  obtain ⟨a', b', -, e'⟩ := hk.near g T arr h1 h2 hb
  exact ⟨g, T, a', hA, h1, h2, b', fun i hi => by
    obtain ⟨⟨s, hs⟩, A2, c2, hA2, hsh⟩ := ha i hi
    exact ⟨kin_string (e' _) hs, A2, c2, kin_slice (e' _) hA2, hsh.kin hk⟩⟩
theorem ProfArr.shape {w : World} {g T n : Nat} {arr : Array Value} {f : Nat → ProfV} (h : ProfArr w g arr n f) (hb : Blk w g T arr) : ProfShape w (some ⟨g, 0, none⟩) n (fun i => (f i).n) g w.heap.size := fun hn => by
  refine ⟨g, T, arr, rfl, Nat.le_refl _, hb.lt, hb, fun i hi => ?_⟩
  obtain ⟨a0, G, c, g1, g2, g3, g4⟩ := h i hi
  refine ⟨⟨_, a0⟩, _, c, g3, fun h0 => ?_⟩
  obtain ⟨-, arr2, hb2, -, ha2⟩ := g4 h0
  exact ⟨G, _, arr2, rfl, by omega, g2, hb2, fun j hj => ⟨⟨_, (ha2 j hj).1⟩, ⟨_, (ha2 j hj).2.1⟩, _, (ha2 j hj).2.2⟩⟩
theorem Prof_info : (Try.prog.info? 69).map (fun i => (i.zero, i.size, i.bytes)) = some (some (.agg #[.string ⟨#[]⟩, .slice none 0 0]), 2, 40) := by kernel_rfl
set_option maxHeartbeats 2000000 in
theorem toProfileS_calls (A : Option Addr) (n c : Nat) (f : Nat → ProfV) (w : World) (h : ProfRow w A n f) (hf : ∀ i, i < n → (f i).n ≤ 1048576) (hn : n ≤ 1048576) :
    Calls Try.prog 8 #[.slice A n c] w fun e w' => e = .returned (.slice (some ⟨w.heap.size, 0, none⟩) n n) ∧ Below w.heap.size w w' ∧ w.heap.size < w'.heap.size ∧ ProfRow w' (some ⟨w.heap.size, 0, none⟩) n f ∧ ProfShape w' (some ⟨w.heap.size, 0, none⟩) n (fun i => (f i).n) w.heap.size w'.heap.size := by
  obtain ⟨ie, hi, hz0, hz1, hz2⟩ := info_parts Prof_info
  have hmk := run_make_rowN (P := Try.prog) 29 69 ie _ Try.underlying29 hi hz0 .i64 .i64 n n (Nat.le_refl _) (by rw [hz2]; omega) (by omega) w
  rw [hz1] at hmk
  have hsz0 := madeCells_size (Value.cells (.agg #[.string ⟨#[]⟩, .slice none 0 0])) (n * 2)
  generalize madeCells (Value.cells (.agg #[.string ⟨#[]⟩, .slice none 0 0])) (n * 2) = arr0 at hmk hsz0
  have HSZ := Lib.hid hsz0
  have H := Lib.hid h
  have HF := Lib.hid hf
  clear h hf hsz0 hi hz0 hz1 hz2
  go_enter Try.func8, Try.ntmps8
  go_wp2
  clear hmk
  go_loopw [4] (fun i wr => ∃ (k : Nat) (arr : Array Value), k ≤ n ∧ i = .int .i64 k ∧ Hid (arr.size = n * 2) ∧ Hid (Blk wr w.heap.size 69 arr) ∧ Below w.heap.size w wr ∧ w.heap.size < wr.heap.size ∧ Hid (ProfArr wr w.heap.size arr k f)) (fun i _ => n - (intOf i).toNat)
  case atStart => exact ⟨0, arr0, by omega, rfl, HSZ, Blk.new w _ _, (Below.refl _ _).alloc (Nat.le_refl _) _, by simp, fun i hi => by omega⟩
  case round =>
    obtain ⟨k, arr, hk, rfl, hsz, hblk, hbr, hgt, hall⟩ := hrel
    by_cases hlt : k < n
    · have fn := HF.out k hlt
      obtain ⟨b, o, rfl, hrow⟩ := H.out (by omega)
      obtain ⟨AK, CK, c0, c1, c2⟩ := (hrow k hlt).keep hbr
      have HR := Lib.hid hrow
      have C5 := Lib.hid c2
      clear hrow c2
      obtain ⟨x0, hx0⟩ := arr_some (arr := arr) (j := k * 2) (by have := hsz.out; omega)
      obtain ⟨x1, hx1⟩ := arr_some (arr := arr) (j := k * 2 + 1) (by have := hsz.out; omega)
      have HX0 := Lib.hid hx0
      have HX1 := Lib.hid hx1
      clear hx0 hx1
      go_wp2_with fail
      go_at_call 39
      refine (toProfile_calls _ _ _ _ _ _ _ _ C5.out fn).mono ?_
      rintro e w1 ⟨G, rfl, hb, g1, g2, hrow⟩
      have hblk1 : Blk w1 w.heap.size 69 arr := hblk.out.below hb hgt
      have y0 := (Blk.cell hblk1 (k * 2)).trans HX0.out
      have z0 := Blk.frozen hblk1 (k * 2)
      have y1 := (Blk.cell hblk1 (k * 2 + 1)).trans HX1.out
      have z1 := Blk.frozen hblk1 (k * 2 + 1)
      have HB1 := Lib.hid hblk1
      have hnext := fun w2 => hall.out.next (w2 := w2) hsz.out hlt hb hgt g1 g2 hrow
      have HN := Lib.hid hnext
      have hbr2 := Lib.hid (hbr.trans (hb.mono hbr.size))
      have hgt2 := Nat.lt_of_lt_of_le hgt hb.size
      clear hblk1 hb hnext hrow hall hbr g1 g2
      go_wp2
      go_roundw
      case rel => exact ⟨k + 1, _, by omega, by go_num, by have := hsz.out; simpa [Hid] using this, (HB1.out.set_ (k * 2) _).set_ (k * 2 + 1) _, (hbr2.out.setCell (Nat.le_refl _) _).setCell (Nat.le_refl _) _, by simpa using hgt2, HN.out _ (fun g hg => by
        repeat (refine (Below.heap_setCell _ _ _ _ (by simpa using hg)).trans ?_)
        rfl) (by simp)⟩
      case measure => simp [intOf]; omega
    · obtain rfl : k = n := by omega
      have hfin := Lib.hid (⟨hall.out.row hblk.out, hall.out.shape hblk.out⟩ : ProfRow wr (some ⟨w.heap.size, 0, none⟩) k f ∧ ProfShape wr (some ⟨w.heap.size, 0, none⟩) k (fun i => (f i).n) w.heap.size wr.heap.size)
      clear hall hblk hsz
      go_wp2
      go_ret
      exact ⟨rfl, hbr, hgt, hfin.out⟩
set_option maxHeartbeats 2000000 in
theorem eqProfileS_calls (A A2 : Option Addr) (n c c2 : Nat) (f : Nat → ProfV) (w : World) (h : ProfRow w A n f) (h2 : ProfRow w A2 n f) (hf : ∀ i, i < n → (f i).n ≤ 1048576) (hn : n ≤ 1048576) :
    Calls Try.prog 12 #[.slice A n c, .slice A2 n c2] w fun e w' => e = .returned (.bool true) ∧ Below w.heap.size w w' := by
  have H := Lib.hid h
  have H2 := Lib.hid h2
  have HF := Lib.hid hf
  clear h h2 hf
  go_enter Try.func12, Try.ntmps12
  go_wp2
  go_loopw [5] (fun i wr => ∃ k : Nat, k ≤ n ∧ i = .int .i64 k ∧ Below w.heap.size w wr) (fun i _ => n - (intOf i).toNat)
  case atStart => exact ⟨0, by omega, rfl, Below.refl _ _⟩
  case round =>
    obtain ⟨k, hk, rfl, hbr⟩ := hrel
    by_cases hlt : k < n
    · have fn := HF.out k hlt
      obtain ⟨b, o, rfl, hrow⟩ := H.out (by omega)
      obtain ⟨b2, o2, rfl, hrow2⟩ := H2.out (by omega)
      obtain ⟨AK, CK, c0, c1, c5⟩ := (hrow k hlt).keep hbr
      obtain ⟨AL, CL, g0, g1, g5⟩ := (hrow2 k hlt).keep hbr
      have HR := Lib.hid hrow
      have HR2 := Lib.hid hrow2
      clear hrow hrow2
      go_wp2_with fail
      refine wp_gen (fun W0 hW0 => ?_)
      have s0_ : Below w.heap.size w W0 := by rw [hW0]; exact hbr
      have s1_ : RingRow W0 AK (f k).n (f k).p (f k).q (f k).h := by rw [hW0]; exact c5
      have s2_ : RingRow W0 AL (f k).n (f k).p (f k).q (f k).h := by rw [hW0]; exact g5
      have s3_ : W0.cell? ⟨b, o + k * 2, none⟩ = some (.string (f k).id) := by rw [hW0]; exact c0
      have s4_ : W0.cell? ⟨b, o + k * 2 + 1, none⟩ = some (.slice AK (f k).n CK) := by rw [hW0]; exact c1
      have s5_ : W0.cell? ⟨b2, o2 + k * 2, none⟩ = some (.string (f k).id) := by rw [hW0]; exact g0
      have s6_ : W0.cell? ⟨b2, o2 + k * 2 + 1, none⟩ = some (.slice AL (f k).n CL) := by rw [hW0]; exact g1
      clear c0 c1 c5 g0 g1 g5
      clear hW0
      refine wp_region_held_drew (S := fun w' => Below w.heap.size w w' ∧ RingRow w' AK (f k).n (f k).p (f k).q (f k).h ∧ RingRow w' AL (f k).n (f k).p (f k).q (f k).h ∧ w'.cell? ⟨b, o + k * 2, none⟩ = some (.string (f k).id) ∧ w'.cell? ⟨b, o + k * 2 + 1, none⟩ = some (.slice AK (f k).n CK) ∧ w'.cell? ⟨b2, o2 + k * 2, none⟩ = some (.string (f k).id) ∧ w'.cell? ⟨b2, o2 + k * 2 + 1, none⟩ = some (.slice AL (f k).n CL)) (by kernel_rfl) ?_ (fun hHeld => ?_)
      · exact ⟨s0_.drew, s1_, s2_, s3_, s4_, s5_, s6_⟩
      clear s0_ s1_ s2_ s3_ s4_ s5_ s6_
      refine take_yes (i := 0) (d := 17) (v := ?_) _ rfl rfl (by kernel_rfl) (by kernel_rfl) (by kernel_rfl) (fun _ _ _ _ h => h) (by rfl) ?_ (by assumption) ?_
      rotate_left 1
      · ((intro w hSw; (try dsimp only at hSw); go_simp) <;> (try with_reducible rfl))
      (try simp only [Act.put, List.setIfInBounds_toArray, List.set_cons_zero, List.set_cons_succ])
      refine take_yes (i := 1) (d := 18) (v := ?_) _ rfl rfl (by kernel_rfl) (by kernel_rfl) (by kernel_rfl) (fun _ _ _ _ h => h) (by rfl) ?_ (by assumption) ?_
      rotate_left 1
      · ((intro w hSw; (try dsimp only at hSw); go_simp) <;> (try with_reducible rfl))
      (try simp only [Act.put, List.setIfInBounds_toArray, List.set_cons_zero, List.set_cons_succ])
      refine take_yes (i := 2) (d := 19) (v := ?_) _ rfl rfl (by kernel_rfl) (by kernel_rfl) (by kernel_rfl) (fun _ _ _ _ h => h) (by rfl) ?_ (by assumption) ?_
      rotate_left 1
      · ((intro w hSw; (try dsimp only at hSw); go_simp) <;> (try with_reducible rfl))
      (try simp only [Act.put, List.setIfInBounds_toArray, List.set_cons_zero, List.set_cons_succ])
      refine take_yes (i := 3) (d := 20) (v := ?_) _ rfl rfl (by kernel_rfl) (by kernel_rfl) (by kernel_rfl) (fun _ _ _ _ h => h) (by rfl) ?_ (by assumption) ?_
      rotate_left 1
      · ((intro w hSw; (try dsimp only at hSw); go_simp) <;> (try with_reducible rfl))
      (try simp only [Act.put, List.setIfInBounds_toArray, List.set_cons_zero, List.set_cons_succ])
      refine take_yes (i := 4) (d := 21) (v := ?_) _ rfl rfl (by kernel_rfl) (by kernel_rfl) (by kernel_rfl) (fun _ _ _ _ h => h) (by rfl) ?_ (by assumption) ?_
      rotate_left 1
      · ((intro w hSw; (try dsimp only at hSw); go_simp) <;> (try with_reducible rfl))
      (try simp only [Act.put, List.setIfInBounds_toArray, List.set_cons_zero, List.set_cons_succ])
      refine take_yes (i := 5) (d := 22) (v := ?_) _ rfl rfl (by kernel_rfl) (by kernel_rfl) (by kernel_rfl) (fun _ _ _ _ h => h) (by rfl) ?_ (by assumption) ?_
      rotate_left 1
      · ((intro w hSw; (try dsimp only at hSw); go_simp) <;> (try with_reducible rfl))
      (try simp only [Act.put, List.setIfInBounds_toArray, List.set_cons_zero, List.set_cons_succ])
      refine take_yes (i := 6) (d := 23) (v := ?_) _ rfl rfl (by kernel_rfl) (by kernel_rfl) (by kernel_rfl) (fun _ _ _ _ h => h) (by rfl) ?_ (by assumption) ?_
      rotate_left 1
      · ((intro w hSw; (try dsimp only at hSw); go_simp) <;> (try with_reducible rfl))
      (try simp only [Act.put, List.setIfInBounds_toArray, List.set_cons_zero, List.set_cons_succ])
      refine take_yes (i := 7) (d := 24) (v := ?_) _ rfl rfl (by kernel_rfl) (by kernel_rfl) (by kernel_rfl) (fun _ _ _ _ h => h) (by rfl) ?_ (by assumption) ?_
      rotate_left 1
      · ((intro w hSw; (try dsimp only at hSw); go_simp) <;> (try with_reducible rfl))
      (try simp only [Act.put, List.setIfInBounds_toArray, List.set_cons_zero, List.set_cons_succ])
      (refine wpAnyH_ready (rs := [8]) (by kernel_rfl) (by simp) ?_; refine AllReadyH.cons rfl (fun K hK => ?_) AllReadyH.nil; go_simp; go_at_call 48; refine (eqProfile_calls _ _ _ _ _ _ (f k).p (f k).q (f k).h _ hHeld.2.1 hHeld.2.2.1 fn).mono ?_; rintro e wd ⟨rfl, hb⟩; refine hK.out _ _ (by obtain ⟨x0_, x1_, x2_, x3_, x4_, x5_, x6_⟩ := hHeld; exact ⟨x0_.trans (hb.mono x0_.size), x1_.keep hb, x2_.keep hb, cell_keep hb x3_, cell_keep hb x4_, cell_keep hb x5_, cell_keep hb x6_⟩) (fun hHeld2 => ?_); clear hK K hHeld hb; have hHeld := hHeld2; clear hHeld2; (try simp only [Act.put, List.setIfInBounds_toArray, List.set_cons_zero, List.set_cons_succ]))
      refine take_yes (i := 9) (d := 26) (v := ?_) _ rfl rfl (by kernel_rfl) (by kernel_rfl) (by kernel_rfl) (fun _ _ _ _ h => h) (by rfl) ?_ (by assumption) ?_
      rotate_left 1
      · ((intro w hSw; (try dsimp only at hSw); go_simp) <;> (try with_reducible rfl))
      (try simp only [Act.put, List.setIfInBounds_toArray, List.set_cons_zero, List.set_cons_succ])
      refine wpAnyH_done (by kernel_rfl) ?_ _
      obtain ⟨z0, z1, z2, z3, z4, z5, z6⟩ := hHeld
      go_wp2
      go_roundw
      case rel => exact ⟨k + 1, by omega, by go_num, z0⟩
      case measure => simp [intOf]; omega
    · obtain rfl : k = n := by omega
      go_wp2
      go_ret
      exact ⟨rfl, hbr⟩
open Go.ChangeShapes Go.WideShapes Go.Deep in
theorem slice_cellP {H : Type} {enc : TypeId × Value → H} {P : Program} {w : World} {base : Nat} {spare : Nat → Bool} {held : Bool} {t e : TypeId} {fuel : Nat} {v : Value} {x : DataW H × List MemPlace} (ht : P.underlying t = some (.slice e)) (h : DataW.trod enc P w base spare held fuel t [v] = some x) :
    ∃ A n c, v = .slice A n c := by
  rcases open_slice ht h with ⟨hcs, -⟩ | ⟨a, len, cap, m, fu, D, Pl, hcs, -⟩
  · exact ⟨_, _, _, one_cell hcs⟩
  · exact ⟨_, _, _, one_cell hcs⟩
open Go.ChangeShapes Go.WideShapes Go.Deep in
theorem openProfileS {H : Type} {enc : TypeId × Value → H} {w : World} {base : Nat} {spare : Nat → Bool} {held : Bool} {fuel : Nat} {A : Option Addr} {n c : Nat} {x : DataW H × List MemPlace} (h : DataW.trod enc Try.prog w base spare held fuel 22 [.slice A n c] = some x) :
    ∃ f, ProfRow w A n f ∧ n ≤ maxLen ∧ ∀ i, i < n → FitP (f i) := by
  rcases open_slice Try.underlying22 h with ⟨hcs, hx⟩ | ⟨a, len, cap, m, fu, D, Pl, hcs, hb, hl, hm, hmm, hx, hi⟩
  · simp only [List.cons.injEq, Value.slice.injEq, and_true] at hcs
    obtain ⟨rfl, rfl, rfl⟩ := hcs
    exact ⟨fun _ => ⟨⟨#[]⟩, 0, fun _ => 0, fun _ => 0, fun _ => 0⟩, fun h0 => by omega, by unfold maxLen; omega, fun i h0 => by omega⟩
  · simp only [List.cons.injEq, Value.slice.injEq, and_true] at hcs
    obtain ⟨rfl, rfl, rfl⟩ := hcs
    have hlm : n ≤ m := by rw [hmm]; split <;> omega
    have hC : Try.prog.cellsOf 61 = 2 := by kernel_rfl
    rw [hC] at hi
    have hall : ∀ i, ∃ t : ProfV, i < n → ProfAt w a.block (a.off + i * 2) t ∧ FitP t := by
      intro i
      by_cases hin : i < n
      · obtain ⟨cs, hc, ht⟩ := hi i (by omega)
        obtain ⟨-, hcl, hat⟩ := Go.World.cells?_some hc
        obtain ⟨hln, m2, hg⟩ := fields_of Try.underlying61 (by kernel_rfl) (by kernel_rfl) ht
        obtain ⟨v0, v1, rfl⟩ := list2 hln
        obtain ⟨y0, t0⟩ := hg 0 _ rfl v0 rfl
        obtain ⟨y1, t1⟩ := hg 1 _ rfl v1 rfl
        have k0 := hat 0 (by omega)
        have k1 := hat 1 (by omega)
        obtain ⟨x0, e0, _, q0⟩ := DataW.trod_string Try.underlying9 t0
        obtain rfl := one_cell e0
        obtain ⟨SA, sn, sc, rfl⟩ := slice_cellP Try.underlying59 t1
        obtain ⟨p, q, h, hr, hsn, -, -, -⟩ := openRingS t1
        exact ⟨⟨x0, sn, p, q, h⟩, fun _ => ⟨⟨SA, sc, cell_add2 k0 (by omega), cell_add2 k1 (by omega), hr⟩, q0, hsn⟩⟩
      · exact ⟨⟨⟨#[]⟩, 0, fun _ => 0, fun _ => 0, fun _ => 0⟩, fun h0 => absurd h0 hin⟩
    obtain ⟨F, hF⟩ := Classical.axiomOfChoice hall
    refine ⟨F, fun hn => ?_, by omega, fun i h0 => (hF i h0).2⟩
    refine ⟨a.block, a.off, ?_, fun i h0 => (hF i h0).1⟩
    obtain ⟨b, o, spot⟩ := a
    obtain ⟨cs, hc, ht⟩ := hi 0 (by omega)
    obtain ⟨-, hcl, hat⟩ := Go.World.cells?_some hc
    have k0 := hat 0 (by omega)
    rw [List.getElem?_eq_getElem (show 0 < cs.length by omega)] at k0
    have hspot : spot = none := by simpa [Addr.add] using Go.World.cell?_spot k0
    rw [hspot]
theorem kin_three {lo hi : Nat} {w : World} {g i : Nat} {T : TypeId} {arr : Array Value} {u0 u1 u2 : Value} (hb : Blk w g T arr) (h0 : arr[i]? = some u0) (h1 : arr[i + 1]? = some u1) (h2 : arr[i + 2]? = some u2) (l1 : lo ≤ g) (l2 : g < hi) (v0 v1 v2 : Value) (e0 : kindV v0 = kindV u0) (e1 : kindV v1 = kindV u1) (e2 : kindV v2 = kindV u2) :
    Kin lo hi w (((w.setCell ⟨g, i, none⟩ v0).setCell ⟨g, i + 1, none⟩ v1).setCell ⟨g, i + 2, none⟩ v2) := by
  have b2 := (hb.set_ i v0).set_ (i + 1) v1
  have g2 : ((arr.setIfInBounds i v0).setIfInBounds (i + 1) v1)[i + 2]? = some u2 := by
    rw [Array.getElem?_setIfInBounds_ne (by omega), Array.getElem?_setIfInBounds_ne (by omega)]; exact h2
  exact (kin_two hb h0 h1 l1 l2 v0 v1 e0 e1).trans (Kin.set b2 g2 e2 l1 l2)
set_option maxRecDepth 20000 in
set_option maxHeartbeats 4000000 in
theorem markRingS_kin (A : Option Addr) (n c lo hi k : Nat) (w : World) (h : RingShape w A n lo hi) (hw : hi ≤ w.heap.size) (hn : n ≤ 1048576) (hk : k ≤ 1000000000) :
    Calls Try.prog 51 #[.slice A n c, .int .i64 k] w fun e w' => e = .returned (.int .i64 ((k + 3 * n : Nat) : Int)) ∧ Kin lo hi w w' := by
  have H := Lib.hid h
  clear h
  go_enter Try.func51, Try.ntmps51
  go_wp2
  go_loopw [1, 5] (fun q i wr => ∃ j : Nat, j ≤ n ∧ q = .int .i64 ((k + 3 * j : Nat) : Int) ∧ i = .int .i64 j ∧ Hid (Kin lo hi w wr)) (fun _ i _ => n - (intOf i).toNat)
  case atStart => exact ⟨0, by omega, rfl, rfl, Lib.hid (Kin.refl _ _ _)⟩
  case round =>
    obtain ⟨j, hj, rfl, rfl, hg⟩ := hrel
    by_cases hlt : j < n
    · obtain ⟨g, T, arr, rfl, l1, l2, hb, ha⟩ := (H.out.kin hg.out) (by omega)
      obtain ⟨⟨x0, hx0⟩, ⟨x1, hx1⟩, x2, hx2⟩ := ha j hlt
      have HX0 := Lib.hid hx0
      have HX1 := Lib.hid hx1
      have HX2 := Lib.hid hx2
      have HB := Lib.hid hb
      have y0 := (hb.cell (j * 3)).trans hx0
      have y1 := (hb.cell (j * 3 + 1)).trans hx1
      have y2 := (hb.cell (j * 3 + 2)).trans hx2
      have f0 := hb.frozen
      obtain ⟨M, hM⟩ : ∃ M : Nat, M = k + 3 * j := ⟨_, rfl⟩
      rw [← hM]
      have hMb : M ≤ 4000000000 := by omega
      have HM := Lib.hid hM
      clear hb ha hM hx0 hx1 hx2
      go_wp2
      go_roundw
      case rel =>
        refine ⟨j + 1, by omega, by have := HM.out; go_num, by go_num, Lib.hid ?_⟩
        exact hg.out.trans (kin_three HB.out HX0.out HX1.out HX2.out l1 l2 _ _ _ rfl rfl rfl)
      case measure => simp [intOf]; omega
    · obtain rfl : j = n := by omega
      go_wp2
      go_ret
      exact ⟨rfl, hg.out⟩
set_option maxRecDepth 20000 in
set_option maxHeartbeats 4000000 in
theorem markProfileS_kin (A : Option Addr) (n c lo hi k : Nat) (ns : Nat → Nat) (w : World) (h : ProfShape w A n ns lo hi) (hw : hi ≤ w.heap.size) (hn : n + sumN ns n ≤ 1048576) (hk : k ≤ 100000000) :
    Calls Try.prog 14 #[.slice A n c, .int .i64 k] w fun e w' => e = .returned (.int .i64 ((k + n + 3 * sumN ns n : Nat) : Int)) ∧ Kin lo hi w w' := by
  have H := Lib.hid h
  clear h
  go_enter Try.func14, Try.ntmps14
  go_wp2
  go_loopw [1, 5] (fun q i wr => ∃ j : Nat, j ≤ n ∧ q = .int .i64 ((k + j + 3 * sumN ns j : Nat) : Int) ∧ i = .int .i64 j ∧ Hid (Kin lo hi w wr)) (fun _ i _ => n - (intOf i).toNat)
  case atStart => exact ⟨0, by omega, rfl, rfl, Lib.hid (Kin.refl _ _ _)⟩
  case round =>
    obtain ⟨j, hj, rfl, rfl, hg⟩ := hrel
    by_cases hlt : j < n
    · obtain ⟨g, T, arr, rfl, l1, l2, hb, ha⟩ := (H.out.kin hg.out) (by omega)
      obtain ⟨⟨x0, hx0⟩, A2, c2, hx4, hsh⟩ := ha j hlt
      have HX0 := Lib.hid hx0
      have HX4 := Lib.hid hx4
      have HB := Lib.hid hb
      have HSH := Lib.hid hsh
      have s1 := sumN_le ns (show j + 1 ≤ n by omega)
      have s2 : sumN ns (j + 1) = sumN ns j + ns j := rfl
      obtain ⟨M, hM⟩ : ∃ M : Nat, M = k + j + 3 * sumN ns j := ⟨_, rfl⟩
      rw [← hM]
      have hMb : M ≤ 900000000 := by omega
      have hnj : ns j ≤ 1048576 := by omega
      have HM := Lib.hid hM
      have HS2 := Lib.hid s2
      clear hb ha hM hx0 hx4 hsh s1 s2
      go_wp2_with fail
      go_at_call 50
      refine (markText_calls M _ (by omega)).mono ?_
      rintro e w1 ⟨⟨t, rfl⟩, hb⟩
      have hb1 := HB.out.keep hb
      have y0 := (hb1.cell (j * 2)).trans HX0.out
      have y4 := (hb1.cell (j * 2 + 1)).trans HX4.out
      have f0 := hb1.frozen
      have HB1 := Lib.hid hb1
      have HSZ1 := Lib.hid (Nat.le_trans hg.out.size hb.size)
      have HG1 := Lib.hid (hg.out.trans (Kin.of hb))
      have HSH1 := Lib.hid (HSH.out.kin (lo := lo) (hi := hi) (Kin.of hb))
      clear hb1 hb
      go_wp2_with fail
      go_at_call 51
      have HK4 := Lib.hid (Kin.set (v := .string t) HB1.out HX0.out rfl l1 l2)
      have HA4 := Lib.hid (HSH1.out.kin HK4.out)
      have HZ4 := Lib.hid (Nat.le_trans hw (Nat.le_trans HSZ1.out HK4.out.size))
      have HKS := Lib.hid (fun W q1 q2 => markRingS_kin A2 (ns j) c2 lo hi (M + 1) W q1 q2 hnj (by omega))
      have e4 : ((M + 1 : Nat) : Int) = (M : Int) + 1 := by omega
      rw [e4] at HKS
      clear y0 y4 f0
      refine (HKS.out _ HA4.out HZ4.out).mono ?_
      rintro e w2 ⟨rfl, hk5⟩
      have HG2 := Lib.hid ((HG1.out.trans HK4.out).trans hk5)
      clear hk5 e4
      go_wp2
      go_roundw
      case rel => exact ⟨j + 1, by omega, by have h1 := HM.out; have h2 := HS2.out; go_num, by go_num, HG2⟩
      case measure => simp [intOf]; omega
    · obtain rfl : j = n := by omega
      go_wp2
      go_ret
      exact ⟨rfl, hg.out⟩
end Go.Proofs.Ytonoeohmpaegdaa
