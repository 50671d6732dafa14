/- Bells of the call's own, box by box; what mark does with them: it writes into their own boxes alone. -/
import Derived.Test.YticnpibkpfpojaaBellsOp
import Derived.Test.YticnpibkpfpojaaStrs
import Derived.Test.YticnpibkpfpojaaKin
namespace Go.Proofs.Yticnpibkpfpojaa
set_option linter.unusedVariables false
set_option linter.unusedSimpArgs false
open Go.RowKit

/-- the row lies at the head of a block of the call's own -/
def ShareOwn (w : World) (A : Option Addr) (n : Nat) (s0 : Nat → ByteArray) (a1 : Nat → Int) (G : Nat) : Prop := 0 < n → A = some ⟨G, 0, none⟩ ∧ ∃ arr : Array Value, Blk w G 81 arr ∧ n * 2 ≤ arr.size ∧ ShareArr arr n s0 a1
theorem ShareOwn.row {w : World} {A : Option Addr} {n G : Nat} {s0 : Nat → ByteArray} {a1 : Nat → Int} (h : ShareOwn w A n s0 a1 G) : ShareRow w A n s0 a1 := fun hn => by
  obtain ⟨hA, arr, hb, -, ha⟩ := h hn
  exact hA ▸ (ha.row hb) hn
theorem ShareOwn.keep {w w' : World} {A : Option Addr} {n G : Nat} {s0 : Nat → ByteArray} {a1 : Nat → Int} (h : ShareOwn w A n s0 a1 G) (hb : Below w.heap.size w w') : ShareOwn w' A n s0 a1 G := fun hn => by
  obtain ⟨hA, arr, hk, hs, ha⟩ := h hn
  exact ⟨hA, arr, hk.keep hb, hs, ha⟩
theorem ShareOwn.grown {w w' : World} {A : Option Addr} {n G H : Nat} {s0 : Nat → ByteArray} {a1 : Nat → Int} (h : ShareOwn w A n s0 a1 G) (hg : w.grownBy w' (some H)) (hne : G ≠ H) : ShareOwn w' A n s0 a1 G := fun hn => by
  obtain ⟨hA, arr, hk, hs, ha⟩ := h hn
  exact ⟨hA, arr, (hg.block G hk.lt (by simpa using hne)).trans hk, hs, ha⟩
theorem ShareRow.grown {w w' : World} {A : Option Addr} {n H : Nat} {s0 : Nat → ByteArray} {a1 : Nat → Int} (h : ShareRow w A n s0 a1) (hg : w.grownBy w' (some H)) (hne : ∀ b o, A = some ⟨b, o, none⟩ → b ≠ H) : ShareRow w' A n s0 a1 := fun hn => by
  obtain ⟨b, o, hA, hall⟩ := h hn
  have hb := hne b o hA
  exact ⟨b, o, hA, fun i hi => ⟨hg.cell (hall i hi).1 (by simpa using hb), hg.cell (hall i hi).2 (by simpa using hb)⟩⟩
theorem ShareOwn.same {w w' : World} {A : Option Addr} {n G : Nat} {s0 : Nat → ByteArray} {a1 : Nat → Int} (h : ShareOwn w A n s0 a1 G) (hb : w'.heap[G]? = w.heap[G]?) : ShareOwn w' A n s0 a1 G := fun hn => by
  obtain ⟨hA, arr, hk, hs, ha⟩ := h hn
  exact ⟨hA, arr, hb.trans hk, hs, ha⟩
set_option maxHeartbeats 1000000 in
theorem toShareS_own (A : Option Addr) (n c : Nat) (s0 : Nat → ByteArray) (a1 : Nat → Int) (w : World) (h : ShareRow w A n s0 a1) (hn : n ≤ 1048576) :
    Calls Try.prog 27 #[.slice A n c] w fun e w' => e = .returned (.slice (some ⟨w.heap.size, 0, none⟩) n n) ∧ Below w.heap.size w w' ∧ w.heap.size < w'.heap.size ∧ ShareOwn w' (some ⟨w.heap.size, 0, none⟩) n s0 a1 w.heap.size := by
  obtain ⟨ie, hi, hz0, hz1, hz2⟩ := info_parts Share_info
  have hmk := run_make_rowN (P := Try.prog) 36 81 ie _ Try.underlying36 hi hz0 .i64 .i64 n n (Nat.le_refl _) (by rw [hz2]; omega) (by omega) w
  rw [hz1] at hmk
  have hsz0 := madeCells_size (Value.cells (.agg #[.string ⟨#[]⟩, .int .i64 0])) (n * 2)
  generalize madeCells (Value.cells (.agg #[.string ⟨#[]⟩, .int .i64 0])) (n * 2) = arr0 at hmk hsz0
  have HSZ := Lib.hid hsz0
  have H := Lib.hid h
  clear h hsz0 hi hz0 hz1 hz2
  go_enter Try.func27, Try.ntmps27
  go_wp2
  clear hmk
  go_loopw [4] (fun i wr => ∃ (k : Nat) (arr : Array Value), k ≤ n ∧ i = .int .i64 k ∧ Hid (arr.size = n * 2) ∧ Hid (Blk wr w.heap.size 81 arr) ∧ Below w.heap.size w wr ∧ w.heap.size < wr.heap.size ∧ Hid (ShareArr arr k s0 a1)) (fun i _ => n - (intOf i).toNat)
  case atStart => exact ⟨0, arr0, by omega, rfl, HSZ, Blk.new w _ _, (Below.refl _ _).alloc (Nat.le_refl _) _, by simp, fun i hi => by omega⟩
  case round =>
    obtain ⟨k, arr, hk, rfl, hsz, hblk, hbr, hgt, hall⟩ := hrel
    by_cases hlt : k < n
    · obtain ⟨b, o, rfl, hrow⟩ := H.out (by omega)
      obtain ⟨c0, c1⟩ := (hrow k hlt).below hbr (Nat.le_refl _)
      have HR := Lib.hid hrow
      clear hrow
      obtain ⟨x0, hx0⟩ := arr_some (arr := arr) (j := k * 2) (by have := hsz.out; omega)
      obtain ⟨x1, hx1⟩ := arr_some (arr := arr) (j := k * 2 + 1) (by have := hsz.out; omega)
      have HX0 := Lib.hid hx0
      have HX1 := Lib.hid hx1
      clear hx0 hx1
      go_wp2_with (go_at_call 54; refine (toShare_calls _ _ _).mono ?_; rintro e w1 ⟨rfl, hb⟩; have hblk1 : Blk w1 w.heap.size 81 arr := hblk.out.below hb hgt; have y0 := (Blk.cell hblk1 (k * 2)).trans HX0.out; have z0 := Blk.frozen hblk1 (k * 2); have y1 := (Blk.cell hblk1 (k * 2 + 1)).trans HX1.out; have z1 := Blk.frozen hblk1 (k * 2 + 1); have HB1 := Lib.hid hblk1; clear hblk1; have hbr2 : Below w.heap.size w w1 := hbr.trans (hb.mono hbr.size); have hgt2 := Nat.lt_of_lt_of_le hgt hb.size; clear hb)
      go_roundw
      case rel => exact ⟨k + 1, _, by omega, by go_num, by have := hsz.out; simpa [Hid] using this, ((HB1.out.set_ (k * 2) _).set_ (k * 2 + 1) _), ((hbr2.setCell (Nat.le_refl _) _).setCell (Nat.le_refl _) _), by simpa using hgt2, hall.out.next hsz.out hlt⟩
      case measure => simp [intOf]; omega
    · obtain rfl : k = n := by omega
      have hfin : Hid (ShareOwn wr (some ⟨w.heap.size, 0, none⟩) k s0 a1 w.heap.size) := Lib.hid fun _ => ⟨rfl, arr, hblk.out, Nat.le_of_eq hsz.out.symm, hall.out⟩
      clear hall hblk hsz
      go_wp2
      go_ret
      exact ⟨rfl, hbr, hgt, hfin.out⟩
def BellCopyO (s : ByteArray) (no ma fe : Int) (n : Nat) (ss : Nat → ByteArray) (ms : Nat → Int) (w : World) (e : Ending) (w' : World) : Prop :=
  ∃ G, e = .returned (.agg #[.string s, .int .i64 no, .int .i64 ma, .int .i64 fe, .slice (some ⟨G, 0, none⟩) n n]) ∧ Below w.heap.size w w' ∧ w.heap.size ≤ G ∧ G < w'.heap.size ∧ ShareOwn w' (some ⟨G, 0, none⟩) n ss ms G
set_option maxHeartbeats 1000000 in
theorem toBell_own (s : ByteArray) (no ma fe : Int) (A : Option Addr) (n c : Nat) (ss : Nat → ByteArray) (ms : Nat → Int) (w : World) (h : ShareRow w A n ss ms) (hn : n ≤ 1048576) :
    Calls Try.prog 10 #[.agg #[.string s, .int .i64 no, .int .i64 ma, .int .i64 fe, .slice A n c]] w fun e w' => BellCopyO s no ma fe n ss ms w e w' := by
  have hB := ((Below.refl w.heap.size w).alloc (Nat.le_refl _) (.cells #[.string s, .int .i64 no, .int .i64 ma, .int .i64 fe, .slice A n c] 26)).alloc (by simp) (.cells #[.string ⟨#[]⟩, .int .i64 0, .int .i64 0, .int .i64 0, .slice none 0 0] 38) |>.alloc (by simp <;> omega) (.cells #[.string s, .int .i64 no, .int .i64 ma, .int .i64 fe, .slice none 0 0] 38)
  have H := Lib.hid (h.below hB (Nat.le_refl _))
  have HB := Lib.hid hB
  clear h hB
  go_enter Try.func10, Try.ntmps10
  go_wp2_with fail
  go_at_call 27
  refine (toShareS_own _ _ _ _ _ _ H.out hn).mono ?_
  rintro e w1 ⟨rfl, hb, hlt, hnew⟩
  simp at hlt
  have R2 := ((Blk.new2 w (.cells #[.string s, .int .i64 no, .int .i64 ma, .int .i64 fe, .slice A n c] 26) 38 #[.string ⟨#[]⟩, .int .i64 0, .int .i64 0, .int .i64 0, .slice none 0 0]).alloc (.cells #[.string s, .int .i64 no, .int .i64 ma, .int .i64 fe, .slice none 0 0] 38)).keep hb
  have R3 := (Blk.new3 w (.cells #[.string s, .int .i64 no, .int .i64 ma, .int .i64 fe, .slice A n c] 26) (.cells #[.string ⟨#[]⟩, .int .i64 0, .int .i64 0, .int .i64 0, .slice none 0 0] 38) 38 #[.string s, .int .i64 no, .int .i64 ma, .int .i64 fe, .slice none 0 0]).keep hb
  have f2 := R2.frozen
  have f3 := R3.frozen
  have x0 := (R3.cell 0).trans rfl
  have x1 := (R3.cell 1).trans rfl
  have x2 := (R3.cell 2).trans rfl
  have x3 := (R3.cell 3).trans rfl
  have x4 := (R3.cell 4).trans rfl
  have y0 := (R2.cell 0).trans rfl
  have y1 := (R2.cell 1).trans rfl
  have y2 := (R2.cell 2).trans rfl
  have y3 := (R2.cell 3).trans rfl
  have y4 := (R2.cell 4).trans rfl
  have hbb := Lib.hid (HB.out.trans (hb.mono HB.out.size))
  have HN := Lib.hid (show ShareOwn w1 (some ⟨w.heap.size + 1 + 1 + 1, 0, none⟩) n ss ms (w.heap.size + 1 + 1 + 1) by simpa using hnew)
  clear R2 R3 hb hnew
  go_wp2
  refine bodyPost_ret (v := .agg #[.string s, .int .i64 no, .int .i64 ma, .int .i64 fe, .slice (some ⟨w.heap.size + 1 + 1 + 1, 0, none⟩) n n]) (by simp [results, Try.results10, go_sem, y0, y1, y2, y3, y4]) rfl ?_
  refine ⟨w.heap.size + 1 + 1 + 1, rfl, ?_, by omega, by simp [World.setCell]; omega, ?_⟩
  · repeat (refine Below.setCell ?_ (by simp <;> omega) _)
    exact hbb.out
  · refine HN.out.same ?_
    repeat (refine (Below.heap_setCell _ _ _ _ (by simp <;> omega)).trans ?_)
    rfl
def BellArrO (w : World) (base : Nat) (arr : Array Value) (m : Nat) (f : Nat → BellV) : Prop := ∀ i, i < m → (arr[i * 5]? = some (.string (f i).id) ∧ arr[i * 5 + 1]? = some (.int .i64 (f i).no) ∧ arr[i * 5 + 2]? = some (.int .i64 (f i).ma) ∧ arr[i * 5 + 3]? = some (.int .i64 (f i).fe)) ∧ ∃ g c, base < g ∧ g < w.heap.size ∧ arr[i * 5 + 4]? = some (.slice (some ⟨g, 0, none⟩) (f i).n c) ∧ ShareOwn w (some ⟨g, 0, none⟩) (f i).n (f i).ss (f i).ms g
theorem BellArrO.next {w w1 w2 : World} {base n k G : Nat} {arr : Array Value} {f : Nat → BellV} (h : BellArrO w base arr k f) (hs : arr.size = n * 5) (hk : k < n) (hb : Below w.heap.size w w1) (hg : base < w.heap.size) (h1 : w.heap.size ≤ G) (h2 : G < w1.heap.size) (hr : ShareOwn w1 (some ⟨G, 0, none⟩) (f k).n (f k).ss (f k).ms G)
    (hw : ∀ g, g ≠ base → w2.heap[g]? = w1.heap[g]?) (hz : w1.heap.size = w2.heap.size) : BellArrO w2 base (((((arr.setIfInBounds (k * 5) (.string (f k).id)).setIfInBounds (k * 5 + 1) (.int .i64 (f k).no)).setIfInBounds (k * 5 + 2) (.int .i64 (f k).ma)).setIfInBounds (k * 5 + 3) (.int .i64 (f k).fe)).setIfInBounds (k * 5 + 4) (.slice (some ⟨G, 0, none⟩) (f k).n (f k).n)) (k + 1) f := by
  intro i hi
  rcases Nat.lt_or_ge i k with q | q
  · obtain ⟨⟨a0, a1, a2, a3⟩, g, c, g1, g2, g3, g4⟩ := h i q
    refine ⟨⟨?_, ?_, ?_, ?_⟩, g, c, g1, ?_, ?_, ?_⟩
    · simp (disch := omega) only [Array.getElem?_setIfInBounds_ne]; exact a0
    · simp (disch := omega) only [Array.getElem?_setIfInBounds_ne]; exact a1
    · simp (disch := omega) only [Array.getElem?_setIfInBounds_ne]; exact a2
    · simp (disch := omega) only [Array.getElem?_setIfInBounds_ne]; exact a3
    · have := hb.size; omega
    · simp (disch := omega) only [Array.getElem?_setIfInBounds_ne]; exact g3
    · exact (g4.keep hb).same (hw g (by omega))
  · obtain rfl : i = k := by omega
    refine ⟨⟨?_, ?_, ?_, ?_⟩, G, (f i).n, by omega, by omega, ?_, hr.same (hw G (by omega))⟩
    · rw [Array.getElem?_setIfInBounds_ne (by omega), Array.getElem?_setIfInBounds_ne (by omega), Array.getElem?_setIfInBounds_ne (by omega), Array.getElem?_setIfInBounds_ne (by omega), Array.getElem?_setIfInBounds_self_of_lt (by (try simp); omega)]
    · rw [Array.getElem?_setIfInBounds_ne (by omega), Array.getElem?_setIfInBounds_ne (by omega), Array.getElem?_setIfInBounds_ne (by omega), Array.getElem?_setIfInBounds_self_of_lt (by (try simp); omega)]
    · rw [Array.getElem?_setIfInBounds_ne (by omega), Array.getElem?_setIfInBounds_ne (by omega), Array.getElem?_setIfInBounds_self_of_lt (by (try simp); omega)]
    · rw [Array.getElem?_setIfInBounds_ne (by omega), Array.getElem?_setIfInBounds_self_of_lt (by (try simp); omega)]
    · rw [Array.getElem?_setIfInBounds_self_of_lt (by (try simp); omega)]
/-- a row of shares in blocks lo .. hi, whatever its values -/
def ShareShape (w : World) (A : Option Addr) (n lo hi : Nat) : Prop := 0 < n → ∃ (g : Nat) (T : TypeId) (arr : Array Value), A = some ⟨g, 0, none⟩ ∧ lo ≤ g ∧ g < hi ∧ Blk w g T arr ∧ ∀ i, i < n → (∃ s, arr[i * 2]? = some (.string s)) ∧ ∃ m, arr[i * 2 + 1]? = some (.int .i64 m)
theorem ShareShape.kin {w w' : World} {A : Option Addr} {n lo hi : Nat} (h : ShareShape w A n lo hi) (hk : Kin lo hi w w') : ShareShape w' A n lo hi := fun hn => by
  obtain ⟨g, T, arr, hA, h1, h2, hb, ha⟩ := h hn
  obtain ⟨a', b', -, e'⟩ := hk.near g T arr h1 h2 hb
  exact ⟨g, T, a', hA, h1, h2, b', fun i hi => by
    obtain ⟨⟨s, hs⟩, m, hm⟩ := ha i hi
    exact ⟨kin_string (e' _) hs, kin_int (e' _) hm⟩⟩
/-- a row of bells in blocks lo .. hi, whatever its values -/
def BellShape (w : World) (A : Option Addr) (n : Nat) (ns : Nat → Nat) (lo hi : Nat) : Prop := 0 < n → ∃ (g : Nat) (T : TypeId) (arr : Array Value), A = some ⟨g, 0, none⟩ ∧ lo ≤ g ∧ g < hi ∧ Blk w g T arr ∧ ∀ i, i < n → (∃ s, arr[i * 5]? = some (.string s)) ∧ (∃ m, arr[i * 5 + 1]? = some (.int .i64 m)) ∧ (∃ m, arr[i * 5 + 2]? = some (.int .i64 m)) ∧ (∃ m, arr[i * 5 + 3]? = some (.int .i64 m)) ∧ ∃ A2 c2, arr[i * 5 + 4]? = some (.slice A2 (ns i) c2) ∧ ShareShape w A2 (ns i) lo hi
theorem BellShape.kin {w w' : World} {A : Option Addr} {n lo hi : Nat} {ns : Nat → Nat} (h : BellShape w A n ns lo hi) (hk : Kin lo hi w w') : BellShape w' A n ns lo hi := fun hn => by
  obtain ⟨g, T, arr, hA, h1, h2, hb, ha⟩ := h hn
  obtain ⟨a', b', -, e'⟩ := hk.near g T arr h1 h2 hb
  exact ⟨g, T, a', hA, h1, h2, b', fun i hi => by
    obtain ⟨⟨s, hs⟩, ⟨m1, hm1⟩, ⟨m2, hm2⟩, ⟨m3, hm3⟩, A2, c2, hA2, hsh⟩ := ha i hi
    exact ⟨kin_string (e' _) hs, kin_int (e' _) hm1, kin_int (e' _) hm2, kin_int (e' _) hm3, A2, c2, kin_slice (e' _) hA2, hsh.kin hk⟩⟩
theorem BellArrO.shape {w : World} {g T n : Nat} {arr : Array Value} {f : Nat → BellV} (h : BellArrO w g arr n f) (hb : Blk w g T arr) : BellShape w (some ⟨g, 0, none⟩) n (fun i => (f i).n) g w.heap.size := fun hn => by
  refine ⟨g, T, arr, rfl, Nat.le_refl _, hb.lt, hb, fun i hi => ?_⟩
  obtain ⟨⟨a0, a1, a2, a3⟩, G, c, g1, g2, g3, g4⟩ := h i hi
  refine ⟨⟨_, a0⟩, ⟨_, a1⟩, ⟨_, a2⟩, ⟨_, a3⟩, _, c, g3, fun h0 => ?_⟩
  obtain ⟨-, arr2, hb2, -, ha2⟩ := g4 h0
  exact ⟨G, _, arr2, rfl, by omega, g2, hb2, fun j hj => ⟨⟨_, (ha2 j hj).1⟩, _, (ha2 j hj).2⟩⟩
theorem BellArrO.row {w : World} {g T n : Nat} {arr : Array Value} {f : Nat → BellV} (h : BellArrO w g arr n f) (hb : Blk w g T arr) : BellRow w (some ⟨g, 0, none⟩) n f := fun _ =>
  ⟨g, 0, rfl, fun i hi => by
    obtain ⟨⟨a0, a1, a2, a3⟩, G, c, g1, g2, g3, g4⟩ := h i hi
    rw [Nat.zero_add]
    exact ⟨_, c, (hb.cell _).trans a0, (hb.cell _).trans a1, (hb.cell _).trans a2, (hb.cell _).trans a3, (hb.cell _).trans g3, g4.row⟩⟩
set_option maxHeartbeats 2000000 in
theorem toBellS_own (A : Option Addr) (n c : Nat) (f : Nat → BellV) (w : World) (h : BellRow w A n f) (hf : ∀ i, i < n → (f i).n ≤ 1048576) (hn : n ≤ 1048576) :
    Calls Try.prog 9 #[.slice A n c] w fun e w' => e = .returned (.slice (some ⟨w.heap.size, 0, none⟩) n n) ∧ Below w.heap.size w w' ∧ w.heap.size < w'.heap.size ∧ BellRow w' (some ⟨w.heap.size, 0, none⟩) n f ∧ BellShape w' (some ⟨w.heap.size, 0, none⟩) n (fun i => (f i).n) w.heap.size w'.heap.size := by
  obtain ⟨ie, hi, hz0, hz1, hz2⟩ := info_parts Bell_info
  have hmk := run_make_rowN (P := Try.prog) 30 38 ie _ Try.underlying30 hi hz0 .i64 .i64 n n (Nat.le_refl _) (by rw [hz2]; omega) (by omega) w
  rw [hz1] at hmk
  have hsz0 := madeCells_size (Value.cells (.agg #[.string ⟨#[]⟩, .int .i64 0, .int .i64 0, .int .i64 0, .slice none 0 0])) (n * 5)
  generalize madeCells (Value.cells (.agg #[.string ⟨#[]⟩, .int .i64 0, .int .i64 0, .int .i64 0, .slice none 0 0])) (n * 5) = arr0 at hmk hsz0
  have HSZ := Lib.hid hsz0
  have H := Lib.hid h
  have HF := Lib.hid hf
  clear h hf hsz0 hi hz0 hz1 hz2
  go_enter Try.func9, Try.ntmps9
  go_wp2
  clear hmk
  go_loopw [4] (fun i wr => ∃ (k : Nat) (arr : Array Value), k ≤ n ∧ i = .int .i64 k ∧ Hid (arr.size = n * 5) ∧ Hid (Blk wr w.heap.size 38 arr) ∧ Below w.heap.size w wr ∧ w.heap.size < wr.heap.size ∧ Hid (BellArrO wr w.heap.size arr k f)) (fun i _ => n - (intOf i).toNat)
  case atStart => exact ⟨0, arr0, by omega, rfl, HSZ, Blk.new w _ _, (Below.refl _ _).alloc (Nat.le_refl _) _, by simp, fun i hi => by omega⟩
  case round =>
    obtain ⟨k, arr, hk, rfl, hsz, hblk, hbr, hgt, hall⟩ := hrel
    by_cases hlt : k < n
    · have fn := HF.out k hlt
      obtain ⟨b, o, rfl, hrow⟩ := H.out (by omega)
      obtain ⟨AK, CK, c0, c1, c2, c3, c4, c5⟩ := (hrow k hlt).keep hbr
      have HR := Lib.hid hrow
      have C5 := Lib.hid c5
      clear hrow c5
      obtain ⟨x0, hx0⟩ := arr_some (arr := arr) (j := k * 5) (by have := hsz.out; omega)
      obtain ⟨x1, hx1⟩ := arr_some (arr := arr) (j := k * 5 + 1) (by have := hsz.out; omega)
      obtain ⟨x2, hx2⟩ := arr_some (arr := arr) (j := k * 5 + 2) (by have := hsz.out; omega)
      obtain ⟨x3, hx3⟩ := arr_some (arr := arr) (j := k * 5 + 3) (by have := hsz.out; omega)
      obtain ⟨x4, hx4⟩ := arr_some (arr := arr) (j := k * 5 + 4) (by have := hsz.out; omega)
      have HX0 := Lib.hid hx0
      have HX1 := Lib.hid hx1
      have HX2 := Lib.hid hx2
      have HX3 := Lib.hid hx3
      have HX4 := Lib.hid hx4
      clear hx0 hx1 hx2 hx3 hx4
      go_wp2_with fail
      go_at_call 10
      refine (toBell_own _ _ _ _ _ _ _ _ _ _ C5.out fn).mono ?_
      rintro e w1 ⟨G, rfl, hb, g1, g2, hrow⟩
      have hblk1 : Blk w1 w.heap.size 38 arr := hblk.out.below hb hgt
      have y0 := (Blk.cell hblk1 (k * 5)).trans HX0.out
      have z0 := Blk.frozen hblk1 (k * 5)
      have y1 := (Blk.cell hblk1 (k * 5 + 1)).trans HX1.out
      have z1 := Blk.frozen hblk1 (k * 5 + 1)
      have y2 := (Blk.cell hblk1 (k * 5 + 2)).trans HX2.out
      have z2 := Blk.frozen hblk1 (k * 5 + 2)
      have y3 := (Blk.cell hblk1 (k * 5 + 3)).trans HX3.out
      have z3 := Blk.frozen hblk1 (k * 5 + 3)
      have y4 := (Blk.cell hblk1 (k * 5 + 4)).trans HX4.out
      have z4 := Blk.frozen hblk1 (k * 5 + 4)
      have HB1 := Lib.hid hblk1
      have hnext := fun w2 => hall.out.next (w2 := w2) hsz.out hlt hb hgt g1 g2 hrow
      have HN := Lib.hid hnext
      have hbr2 := Lib.hid (hbr.trans (hb.mono hbr.size))
      have hgt2 := Nat.lt_of_lt_of_le hgt hb.size
      clear hblk1 hb hnext hrow hall hbr g1 g2
      go_wp2
      go_roundw
      case rel => exact ⟨k + 1, _, by omega, by go_num, by have := hsz.out; simpa [Hid] using this, (((((HB1.out.set_ (k * 5) _).set_ (k * 5 + 1) _).set_ (k * 5 + 2) _).set_ (k * 5 + 3) _).set_ (k * 5 + 4) _), (((((hbr2.out.setCell (Nat.le_refl _) _).setCell (Nat.le_refl _) _).setCell (Nat.le_refl _) _).setCell (Nat.le_refl _) _).setCell (Nat.le_refl _) _), by simpa using hgt2, HN.out _ (fun g hg => (Below.heap_setCell _ _ _ _ hg).trans ((Below.heap_setCell _ _ _ _ hg).trans ((Below.heap_setCell _ _ _ _ hg).trans ((Below.heap_setCell _ _ _ _ hg).trans (Below.heap_setCell _ _ _ _ hg))))) (by simp [World.setCell])⟩
      case measure => simp [intOf]; omega
    · obtain rfl : k = n := by omega
      have hfin := Lib.hid (⟨hall.out.row hblk.out, hall.out.shape hblk.out⟩ : BellRow wr (some ⟨w.heap.size, 0, none⟩) k f ∧ BellShape wr (some ⟨w.heap.size, 0, none⟩) k (fun i => (f i).n) w.heap.size wr.heap.size)
      clear hall hblk hsz
      go_wp2
      go_ret
      exact ⟨rfl, hbr, hgt, hfin.out⟩
set_option maxRecDepth 20000 in
set_option maxHeartbeats 4000000 in
theorem markShareS_kin (A : Option Addr) (n c lo hi k : Nat) (w : World) (h : ShareShape w A n lo hi) (hw : hi ≤ w.heap.size) (hn : n ≤ 1048576) (h1 : 1 ≤ k) (hk : k ≤ 1000000000) :
    Calls Try.prog 43 #[.slice A n c, .int .i64 k] w fun e w' => e = .returned (.int .i64 ((k + 2 * n : Nat) : Int)) ∧ Kin lo hi w w' := by
  have H := Lib.hid h
  clear h
  go_enter Try.func43, Try.ntmps43
  go_wp2
  go_loopw [1, 5] (fun q i wr => ∃ j : Nat, j ≤ n ∧ q = .int .i64 ((k + 2 * j : Nat) : Int) ∧ i = .int .i64 j ∧ Hid (Kin lo hi w wr)) (fun _ i _ => n - (intOf i).toNat)
  case atStart => exact ⟨0, by omega, rfl, rfl, Lib.hid (Kin.refl _ _ _)⟩
  case round =>
    obtain ⟨j, hj, rfl, rfl, hg⟩ := hrel
    by_cases hlt : j < n
    · obtain ⟨g, T, arr, rfl, l1, l2, hb, ha⟩ := (H.out.kin hg.out) (by omega)
      obtain ⟨⟨x0, hx0⟩, x1, hx1⟩ := ha j hlt
      have HX0 := Lib.hid hx0
      have HX1 := Lib.hid hx1
      have HB := Lib.hid hb
      obtain ⟨M, hM⟩ : ∃ M : Nat, M = k + 2 * j := ⟨_, rfl⟩
      rw [← hM]
      have hMb : M ≤ 4000000000 := by omega
      have hM1 : 1 ≤ M := by omega
      have HM := Lib.hid hM
      clear hb ha hM hx0 hx1
      go_wp2_with (go_at_call 41; refine (markTx_calls M _ hM1 hMb).mono ?_; rintro e w1 ⟨rfl, hb⟩; have hb1 := HB.out.keep hb; have y0 := (hb1.cell (j * 2)).trans HX0.out; have y1 := (hb1.cell (j * 2 + 1)).trans HX1.out; have f0 := hb1.frozen; have HB1 := Lib.hid hb1; have HG1 := Lib.hid (hg.out.trans (Kin.of hb)); clear hb1 hb)
      go_roundw
      case rel =>
        refine ⟨j + 1, by omega, by have := HM.out; go_num, by go_num, Lib.hid ?_⟩
        exact HG1.out.trans (kin_two HB1.out HX0.out HX1.out l1 l2 _ _ rfl rfl)
      case measure => simp [intOf]; omega
    · obtain rfl : j = n := by omega
      go_wp2
      go_ret
      exact ⟨rfl, hg.out⟩
set_option maxRecDepth 20000 in
set_option maxHeartbeats 4000000 in
theorem markBellS_kin (A : Option Addr) (n c lo hi k : Nat) (ns : Nat → Nat) (w : World) (h : BellShape w A n ns lo hi) (hw : hi ≤ w.heap.size) (hn : n + sumN ns n ≤ 1048576) (h1 : 1 ≤ k) (hk : k ≤ 100000000) :
    Calls Try.prog 16 #[.slice A n c, .int .i64 k] w fun e w' => e = .returned (.int .i64 ((k + 4 * n + 2 * sumN ns n : Nat) : Int)) ∧ Kin lo hi w w' := by
  have H := Lib.hid h
  clear h
  go_enter Try.func16, Try.ntmps16
  go_wp2
  go_loopw [1, 5] (fun q i wr => ∃ j : Nat, j ≤ n ∧ q = .int .i64 ((k + 4 * j + 2 * sumN ns j : Nat) : Int) ∧ i = .int .i64 j ∧ Hid (Kin lo hi w wr)) (fun _ i _ => n - (intOf i).toNat)
  case atStart => exact ⟨0, by omega, rfl, rfl, Lib.hid (Kin.refl _ _ _)⟩
  case round =>
    obtain ⟨j, hj, rfl, rfl, hg⟩ := hrel
    by_cases hlt : j < n
    · obtain ⟨g, T, arr, rfl, l1, l2, hb, ha⟩ := (H.out.kin hg.out) (by omega)
      obtain ⟨⟨x0, hx0⟩, ⟨x1, hx1⟩, ⟨x2, hx2⟩, ⟨x3, hx3⟩, A2, c2, hx4, hsh⟩ := ha j hlt
      have HX0 := Lib.hid hx0
      have HX1 := Lib.hid hx1
      have HX2 := Lib.hid hx2
      have HX3 := Lib.hid hx3
      have HX4 := Lib.hid hx4
      have HB := Lib.hid hb
      have HSH := Lib.hid hsh
      have s1 := sumN_le ns (show j + 1 ≤ n by omega)
      have s2 : sumN ns (j + 1) = sumN ns j + ns j := rfl
      obtain ⟨M, hM⟩ : ∃ M : Nat, M = k + 4 * j + 2 * sumN ns j := ⟨_, rfl⟩
      rw [← hM]
      have hMb : M ≤ 900000000 := by omega
      have hM1 : 1 ≤ M := by omega
      have hnj : ns j ≤ 1048576 := by omega
      have HM := Lib.hid hM
      have HS2 := Lib.hid s2
      clear hb ha hM hx0 hx1 hx2 hx3 hx4 hsh s1 s2
      go_wp2_with fail
      go_at_call 41
      refine (markTx_calls M _ hM1 (by omega)).mono ?_
      rintro e w1 ⟨rfl, hb⟩
      have hb1 := HB.out.keep hb
      have y0 := (hb1.cell (j * 5)).trans HX0.out
      have y1 := (hb1.cell (j * 5 + 1)).trans HX1.out
      have y2 := (hb1.cell (j * 5 + 2)).trans HX2.out
      have y3 := (hb1.cell (j * 5 + 3)).trans HX3.out
      have y4 := (hb1.cell (j * 5 + 4)).trans HX4.out
      have f0 := hb1.frozen
      have HB1 := Lib.hid hb1
      have HSZ1 := Lib.hid (Nat.le_trans hg.out.size hb.size)
      have HG1 := Lib.hid (hg.out.trans (Kin.of hb))
      have HSH1 := Lib.hid (HSH.out.kin (lo := lo) (hi := hi) (Kin.of hb))
      clear hb1 hb
      go_wp2_with fail
      go_at_call 43
      have HK4 := Lib.hid (kin_four (v0 := .string (mkT M)) (v1 := .int .i64 ((M : Int) + 1)) (v2 := .int .i64 ((M : Int) + 1 + 1)) (v3 := .int .i64 ((M : Int) + 1 + 1 + 1)) HB1.out HX0.out HX1.out HX2.out HX3.out l1 l2 rfl rfl rfl rfl)
      have HA4 := Lib.hid (HSH1.out.kin HK4.out)
      have HZ4 := Lib.hid (Nat.le_trans hw (Nat.le_trans HSZ1.out HK4.out.size))
      have HKS := Lib.hid (fun W q1 q2 => markShareS_kin A2 (ns j) c2 lo hi (M + 4) W q1 q2 hnj (by omega) (by omega))
      have e4 : ((M + 4 : Nat) : Int) = (M : Int) + 1 + 1 + 1 + 1 := by omega
      rw [e4] at HKS
      clear y0 y1 y2 y3 y4 f0
      refine (HKS.out _ HA4.out HZ4.out).mono ?_
      rintro e w2 ⟨rfl, hk5⟩
      have HG2 := Lib.hid ((HG1.out.trans HK4.out).trans hk5)
      clear hk5 e4
      go_wp2
      go_roundw
      case rel => exact ⟨j + 1, by omega, by have h1 := HM.out; have h2 := HS2.out; go_num, by go_num, HG2⟩
      case measure => simp [intOf]; omega
    · obtain rfl : j = n := by omega
      go_wp2
      go_ret
      exact ⟨rfl, hg.out⟩
end Go.Proofs.Yticnpibkpfpojaa
