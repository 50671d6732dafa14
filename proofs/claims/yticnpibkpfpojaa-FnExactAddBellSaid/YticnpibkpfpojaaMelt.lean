/- Lists of melts: how they read; size, copy, comparison; how such an argument reads; what mark does with a copy. -/
import Derived.Test.YticnpibkpfpojaaStrs
import Derived.Test.YticnpibkpfpojaaKin
import Derived.Test.YticnpibkpfpojaaName
namespace Go.Proofs.Yticnpibkpfpojaa
set_option linter.unusedVariables false
set_option linter.unusedSimpArgs false
open Go.RowKit

/-- a melt, whatever memory it lies in -/
structure MeltV where
  id : ByteArray
  n : Nat
  ss : Nat → ByteArray
  ma : Int
def MeltAt (w : World) (b o : Nat) (x : MeltV) : Prop := ∃ A c, w.cell? ⟨b, o, none⟩ = some (.string x.id) ∧ w.cell? ⟨b, o + 1, none⟩ = some (.slice A x.n c) ∧ w.cell? ⟨b, o + 2, none⟩ = some (.int .i64 x.ma) ∧ StrRow w A x.n x.ss
def MeltRow (w : World) (A : Option Addr) (n : Nat) (f : Nat → MeltV) : Prop := 0 < n → ∃ b o, A = some ⟨b, o, none⟩ ∧ ∀ i, i < n → MeltAt w b (o + i * 3) (f i)
theorem MeltAt.keep {w w' : World} {b o : Nat} {x : MeltV} (h : MeltAt w b o x) (hb : Below w.heap.size w w') : MeltAt w' b o x := by
  obtain ⟨A, c, h0, h1, h2, h3⟩ := h
  exact ⟨A, c, cell_keep hb h0, cell_keep hb h1, cell_keep hb h2, h3.keep hb⟩
theorem MeltAt.drewN {w : World} {b o : Nat} {x : MeltV} (h : MeltAt w b o x) (m : Nat) : MeltAt (w.drewN m) b o x := h
theorem MeltRow.keep {w w' : World} {A : Option Addr} {n : Nat} {f : Nat → MeltV} (h : MeltRow w A n f) (hb : Below w.heap.size w w') : MeltRow w' A n f := fun hn => by
  obtain ⟨b, o, hA, hall⟩ := h hn
  exact ⟨b, o, hA, fun i hi => (hall i hi).keep hb⟩
theorem MeltRow.take {w : World} {A : Option Addr} {n m : Nat} {f : Nat → MeltV} (h : MeltRow w A n f) (hm : m ≤ n) : MeltRow w A m f := fun h0 => by
  obtain ⟨b, o, hA, hall⟩ := h (by omega)
  exact ⟨b, o, hA, fun i hi => hall i (by omega)⟩
def FitM (x : MeltV) : Prop := x.id.size ≤ maxLen ∧ (∀ i, i < x.n → (x.ss i).size ≤ maxLen) ∧ x.n ≤ maxLen
def FineM (x : MeltV) : Prop := x.id.size ≤ maxLen ∧ (∀ i, i < x.n → (x.ss i).size ≤ maxLen) ∧ x.n ≤ 1048576
def meltSz (x : MeltV) : Nat := x.id.size + strsSz x.ss x.n
def sumM (f : Nat → MeltV) : Nat → Nat
  | 0 => 0
  | n + 1 => sumM f n + meltSz (f n)
theorem sumM_le (f : Nat → MeltV) {k n : Nat} (h : k ≤ n) : sumM f k ≤ sumM f n := by
  induction n with
  | zero => obtain rfl : k = 0 := by omega
            exact Nat.le_refl _
  | succ m ih =>
    rcases Nat.lt_or_ge k (m + 1) with h1 | h1
    · exact Nat.le_trans (ih (by omega)) (Nat.le_add_right _ _)
    · obtain rfl : k = m + 1 := by omega
      exact Nat.le_refl _
theorem sumM_one (f : Nat → MeltV) {i n : Nat} (h : i < n) : meltSz (f i) ≤ sumM f n := by
  have := sumM_le f (show i + 1 ≤ n by omega)
  have e : sumM f (i + 1) = sumM f i + meltSz (f i) := rfl
  omega
theorem sumN_sumM (f : Nat → MeltV) : ∀ n, sumN (fun i => (f i).n) n ≤ sumM f n
  | 0 => Nat.le_refl _
  | n + 1 => by
    have := sumN_sumM f n
    have e1 : sumN (fun i => (f i).n) (n + 1) = sumN (fun i => (f i).n) n + (f n).n := rfl
    have e2 : sumM f (n + 1) = sumM f n + meltSz (f n) := rfl
    unfold meltSz strsSz at e2
    omega
theorem fineM_of {f : Nat → MeltV} {n : Nat} (h : ∀ i, i < n → FitM (f i)) (hs : n + sumM f n ≤ 1048576) : ∀ i, i < n → FineM (f i) := fun i hi => by
  obtain ⟨a, b, c⟩ := h i hi
  have := sumM_one f hi
  exact ⟨a, b, by unfold meltSz strsSz at this; omega⟩
set_option maxHeartbeats 1000000 in
theorem szMelt_calls (s : ByteArray) (A : Option Addr) (n c : Nat) (ss : Nat → ByteArray) (ma : Int) (l : Int) (w : World) (h : StrRow w A n ss) (hs : s.size ≤ maxLen) (hss : ∀ i, i < n → (ss i).size ≤ maxLen) (hn : n ≤ maxLen) (l0 : 0 ≤ l) (l1 : l ≤ 4611686018427387904) :
    Calls Try.prog 19 #[.agg #[.string s, .slice A n c, .int .i64 ma], .int .i64 l] w fun e w' => e = .returned (.int .i64 (if l < ((s.size + strsSz ss n : Nat) : Int) then -1 else l - ((s.size + strsSz ss n : Nat) : Int))) ∧ Below w.heap.size w w' := by
  have hB := (Below.refl w.heap.size w).alloc (Nat.le_refl _) (.cells #[.string s, .slice A n c, .int .i64 ma] 50)
  have H := Lib.hid (h.below hB (Nat.le_refl _))
  have HSS := Lib.hid hss
  unfold maxLen at hs
  clear h hss
  by_cases h1 : l < s.size
  · rw [if_pos (by omega)]
    go_enter Try.func19, Try.ntmps19
    go_wp2
    go_ret
    exact ⟨rfl, hB⟩
  · by_cases h2 : l - s.size < (strsSz ss n : Int)
    · rw [if_pos (by omega)]
      go_enter Try.func19, Try.ntmps19
      go_wp2_with (go_at_call 45; refine (szStringS_calls _ _ _ _ _ _ H.out HSS.out hn (by omega) (by omega)).mono ?_; rintro e w1 ⟨rfl, hb⟩; rw [if_pos h2])
      go_ret
      exact ⟨rfl, hB.trans (hb.mono (by simp))⟩
    · obtain ⟨R, hR⟩ : ∃ R, R = l - s.size - (strsSz ss n : Int) := ⟨_, rfl⟩
      rw [if_neg (by omega), show l - ((s.size + strsSz ss n : Nat) : Int) = R by omega]
      have hR0 : 0 ≤ R := by omega
      have HR := Lib.hid hR
      clear hR
      go_enter Try.func19, Try.ntmps19
      go_wp2_with (go_at_call 45; refine (szStringS_calls _ _ _ _ _ _ H.out HSS.out hn (by omega) (by omega)).mono ?_; rintro e w1 ⟨rfl, hb⟩; rw [if_neg h2, ← HR.out])
      go_ret
      exact ⟨rfl, hB.trans (hb.mono (by simp))⟩
set_option maxHeartbeats 1000000 in
theorem szMeltS_calls (A : Option Addr) (n c : Nat) (f : Nat → MeltV) (left : Int) (w : World) (h : MeltRow w A n f) (hs : ∀ i, i < n → FitM (f i)) (hn : n ≤ maxLen) (h0 : 0 ≤ left) (h1 : left ≤ 4611686018427387904) :
    Calls Try.prog 4 #[.slice A n c, .int .i64 left] w fun e w' => e = .returned (.int .i64 (if left < (n : Int) + sumM f n then -1 else left - ((n : Int) + sumM f n))) ∧ Below w.heap.size w w' := by
  unfold maxLen at hn
  by_cases hl : left < n
  · rw [if_pos (by omega)]
    go_enter Try.func4, Try.ntmps4
    go_wp2
    go_ret
    exact ⟨rfl, Below.refl _ _⟩
  · have H := Lib.hid h
    have HS := Lib.hid hs
    clear h hs
    generalize hres : (if left < (n : Int) + sumM f n then (-1 : Int) else left - ((n : Int) + sumM f n)) = R
    have HRES := Lib.hid hres
    clear hres
    go_enter Try.func4, Try.ntmps4
    go_wp2
    go_loopw [1, 5] (fun l i wr => ∃ k q : Nat, k ≤ n ∧ l = .int .i64 (left - n - q) ∧ i = .int .i64 k ∧ (q : Int) ≤ left - n ∧ Hid (q = sumM f k) ∧ Below w.heap.size w wr) (fun _ i _ => n - (intOf i).toNat)
    case atStart => exact ⟨0, 0, by omega, by simp, rfl, by omega, rfl, Below.refl _ _⟩
    case round =>
      obtain ⟨k, q, hk, rfl, rfl, hq, hv, hbr⟩ := hrel
      by_cases hlt : k < n
      · obtain ⟨fid, fss, fn⟩ := HS.out k hlt
        have FSS := Lib.hid fss
        clear fss
        have hmono := sumM_le f (show k + 1 ≤ n by omega)
        have hstep : Hid (sumM f (k + 1) = sumM f k + meltSz (f k)) := rfl
        have hmono2 := Lib.hid hmono
        clear hmono
        obtain ⟨z, hz⟩ : ∃ z : Nat, z = (f k).id.size + strsSz (f k).ss (f k).n := ⟨_, rfl⟩
        have HZ : Hid (meltSz (f k) = z) := Lib.hid hz.symm
        obtain ⟨b, o, rfl, hall⟩ := H.out (by omega)
        obtain ⟨AK, CK, c0, c1, c2, c3⟩ := (hall k hlt).keep hbr
        have HALL := Lib.hid hall
        have hc := szMelt_calls (f k).id AK (f k).n CK (f k).ss (f k).ma (left - n - q) wr c3 fid FSS.out fn (by omega) (by omega)
        rw [← hz] at hc
        have HC := Lib.hid hc
        clear hall c3 hc hz
        by_cases hbig : left - n - q < z
        · go_wp2_with (go_at_call 19; with_reducible refine HC.out.mono ?_; rw [if_pos hbig]; rintro e w1 ⟨rfl, hb⟩; have hbr2 : Below w.heap.size w w1 := hbr.trans (hb.mono hbr.size); clear hb)
          go_ret
          exact ⟨ret_int (by have h1 := hv.out; have h2 := hstep.out; have h3 := hmono2.out; have h4 := HZ.out; rw [← HRES.out, if_pos (by omega)]), hbr2⟩
        · go_wp2_with (go_at_call 19; with_reducible refine HC.out.mono ?_; rw [if_neg hbig]; rintro e w1 ⟨rfl, hb⟩; have hbr2 : Below w.heap.size w w1 := hbr.trans (hb.mono hbr.size); clear hb)
          go_roundw
          case rel => exact ⟨k + 1, q + z, by omega, by congr 1; omega, by go_num, by omega, Lib.hid (by have h1 := hv.out; have h2 := hstep.out; have h4 := HZ.out; omega), hbr2⟩
          case measure => simp [intOf]; omega
      · obtain rfl : k = n := by omega
        have hfin : Hid (left - (k : Int) - q = R) := Lib.hid (by
          have h1 := hv.out
          rw [← HRES.out, if_neg (by omega)]; omega)
        go_wp2
        go_ret
        exact ⟨ret_int hfin.out, hbr⟩
def MeltCopy (s : ByteArray) (n : Nat) (ss : Nat → ByteArray) (ma : Int) (w : World) (e : Ending) (w' : World) : Prop :=
  ∃ G, e = .returned (.agg #[.string s, .slice (some ⟨G, 0, none⟩) n n, .int .i64 ma]) ∧ Below w.heap.size w w' ∧ w.heap.size ≤ G ∧ G < w'.heap.size ∧ StrOwn w' (some ⟨G, 0, none⟩) n ss G
set_option maxHeartbeats 1000000 in
theorem toMelt_calls (s : ByteArray) (A : Option Addr) (n c : Nat) (ss : Nat → ByteArray) (ma : Int) (w : World) (h : StrRow w A n ss) (hn : n ≤ 1048576) :
    Calls Try.prog 26 #[.agg #[.string s, .slice A n c, .int .i64 ma]] w fun e w' => MeltCopy s n ss ma w e w' := by
  have hB := ((Below.refl w.heap.size w).alloc (Nat.le_refl _) (.cells #[.string s, .slice A n c, .int .i64 ma] 50)).alloc (by simp) (.cells #[.string ⟨#[]⟩, .slice none 0 0, .int .i64 0] 58) |>.alloc (by simp <;> omega) (.cells #[.string s, .slice none 0 0, .int .i64 0] 58)
  have H := Lib.hid (h.below hB (Nat.le_refl _))
  have HB := Lib.hid hB
  clear h hB
  go_enter Try.func26, Try.ntmps26
  go_wp2_with fail
  go_at_call 53
  refine (toStringS_calls _ _ _ _ _ H.out hn).mono ?_
  rintro e w1 ⟨rfl, hb, hlt, hnew⟩
  simp at hlt
  have R1 := (((Blk.new w 50 #[.string s, .slice A n c, .int .i64 ma]).alloc (.cells #[.string ⟨#[]⟩, .slice none 0 0, .int .i64 0] 58)).alloc (.cells #[.string s, .slice none 0 0, .int .i64 0] 58)).keep hb
  have R2 := ((Blk.new2 w (.cells #[.string s, .slice A n c, .int .i64 ma] 50) 58 #[.string ⟨#[]⟩, .slice none 0 0, .int .i64 0]).alloc (.cells #[.string s, .slice none 0 0, .int .i64 0] 58)).keep hb
  have R3 := (Blk.new3 w (.cells #[.string s, .slice A n c, .int .i64 ma] 50) (.cells #[.string ⟨#[]⟩, .slice none 0 0, .int .i64 0] 58) 58 #[.string s, .slice none 0 0, .int .i64 0]).keep hb
  have f2 := R2.frozen
  have f3 := R3.frozen
  have b2 := (R1.cell 2).trans rfl
  have x0 := (R3.cell 0).trans rfl
  have x1 := (R3.cell 1).trans rfl
  have x2 := (R3.cell 2).trans rfl
  have y0 := (R2.cell 0).trans rfl
  have y1 := (R2.cell 1).trans rfl
  have y2 := (R2.cell 2).trans rfl
  have hbb := Lib.hid (HB.out.trans (hb.mono HB.out.size))
  have HN := Lib.hid (show StrOwn w1 (some ⟨w.heap.size + 1 + 1 + 1, 0, none⟩) n ss (w.heap.size + 1 + 1 + 1) by simpa using hnew)
  clear R1 R2 R3 hb hnew
  go_wp2
  refine bodyPost_ret (v := .agg #[.string s, .slice (some ⟨w.heap.size + 1 + 1 + 1, 0, none⟩) n n, .int .i64 ma]) (by simp [results, Try.results26, go_sem, y0, y1, y2]) rfl ?_
  refine ⟨w.heap.size + 1 + 1 + 1, rfl, ?_, by omega, by simp [World.setCell]; omega, ?_⟩
  · repeat (refine Below.setCell ?_ (by simp <;> omega) _)
    exact hbb.out
  · refine HN.out.same (fun _ => ?_)
    repeat (refine (Below.heap_setCell _ _ _ _ (by simp <;> omega)).trans ?_)
    rfl
set_option maxHeartbeats 1000000 in
theorem eqMelt_calls (s : ByteArray) (A B : Option Addr) (n c c2 : Nat) (ss : Nat → ByteArray) (ma : Int) (w : World) (h : StrRow w A n ss) (h2 : StrRow w B n ss) (hn : n ≤ 1048576) :
    Calls Try.prog 39 #[.agg #[.string s, .slice A n c, .int .i64 ma], .agg #[.string s, .slice B n c2, .int .i64 ma]] w fun e w' => e = .returned (.bool true) ∧ Below w.heap.size w w' := by
  have hB := ((Below.refl w.heap.size w).alloc (Nat.le_refl _) (.cells #[.string s, .slice A n c, .int .i64 ma] 58)).alloc (by simp) (.cells #[.string s, .slice B n c2, .int .i64 ma] 58)
  have H := Lib.hid (h.below hB (Nat.le_refl _))
  have H2 := Lib.hid (h2.below hB (Nat.le_refl _))
  have HB := Lib.hid hB
  have R1 := (Blk.new w 58 #[.string s, .slice A n c, .int .i64 ma]).alloc (.cells #[.string s, .slice B n c2, .int .i64 ma] 58)
  have R2 := Blk.new2 w (.cells #[.string s, .slice A n c, .int .i64 ma] 58) 58 #[.string s, .slice B n c2, .int .i64 ma]
  have HR1 := Lib.hid R1
  have HR2 := Lib.hid R2
  clear h h2 R1 R2 hB
  go_enter Try.func39, Try.ntmps39
  go_wp2_with (go_at_call 70; refine (eqStringS_calls _ _ _ _ _ _ _ H.out H2.out hn).mono ?_; rintro e w1 ⟨rfl, hb⟩; have b2 := ((HR1.out.keep hb).cell 2).trans rfl; have d2 := ((HR2.out.keep hb).cell 2).trans rfl; have hbb := Lib.hid (HB.out.trans (hb.mono HB.out.size)); clear hb)
  go_ret
  exact ⟨rfl, hbb.out⟩
theorem Melt_info : (Try.prog.info? 58).map (fun i => (i.zero, i.size, i.bytes)) = some (some (.agg #[.string ⟨#[]⟩, .slice none 0 0, .int .i64 0]), 3, 48) := by kernel_rfl
def MeltArrO (w : World) (base : Nat) (arr : Array Value) (m : Nat) (f : Nat → MeltV) : Prop := ∀ i, i < m → (arr[i * 3]? = some (.string (f i).id) ∧ arr[i * 3 + 2]? = some (.int .i64 (f i).ma)) ∧ ∃ g c, base < g ∧ g < w.heap.size ∧ arr[i * 3 + 1]? = some (.slice (some ⟨g, 0, none⟩) (f i).n c) ∧ StrOwn w (some ⟨g, 0, none⟩) (f i).n (f i).ss g
theorem MeltArrO.next {w w1 w2 : World} {base n k G : Nat} {arr : Array Value} {f : Nat → MeltV} (h : MeltArrO w base arr k f) (hs : arr.size = n * 3) (hk : k < n) (hb : Below w.heap.size w w1) (hg : base < w.heap.size) (h1 : w.heap.size ≤ G) (h2 : G < w1.heap.size) (hr : StrOwn w1 (some ⟨G, 0, none⟩) (f k).n (f k).ss G)
    (hw : ∀ g, g ≠ base → w2.heap[g]? = w1.heap[g]?) (hz : w1.heap.size = w2.heap.size) : MeltArrO w2 base (((arr.setIfInBounds (k * 3) (.string (f k).id)).setIfInBounds (k * 3 + 1) (.slice (some ⟨G, 0, none⟩) (f k).n (f k).n)).setIfInBounds (k * 3 + 2) (.int .i64 (f k).ma)) (k + 1) f := by
  intro i hi
  rcases Nat.lt_or_ge i k with q | q
  · obtain ⟨⟨a0, a1⟩, g, c, g1, g2, g3, g4⟩ := h i q
    refine ⟨⟨?_, ?_⟩, g, c, g1, ?_, ?_, ?_⟩
    · simp (disch := omega) only [Array.getElem?_setIfInBounds_ne]; exact a0
    · simp (disch := omega) only [Array.getElem?_setIfInBounds_ne]; exact a1
    · have := hb.size; omega
    · simp (disch := omega) only [Array.getElem?_setIfInBounds_ne]; exact g3
    · exact (g4.keep hb).same (fun _ => hw g (by omega))
  · obtain rfl : i = k := by omega
    refine ⟨⟨?_, ?_⟩, G, (f i).n, by omega, by omega, ?_, hr.same (fun _ => hw G (by omega))⟩
    · rw [Array.getElem?_setIfInBounds_ne (by omega), Array.getElem?_setIfInBounds_ne (by omega), Array.getElem?_setIfInBounds_self_of_lt (by (try simp); omega)]
    · rw [Array.getElem?_setIfInBounds_self_of_lt (by (try simp); omega)]
    · rw [Array.getElem?_setIfInBounds_ne (by omega), Array.getElem?_setIfInBounds_self_of_lt (by (try simp); omega)]
theorem MeltArrO.row {w : World} {g T n : Nat} {arr : Array Value} {f : Nat → MeltV} (h : MeltArrO w g arr n f) (hb : Blk w g T arr) : MeltRow w (some ⟨g, 0, none⟩) n f := fun _ =>
  ⟨g, 0, rfl, fun i hi => by
    obtain ⟨⟨a0, a1⟩, G, c, g1, g2, g3, g4⟩ := h i hi
    rw [Nat.zero_add]
    exact ⟨_, c, (hb.cell _).trans a0, (hb.cell _).trans g3, (hb.cell _).trans a1, g4.row⟩⟩
/-- a row of texts in blocks lo .. hi, whatever its values -/
def StrShape (w : World) (A : Option Addr) (n lo hi : Nat) : Prop := 0 < n → ∃ (g : Nat) (T : TypeId) (arr : Array Value), A = some ⟨g, 0, none⟩ ∧ lo ≤ g ∧ g < hi ∧ Blk w g T arr ∧ ∀ i, i < n → ∃ s, arr[i]? = some (.string s)
theorem StrShape.kin {w w' : World} {A : Option Addr} {n lo hi : Nat} (h : StrShape w A n lo hi) (hk : Kin lo hi w w') : StrShape w' A n lo hi := fun hn => by
  obtain ⟨g, T, arr, hA, h1, h2, hb, ha⟩ := h hn
  obtain ⟨a', b', -, e'⟩ := hk.near g T arr h1 h2 hb
  exact ⟨g, T, a', hA, h1, h2, b', fun i hi => by
    obtain ⟨s, hs⟩ := ha i hi
    exact kin_string (e' _) hs⟩
def MeltShape (w : World) (A : Option Addr) (n : Nat) (ns : Nat → Nat) (lo hi : Nat) : Prop := 0 < n → ∃ (g : Nat) (T : TypeId) (arr : Array Value), A = some ⟨g, 0, none⟩ ∧ lo ≤ g ∧ g < hi ∧ Blk w g T arr ∧ ∀ i, i < n → (∃ s, arr[i * 3]? = some (.string s)) ∧ (∃ m, arr[i * 3 + 2]? = some (.int .i64 m)) ∧ ∃ A2 c2, arr[i * 3 + 1]? = some (.slice A2 (ns i) c2) ∧ StrShape w A2 (ns i) lo hi
theorem MeltShape.kin {w w' : World} {A : Option Addr} {n lo hi : Nat} {ns : Nat → Nat} (h : MeltShape w A n ns lo hi) (hk : Kin lo hi w w') : MeltShape w' A n ns lo hi := fun hn => by
  obtain ⟨g, T, arr, hA, h1, h2, hb, ha⟩ := h hn
  obtain ⟨a', b', -, e'⟩ := hk.near g T arr h1 h2 hb
  exact ⟨g, T, a', hA, h1, h2, b', fun i hi => by
    obtain ⟨⟨s, hs⟩, ⟨m1, hm1⟩, A2, c2, hA2, hsh⟩ := ha i hi
    exact ⟨kin_string (e' _) hs, kin_int (e' _) hm1, A2, c2, kin_slice (e' _) hA2, hsh.kin hk⟩⟩
theorem MeltArrO.shape {w : World} {g T n : Nat} {arr : Array Value} {f : Nat → MeltV} (h : MeltArrO w g arr n f) (hb : Blk w g T arr) : MeltShape w (some ⟨g, 0, none⟩) n (fun i => (f i).n) g w.heap.size := fun hn => by
  refine ⟨g, T, arr, rfl, Nat.le_refl _, hb.lt, hb, fun i hi => ?_⟩
  obtain ⟨⟨a0, a1⟩, G, c, g1, g2, g3, g4⟩ := h i hi
  refine ⟨⟨_, a0⟩, ⟨_, a1⟩, _, c, g3, fun h0 => ?_⟩
  obtain ⟨-, arr2, hb2, -, ha2⟩ := g4 h0
  exact ⟨G, _, arr2, rfl, by omega, g2, hb2, fun j hj => ⟨_, ha2 j hj⟩⟩
set_option maxHeartbeats 2000000 in
theorem toMeltS_calls (A : Option Addr) (n c : Nat) (f : Nat → MeltV) (w : World) (h : MeltRow w A n f) (hf : ∀ i, i < n → (f i).n ≤ 1048576) (hn : n ≤ 1048576) :
    Calls Try.prog 8 #[.slice A n c] w fun e w' => e = .returned (.slice (some ⟨w.heap.size, 0, none⟩) n n) ∧ Below w.heap.size w w' ∧ w.heap.size < w'.heap.size ∧ MeltRow w' (some ⟨w.heap.size, 0, none⟩) n f ∧ MeltShape w' (some ⟨w.heap.size, 0, none⟩) n (fun i => (f i).n) w.heap.size w'.heap.size := by
  obtain ⟨ie, hi, hz0, hz1, hz2⟩ := info_parts Melt_info
  have hmk := run_make_rowN (P := Try.prog) 33 58 ie _ Try.underlying33 hi hz0 .i64 .i64 n n (Nat.le_refl _) (by rw [hz2]; omega) (by omega) w
  rw [hz1] at hmk
  have hsz0 := madeCells_size (Value.cells (.agg #[.string ⟨#[]⟩, .slice none 0 0, .int .i64 0])) (n * 3)
  generalize madeCells (Value.cells (.agg #[.string ⟨#[]⟩, .slice none 0 0, .int .i64 0])) (n * 3) = arr0 at hmk hsz0
  have HSZ := Lib.hid hsz0
  have H := Lib.hid h
  have HF := Lib.hid hf
  clear h hf hsz0 hi hz0 hz1 hz2
  go_enter Try.func8, Try.ntmps8
  go_wp2
  clear hmk
  go_loopw [4] (fun i wr => ∃ (k : Nat) (arr : Array Value), k ≤ n ∧ i = .int .i64 k ∧ Hid (arr.size = n * 3) ∧ Hid (Blk wr w.heap.size 58 arr) ∧ Below w.heap.size w wr ∧ w.heap.size < wr.heap.size ∧ Hid (MeltArrO wr w.heap.size arr k f)) (fun i _ => n - (intOf i).toNat)
  case atStart => exact ⟨0, arr0, by omega, rfl, HSZ, Blk.new w _ _, (Below.refl _ _).alloc (Nat.le_refl _) _, by simp, fun i hi => by omega⟩
  case round =>
    obtain ⟨k, arr, hk, rfl, hsz, hblk, hbr, hgt, hall⟩ := hrel
    by_cases hlt : k < n
    · have fn := HF.out k hlt
      obtain ⟨b, o, rfl, hrow⟩ := H.out (by omega)
      obtain ⟨AK, CK, c0, c1, c2, c3⟩ := (hrow k hlt).keep hbr
      have HR := Lib.hid hrow
      have C3 := Lib.hid c3
      clear hrow c3
      obtain ⟨x0, hx0⟩ := arr_some (arr := arr) (j := k * 3) (by have := hsz.out; omega)
      obtain ⟨x1, hx1⟩ := arr_some (arr := arr) (j := k * 3 + 1) (by have := hsz.out; omega)
      obtain ⟨x2, hx2⟩ := arr_some (arr := arr) (j := k * 3 + 2) (by have := hsz.out; omega)
      have HX0 := Lib.hid hx0
      have HX1 := Lib.hid hx1
      have HX2 := Lib.hid hx2
      clear hx0 hx1 hx2
      go_wp2_with fail
      go_at_call 26
      refine (toMelt_calls _ _ _ _ _ _ _ C3.out fn).mono ?_
      rintro e w1 ⟨G, rfl, hb, g1, g2, hrow⟩
      have hblk1 : Blk w1 w.heap.size 58 arr := hblk.out.below hb hgt
      have y0 := (Blk.cell hblk1 (k * 3)).trans HX0.out
      have z0 := Blk.frozen hblk1 (k * 3)
      have y1 := (Blk.cell hblk1 (k * 3 + 1)).trans HX1.out
      have z1 := Blk.frozen hblk1 (k * 3 + 1)
      have y2 := (Blk.cell hblk1 (k * 3 + 2)).trans HX2.out
      have z2 := Blk.frozen hblk1 (k * 3 + 2)
      have HB1 := Lib.hid hblk1
      have hnext := fun w2 => hall.out.next (w2 := w2) hsz.out hlt hb hgt g1 g2 hrow
      have HN := Lib.hid hnext
      have hbr2 := Lib.hid (hbr.trans (hb.mono hbr.size))
      have hgt2 := Nat.lt_of_lt_of_le hgt hb.size
      clear hblk1 hb hnext hrow hall hbr g1 g2
      go_wp2
      go_roundw
      case rel => exact ⟨k + 1, _, by omega, by go_num, by have := hsz.out; simpa [Hid] using this, (((HB1.out.set_ (k * 3) _).set_ (k * 3 + 1) _).set_ (k * 3 + 2) _), (((hbr2.out.setCell (Nat.le_refl _) _).setCell (Nat.le_refl _) _).setCell (Nat.le_refl _) _), by simpa using hgt2, HN.out _ (fun g hg => (Below.heap_setCell _ _ _ _ hg).trans ((Below.heap_setCell _ _ _ _ hg).trans (Below.heap_setCell _ _ _ _ hg))) (by simp [World.setCell])⟩
      case measure => simp [intOf]; omega
    · obtain rfl : k = n := by omega
      have hfin := Lib.hid (⟨hall.out.row hblk.out, hall.out.shape hblk.out⟩ : MeltRow wr (some ⟨w.heap.size, 0, none⟩) k f ∧ MeltShape wr (some ⟨w.heap.size, 0, none⟩) k (fun i => (f i).n) w.heap.size wr.heap.size)
      clear hall hblk hsz
      go_wp2
      go_ret
      exact ⟨rfl, hbr, hgt, hfin.out⟩
set_option maxHeartbeats 2000000 in
theorem eqMeltS_calls (A A2 : Option Addr) (n c c2 : Nat) (f : Nat → MeltV) (w : World) (h : MeltRow w A n f) (h2 : MeltRow w A2 n f) (hf : ∀ i, i < n → (f i).n ≤ 1048576) (hn : n ≤ 1048576) :
    Calls Try.prog 13 #[.slice A n c, .slice A2 n c2] w fun e w' => e = .returned (.bool true) ∧ Below w.heap.size w w' := by
  have H := Lib.hid h
  have H2 := Lib.hid h2
  have HF := Lib.hid hf
  clear h h2 hf
  go_enter Try.func13, Try.ntmps13
  go_wp2
  go_loopw [5] (fun i wr => ∃ k : Nat, k ≤ n ∧ i = .int .i64 k ∧ Below w.heap.size w wr) (fun i _ => n - (intOf i).toNat)
  case atStart => exact ⟨0, by omega, rfl, Below.refl _ _⟩
  case round =>
    obtain ⟨k, hk, rfl, hbr⟩ := hrel
    by_cases hlt : k < n
    · have fn := HF.out k hlt
      obtain ⟨b, o, rfl, hrow⟩ := H.out (by omega)
      obtain ⟨b2, o2, rfl, hrow2⟩ := H2.out (by omega)
      obtain ⟨AK, CK, c0, c1, c2, c3⟩ := (hrow k hlt).keep hbr
      obtain ⟨AL, CL, g0, g1, g2, g3⟩ := (hrow2 k hlt).keep hbr
      have HR := Lib.hid hrow
      have HR2 := Lib.hid hrow2
      clear hrow hrow2
      go_wp2_with fail
      refine wp_gen (fun W0 hW0 => ?_)
      have s0_ : Below w.heap.size w W0 := by rw [hW0]; exact hbr
      have s1_ : StrRow W0 AK (f k).n (f k).ss := by rw [hW0]; exact c3
      have s2_ : StrRow W0 AL (f k).n (f k).ss := by rw [hW0]; exact g3
      have s3_ : W0.cell? ⟨b, o + k * 3, none⟩ = some (.string (f k).id) := by rw [hW0]; exact c0
      have s4_ : W0.cell? ⟨b, o + k * 3 + 1, none⟩ = some (.slice AK (f k).n CK) := by rw [hW0]; exact c1
      have s5_ : W0.cell? ⟨b, o + k * 3 + 2, none⟩ = some (.int .i64 (f k).ma) := by rw [hW0]; exact c2
      have s6_ : W0.cell? ⟨b2, o2 + k * 3, none⟩ = some (.string (f k).id) := by rw [hW0]; exact g0
      have s7_ : W0.cell? ⟨b2, o2 + k * 3 + 1, none⟩ = some (.slice AL (f k).n CL) := by rw [hW0]; exact g1
      have s8_ : W0.cell? ⟨b2, o2 + k * 3 + 2, none⟩ = some (.int .i64 (f k).ma) := by rw [hW0]; exact g2
      clear c0 c1 c2 c3 g0 g1 g2 g3
      clear hW0
      refine wp_region_held_drew (S := fun w' => Below w.heap.size w w' ∧ StrRow w' AK (f k).n (f k).ss ∧ StrRow w' AL (f k).n (f k).ss ∧ w'.cell? ⟨b, o + k * 3, none⟩ = some (.string (f k).id) ∧ w'.cell? ⟨b, o + k * 3 + 1, none⟩ = some (.slice AK (f k).n CK) ∧ w'.cell? ⟨b, o + k * 3 + 2, none⟩ = some (.int .i64 (f k).ma) ∧ w'.cell? ⟨b2, o2 + k * 3, none⟩ = some (.string (f k).id) ∧ w'.cell? ⟨b2, o2 + k * 3 + 1, none⟩ = some (.slice AL (f k).n CL) ∧ w'.cell? ⟨b2, o2 + k * 3 + 2, none⟩ = some (.int .i64 (f k).ma)) (by kernel_rfl) ?_ (fun hHeld => ?_)
      · exact ⟨s0_.drew, s1_, s2_, s3_, s4_, s5_, s6_, s7_, s8_⟩
      clear s0_ s1_ s2_ s3_ s4_ s5_ s6_ s7_ s8_
      refine take_yes (i := 0) (d := 17) (v := ?_) _ rfl rfl (by kernel_rfl) (by kernel_rfl) (by kernel_rfl) (fun _ _ _ _ h => h) (by rfl) ?_ (by assumption) ?_
      rotate_left 1
      · ((intro w hSw; (try dsimp only at hSw); go_simp) <;> (try with_reducible rfl))
      (try simp only [Act.put, List.setIfInBounds_toArray, List.set_cons_zero, List.set_cons_succ])
      refine take_yes (i := 1) (d := 18) (v := ?_) _ rfl rfl (by kernel_rfl) (by kernel_rfl) (by kernel_rfl) (fun _ _ _ _ h => h) (by rfl) ?_ (by assumption) ?_
      rotate_left 1
      · ((intro w hSw; (try dsimp only at hSw); go_simp) <;> (try with_reducible rfl))
      (try simp only [Act.put, List.setIfInBounds_toArray, List.set_cons_zero, List.set_cons_succ])
      refine take_yes (i := 2) (d := 19) (v := ?_) _ rfl rfl (by kernel_rfl) (by kernel_rfl) (by kernel_rfl) (fun _ _ _ _ h => h) (by rfl) ?_ (by assumption) ?_
      rotate_left 1
      · ((intro w hSw; (try dsimp only at hSw); go_simp) <;> (try with_reducible rfl))
      (try simp only [Act.put, List.setIfInBounds_toArray, List.set_cons_zero, List.set_cons_succ])
      refine take_yes (i := 3) (d := 20) (v := ?_) _ rfl rfl (by kernel_rfl) (by kernel_rfl) (by kernel_rfl) (fun _ _ _ _ h => h) (by rfl) ?_ (by assumption) ?_
      rotate_left 1
      · ((intro w hSw; (try dsimp only at hSw); go_simp) <;> (try with_reducible rfl))
      (try simp only [Act.put, List.setIfInBounds_toArray, List.set_cons_zero, List.set_cons_succ])
      refine take_yes (i := 4) (d := 21) (v := ?_) _ rfl rfl (by kernel_rfl) (by kernel_rfl) (by kernel_rfl) (fun _ _ _ _ h => h) (by rfl) ?_ (by assumption) ?_
      rotate_left 1
      · ((intro w hSw; (try dsimp only at hSw); go_simp) <;> (try with_reducible rfl))
      (try simp only [Act.put, List.setIfInBounds_toArray, List.set_cons_zero, List.set_cons_succ])
      refine take_yes (i := 5) (d := 22) (v := ?_) _ rfl rfl (by kernel_rfl) (by kernel_rfl) (by kernel_rfl) (fun _ _ _ _ h => h) (by rfl) ?_ (by assumption) ?_
      rotate_left 1
      · ((intro w hSw; (try dsimp only at hSw); go_simp) <;> (try with_reducible rfl))
      (try simp only [Act.put, List.setIfInBounds_toArray, List.set_cons_zero, List.set_cons_succ])
      refine take_yes (i := 6) (d := 23) (v := ?_) _ rfl rfl (by kernel_rfl) (by kernel_rfl) (by kernel_rfl) (fun _ _ _ _ h => h) (by rfl) ?_ (by assumption) ?_
      rotate_left 1
      · ((intro w hSw; (try dsimp only at hSw); go_simp) <;> (try with_reducible rfl))
      (try simp only [Act.put, List.setIfInBounds_toArray, List.set_cons_zero, List.set_cons_succ])
      refine take_yes (i := 7) (d := 24) (v := ?_) _ rfl rfl (by kernel_rfl) (by kernel_rfl) (by kernel_rfl) (fun _ _ _ _ h => h) (by rfl) ?_ (by assumption) ?_
      rotate_left 1
      · ((intro w hSw; (try dsimp only at hSw); go_simp) <;> (try with_reducible rfl))
      (try simp only [Act.put, List.setIfInBounds_toArray, List.set_cons_zero, List.set_cons_succ])
      (refine wpAnyH_ready (rs := [8]) (by kernel_rfl) (by simp) ?_; refine AllReadyH.cons rfl (fun K hK => ?_) AllReadyH.nil; go_simp; go_at_call 39; refine (eqMelt_calls _ _ _ _ _ _ _ _ _ hHeld.2.1 hHeld.2.2.1 fn).mono ?_; rintro e wd ⟨rfl, hb⟩; refine hK.out _ _ (by obtain ⟨x0_, x1_, x2_, x3_, x4_, x5_, x6_, x7_, x8_⟩ := hHeld; exact ⟨x0_.trans (hb.mono x0_.size), x1_.keep hb, x2_.keep hb, cell_keep hb x3_, cell_keep hb x4_, cell_keep hb x5_, cell_keep hb x6_, cell_keep hb x7_, cell_keep hb x8_⟩) (fun hHeld2 => ?_); clear hK K hHeld hb; have hHeld := hHeld2; clear hHeld2; (try simp only [Act.put, List.setIfInBounds_toArray, List.set_cons_zero, List.set_cons_succ]))
      refine take_yes (i := 9) (d := 26) (v := ?_) _ rfl rfl (by kernel_rfl) (by kernel_rfl) (by kernel_rfl) (fun _ _ _ _ h => h) (by rfl) ?_ (by assumption) ?_
      rotate_left 1
      · ((intro w hSw; (try dsimp only at hSw); go_simp) <;> (try with_reducible rfl))
      (try simp only [Act.put, List.setIfInBounds_toArray, List.set_cons_zero, List.set_cons_succ])
      refine wpAnyH_done (by kernel_rfl) ?_ _
      obtain ⟨z0, z1, z2, z3, z4, z5, z6, z7, z8⟩ := hHeld
      go_wp2
      go_roundw
      case rel => exact ⟨k + 1, by omega, by go_num, z0⟩
      case measure => simp [intOf]; omega
    · obtain rfl : k = n := by omega
      go_wp2
      go_ret
      exact ⟨rfl, hbr⟩
set_option maxHeartbeats 2000000 in
theorem markStringS_kin (A : Option Addr) (n c lo hi k : Nat) (w : World) (h : StrShape w A n lo hi) (hw : hi ≤ w.heap.size) (hn : n ≤ 1048576) (h1 : 1 ≤ k) (hk : k ≤ 1000000000) :
    Calls Try.prog 42 #[.slice A n c, .int .i64 k] w fun e w' => e = .returned (.int .i64 ((k + n : Nat) : Int)) ∧ Kin lo hi w w' := by
  have H := Lib.hid h
  clear h
  go_enter Try.func42, Try.ntmps42
  go_wp2
  go_loopw [1, 5] (fun q i wr => ∃ j : Nat, j ≤ n ∧ q = .int .i64 ((k + j : Nat) : Int) ∧ i = .int .i64 j ∧ Hid (Kin lo hi w wr)) (fun _ i _ => n - (intOf i).toNat)
  case atStart => exact ⟨0, by omega, rfl, rfl, Lib.hid (Kin.refl _ _ _)⟩
  case round =>
    obtain ⟨j, hj, rfl, rfl, hg⟩ := hrel
    by_cases hlt : j < n
    · obtain ⟨g, T, arr, rfl, l1, l2, hb, ha⟩ := (H.out.kin hg.out) (by omega)
      obtain ⟨x0, hx0⟩ := ha j hlt
      have HX0 := Lib.hid hx0
      have HB := Lib.hid hb
      obtain ⟨M, hM⟩ : ∃ M : Nat, M = k + j := ⟨_, rfl⟩
      rw [← hM]
      have hMb : M ≤ 4000000000 := by omega
      have hM1 : 1 ≤ M := by omega
      have HM := Lib.hid hM
      clear hb ha hM hx0
      go_wp2_with (go_at_call 41; refine (markTx_calls M _ hM1 hMb).mono ?_; rintro e w1 ⟨rfl, hb⟩; have hb1 := HB.out.keep hb; have y0 := (hb1.cell j).trans HX0.out; have f0 := hb1.frozen; have HB1 := Lib.hid hb1; have HG1 := Lib.hid (hg.out.trans (Kin.of hb)); clear hb1 hb)
      go_roundw
      case rel =>
        refine ⟨j + 1, by omega, by have := HM.out; go_num, by go_num, Lib.hid ?_⟩
        exact HG1.out.trans (Kin.set HB1.out HX0.out rfl l1 l2)
      case measure => simp [intOf]; omega
    · obtain rfl : j = n := by omega
      go_wp2
      go_ret
      exact ⟨rfl, hg.out⟩
set_option maxRecDepth 20000 in
set_option maxHeartbeats 4000000 in
theorem markMeltS_kin (A : Option Addr) (n c lo hi k : Nat) (ns : Nat → Nat) (w : World) (h : MeltShape w A n ns lo hi) (hw : hi ≤ w.heap.size) (hn : n + sumN ns n ≤ 1048576) (h1 : 1 ≤ k) (hk : k ≤ 100000000) :
    Calls Try.prog 15 #[.slice A n c, .int .i64 k] w fun e w' => e = .returned (.int .i64 ((k + 2 * n + sumN ns n : Nat) : Int)) ∧ Kin lo hi w w' := by
  have H := Lib.hid h
  clear h
  go_enter Try.func15, Try.ntmps15
  go_wp2
  go_loopw [1, 5] (fun q i wr => ∃ j : Nat, j ≤ n ∧ q = .int .i64 ((k + 2 * j + sumN ns j : Nat) : Int) ∧ i = .int .i64 j ∧ Hid (Kin lo hi w wr)) (fun _ i _ => n - (intOf i).toNat)
  case atStart => exact ⟨0, by omega, rfl, rfl, Lib.hid (Kin.refl _ _ _)⟩
  case round =>
    obtain ⟨j, hj, rfl, rfl, hg⟩ := hrel
    by_cases hlt : j < n
    · obtain ⟨g, T, arr, rfl, l1, l2, hb, ha⟩ := (H.out.kin hg.out) (by omega)
      obtain ⟨⟨x0, hx0⟩, ⟨x2, hx2⟩, A2, c2, hx1, hsh⟩ := ha j hlt
      have HX0 := Lib.hid hx0
      have HX1 := Lib.hid hx1
      have HX2 := Lib.hid hx2
      have HB := Lib.hid hb
      have HSH := Lib.hid hsh
      have s1 := sumN_le ns (show j + 1 ≤ n by omega)
      have s2 : sumN ns (j + 1) = sumN ns j + ns j := rfl
      obtain ⟨M, hM⟩ : ∃ M : Nat, M = k + 2 * j + sumN ns j := ⟨_, rfl⟩
      rw [← hM]
      have hMb : M ≤ 900000000 := by omega
      have hM1 : 1 ≤ M := by omega
      have hnj : ns j ≤ 1048576 := by omega
      have HM := Lib.hid hM
      have HS2 := Lib.hid s2
      clear hb ha hM hx0 hx1 hx2 hsh s1 s2
      go_wp2_with fail
      go_at_call 41
      refine (markTx_calls M _ hM1 (by omega)).mono ?_
      rintro e w1 ⟨rfl, hb⟩
      have hb1 := HB.out.keep hb
      have y0 := (hb1.cell (j * 3)).trans HX0.out
      have y1 := (hb1.cell (j * 3 + 1)).trans HX1.out
      have f0 := hb1.frozen
      have HB1 := Lib.hid hb1
      have HSZ1 := Lib.hid (Nat.le_trans hg.out.size hb.size)
      have HG1 := Lib.hid (hg.out.trans (Kin.of hb))
      have HSH1 := Lib.hid (HSH.out.kin (lo := lo) (hi := hi) (Kin.of hb))
      clear hb1 hb
      go_wp2_with fail
      go_at_call 42
      have HK4 := Lib.hid (Kin.set (v := .string (mkT M)) HB1.out HX0.out rfl l1 l2)
      have HA4 := Lib.hid (HSH1.out.kin HK4.out)
      have HZ4 := Lib.hid (Nat.le_trans hw (Nat.le_trans HSZ1.out HK4.out.size))
      have HKS := Lib.hid (fun W q1 q2 => markStringS_kin A2 (ns j) c2 lo hi (M + 1) W q1 q2 hnj (by omega) (by omega))
      have e4 : ((M + 1 : Nat) : Int) = (M : Int) + 1 := by omega
      rw [e4] at HKS
      clear y0 y1 f0
      refine (HKS.out _ HA4.out HZ4.out).mono ?_
      rintro e w2 ⟨rfl, hk5⟩
      have hg2 := (HG1.out.trans HK4.out).trans hk5
      have HG2 := Lib.hid hg2
      obtain ⟨a5, b5, s5, e5⟩ := (HK4.out.trans hk5).near g T arr l1 l2 HB1.out
      obtain ⟨m5, hm5⟩ := kin_int (e5 _) HX2.out
      have y2 := (b5.cell (j * 3 + 2)).trans hm5
      have f2 := b5.frozen
      have HB5 := Lib.hid b5
      have HM5 := Lib.hid hm5
      obtain ⟨M2, hM2⟩ : ∃ M2 : Nat, M2 = M + 1 + ns j := ⟨_, rfl⟩
      rw [← hM2]
      have hMb2 : M2 ≤ 2000000000 := by omega
      have HM2 := Lib.hid hM2
      clear hk5 e4 hg2 b5 hm5 e5 hM2
      go_wp2
      go_roundw
      case rel => exact ⟨j + 1, by omega, by have h1 := HM.out; have h2 := HS2.out; have h3 := HM2.out; go_num, by go_num, Lib.hid (HG2.out.trans (Kin.set HB5.out HM5.out rfl l1 l2))⟩
      case measure => simp [intOf]; omega
    · obtain rfl : j = n := by omega
      go_wp2
      go_ret
      exact ⟨rfl, hg.out⟩
open Go.ChangeShapes Go.WideShapes Go.Deep in
theorem slice_cellM {H : Type} {enc : TypeId × Value → H} {P : Program} {w : World} {base : Nat} {spare : Nat → Bool} {held : Bool} {t e : TypeId} {fuel : Nat} {v : Value} {x : DataW H × List MemPlace} (ht : P.underlying t = some (.slice e)) (h : DataW.trod enc P w base spare held fuel t [v] = some x) :
    ∃ A n c, v = .slice A n c := by
  rcases open_slice ht h with ⟨hcs, -⟩ | ⟨a, len, cap, m, fu, D, Pl, hcs, -⟩
  · exact ⟨_, _, _, one_cell hcs⟩
  · exact ⟨_, _, _, one_cell hcs⟩
open Go.ChangeShapes Go.WideShapes Go.Deep in
theorem openMeltS {H : Type} {enc : TypeId × Value → H} {w : World} {base : Nat} {spare : Nat → Bool} {held : Bool} {fuel : Nat} {A : Option Addr} {n c : Nat} {x : DataW H × List MemPlace} (h : DataW.trod enc Try.prog w base spare held fuel 22 [.slice A n c] = some x) :
    ∃ f, MeltRow w A n f ∧ n ≤ maxLen ∧ ∀ i, i < n → FitM (f i) := by
  rcases open_slice Try.underlying22 h with ⟨hcs, hx⟩ | ⟨a, len, cap, m, fu, D, Pl, hcs, hb, hl, hm, hmm, hx, hi⟩
  · simp only [List.cons.injEq, Value.slice.injEq, and_true] at hcs
    obtain ⟨rfl, rfl, rfl⟩ := hcs
    exact ⟨fun _ => ⟨⟨#[]⟩, 0, fun _ => ⟨#[]⟩, 0⟩, fun h0 => by omega, by unfold maxLen; omega, fun i h0 => by omega⟩
  · simp only [List.cons.injEq, Value.slice.injEq, and_true] at hcs
    obtain ⟨rfl, rfl, rfl⟩ := hcs
    have hlm : n ≤ m := by rw [hmm]; split <;> omega
    have hC : Try.prog.cellsOf 50 = 3 := by kernel_rfl
    rw [hC] at hi
    have hall : ∀ i, ∃ t : MeltV, i < n → MeltAt w a.block (a.off + i * 3) t ∧ FitM t := by
      intro i
      by_cases hin : i < n
      · obtain ⟨cs, hc, ht⟩ := hi i (by omega)
        obtain ⟨-, hcl, hat⟩ := Go.World.cells?_some hc
        obtain ⟨hln, m2, hg⟩ := fields_of Try.underlying50 (by kernel_rfl) (by kernel_rfl) ht
        obtain ⟨v0, v1, v2, rfl⟩ := list3 hln
        obtain ⟨y0, t0⟩ := hg 0 _ rfl v0 rfl
        obtain ⟨y1, t1⟩ := hg 1 _ rfl v1 rfl
        obtain ⟨y2, t2⟩ := hg 2 _ rfl v2 rfl
        have k0 := hat 0 (by omega)
        have k1 := hat 1 (by omega)
        have k2 := hat 2 (by omega)
        obtain ⟨x0, e0, _, q0⟩ := DataW.trod_string Try.underlying9 t0
        obtain rfl := one_cell e0
        obtain ⟨x2, e2, _, q2⟩ := DataW.trod_int Try.underlying2 t2
        obtain rfl := one_cell e2
        obtain ⟨SA, sn, sc, rfl⟩ := slice_cellM Try.underlying48 t1
        obtain ⟨ss, hr, hsn, hss⟩ := openStrs t1
        exact ⟨⟨x0, sn, ss, x2⟩, fun _ => ⟨⟨SA, sc, cell_add2 k0 (by omega), cell_add2 k1 (by omega), cell_add2 k2 (by omega), hr⟩, q0, hss, hsn⟩⟩
      · exact ⟨⟨⟨#[]⟩, 0, fun _ => ⟨#[]⟩, 0⟩, fun h0 => absurd h0 hin⟩
    obtain ⟨F, hF⟩ := Classical.axiomOfChoice hall
    refine ⟨F, fun hn => ?_, by omega, fun i h0 => (hF i h0).2⟩
    refine ⟨a.block, a.off, ?_, fun i h0 => (hF i h0).1⟩
    obtain ⟨b, o, spot⟩ := a
    obtain ⟨cs, hc, ht⟩ := hi 0 (by omega)
    obtain ⟨-, hcl, hat⟩ := Go.World.cells?_some hc
    have k0 := hat 0 (by omega)
    rw [List.getElem?_eq_getElem (show 0 < cs.length by omega)] at k0
    have hspot : spot = none := by simpa [Addr.add] using Go.World.cell?_spot k0
    rw [hspot]
end Go.Proofs.Yticnpibkpfpojaa
