/- Ingots: how they read, their size, copy and comparison; which are valid. -/
import Derived.Test.YtkilfapknemjhaaBin
import Derived.Test.YtkilfapknemjhaaName
import Derived.Test.YtkilfapknemjhaaPred
import Derived.Test.YtkilfapknemjhaaRowBase
import Derived.Test.YtkilfapknemjhaaFrame
import Derived.Deep.RegionHeld3
import Derived.KernelRfl
import Derived.ShutString
import Derived.ChangeShapes
namespace Go.Proofs.Ytkilfapknemjhaa
set_option linter.unusedVariables false
set_option linter.unusedSimpArgs false
open Go.RowKit

noncomputable def alloyB (c t o : Int) : Bool := inB c 0 1000000 && (inB t 0 1000000 && (inB o 0 1000000 && c + t + o == 1000000))
noncomputable def ingB (s : ByteArray) (m c t o : Int) : Bool := nameB s && (inB m 1 20000000 && alloyB c t o)
theorem alloyB_of {c t o : Int} (h : alloyB c t o = true) : (0 ≤ c ∧ c ≤ 1000000) ∧ (0 ≤ t ∧ t ≤ 1000000) ∧ (0 ≤ o ∧ o ≤ 1000000) ∧ c + t + o = 1000000 := by
  simp only [alloyB, Bool.and_eq_true] at h
  exact ⟨inB_iff.1 h.1, inB_iff.1 h.2.1, inB_iff.1 h.2.2.1, eq_of_beq h.2.2.2⟩
theorem ingB_of {s : ByteArray} {m c t o : Int} (h : ingB s m c t o = true) : (1 ≤ m ∧ m ≤ 20000000) ∧ (0 ≤ c ∧ c ≤ 1000000) ∧ (0 ≤ t ∧ t ≤ 1000000) ∧ (0 ≤ o ∧ o ≤ 1000000) ∧ c + t + o = 1000000 := by
  simp only [ingB, Bool.and_eq_true] at h
  exact ⟨inB_iff.1 h.2.1, alloyB_of h.2.2⟩
set_option maxHeartbeats 400000 in
theorem toAlloy_calls (a0 : Int) (a1 : Int) (a2 : Int) (w : World) :
    Calls Try.prog 166 #[.agg #[.int .i64 a0, .int .i64 a1, .int .i64 a2]] w fun e w' => e = .returned (.agg #[.int .i64 a0, .int .i64 a1, .int .i64 a2]) ∧ Below w.heap.size w w' := by
  go_enter Try.func166, Try.ntmps166
  go_wp2
  refine bodyPost_ret (v := .agg #[.int .i64 a0, .int .i64 a1, .int .i64 a2]) (by simp [results, Try.results166, go_sem]) rfl ⟨rfl, ?_⟩
  go_grown
set_option maxHeartbeats 400000 in
theorem eqAlloy_calls (a0 : Int) (a1 : Int) (a2 : Int) (w : World) :
    Calls Try.prog 41 #[.agg #[.int .i64 a0, .int .i64 a1, .int .i64 a2], .agg #[.int .i64 a0, .int .i64 a1, .int .i64 a2]] w fun e w' => e = .returned (.bool true) ∧ Below w.heap.size w w' := by
  go_enter Try.func41, Try.ntmps41
  go_wp2
  go_ret
  exact ⟨rfl, ((Below.refl _ _).alloc (Nat.le_refl _) _).alloc (by simp) _⟩
set_option maxHeartbeats 1000000 in
theorem toIngot_calls (s0 : ByteArray) (a1 a2 a3 a4 : Int) (w : World) :
    Calls Try.prog 104 #[.agg #[.string s0, .int .i64 a1, .int .i64 a2, .int .i64 a3, .int .i64 a4]] w fun e w' => e = .returned (.agg #[.string s0, .int .i64 a1, .int .i64 a2, .int .i64 a3, .int .i64 a4]) ∧ Below w.heap.size w w' := by
  have hB := ((Below.refl w.heap.size w).alloc (Nat.le_refl _) (.cells #[.string s0, .int .i64 a1, .int .i64 a2, .int .i64 a3, .int .i64 a4] 161)).alloc (by simp) (.cells #[.string ⟨#[]⟩, .int .i64 0, .int .i64 0, .int .i64 0, .int .i64 0] 178) |>.alloc (by simp <;> omega) (.cells #[.string s0, .int .i64 a1, .int .i64 0, .int .i64 0, .int .i64 0] 178)
  have HB := Lib.hid hB
  clear hB
  go_enter Try.func104, Try.ntmps104
  go_wp2_with fail
  go_at_call 166
  refine (toAlloy_calls _ _ _ _).mono ?_
  rintro e w1 ⟨rfl, hb⟩
  have R2 := ((Blk.new2 w (.cells #[.string s0, .int .i64 a1, .int .i64 a2, .int .i64 a3, .int .i64 a4] 161) 178 #[.string ⟨#[]⟩, .int .i64 0, .int .i64 0, .int .i64 0, .int .i64 0]).alloc (.cells #[.string s0, .int .i64 a1, .int .i64 0, .int .i64 0, .int .i64 0] 178)).keep hb
  have R3 := (Blk.new3 w (.cells #[.string s0, .int .i64 a1, .int .i64 a2, .int .i64 a3, .int .i64 a4] 161) (.cells #[.string ⟨#[]⟩, .int .i64 0, .int .i64 0, .int .i64 0, .int .i64 0] 178) 178 #[.string s0, .int .i64 a1, .int .i64 0, .int .i64 0, .int .i64 0]).keep hb
  have f2 := R2.frozen
  have f3 := R3.frozen
  have x0 := (R3.cell 0).trans rfl
  have x1 := (R3.cell 1).trans rfl
  have x2 := (R3.cell 2).trans rfl
  have x3 := (R3.cell 3).trans rfl
  have x4 := (R3.cell 4).trans rfl
  have y0 := (R2.cell 0).trans rfl
  have y1 := (R2.cell 1).trans rfl
  have y2 := (R2.cell 2).trans rfl
  have y3 := (R2.cell 3).trans rfl
  have y4 := (R2.cell 4).trans rfl
  have hbb := Lib.hid (HB.out.trans (hb.mono HB.out.size))
  clear R2 R3 hb
  go_wp2
  refine bodyPost_ret (v := .agg #[.string s0, .int .i64 a1, .int .i64 a2, .int .i64 a3, .int .i64 a4]) (by simp [results, Try.results104, go_sem, y0, y1, y2, y3, y4]) rfl ?_
  refine ⟨rfl, ?_⟩
  repeat (refine Below.setCell ?_ (by simp <;> omega) _)
  exact hbb.out
theorem szIngot_calls (s0 : ByteArray) (a1 a2 a3 a4 : Int) (n : Int) (w : World) (hs : s0.size ≤ maxLen) (h0 : 0 ≤ n) (h1 : n ≤ 4611686018427387904) :
    Calls Try.prog 95 #[.agg #[.string s0, .int .i64 a1, .int .i64 a2, .int .i64 a3, .int .i64 a4], .int .i64 n] w fun e w' => e = .returned (.int .i64 (if n < s0.size then -1 else n - s0.size)) ∧ Below w.heap.size w w' := by
  unfold maxLen at hs
  by_cases h : n < s0.size
  · rw [if_pos h]
    go_enter Try.func95, Try.ntmps95
    go_wp2
    go_ret
    exact ⟨rfl, (Below.refl _ _).alloc (Nat.le_refl _) _⟩
  · rw [if_neg h]
    go_enter Try.func95, Try.ntmps95
    go_wp2
    go_ret
    exact ⟨rfl, (Below.refl _ _).alloc (Nat.le_refl _) _⟩
set_option maxHeartbeats 1000000 in
theorem eqIngot_calls (s0 : ByteArray) (a1 a2 a3 a4 : Int) (w : World) :
    Calls Try.prog 112 #[.agg #[.string s0, .int .i64 a1, .int .i64 a2, .int .i64 a3, .int .i64 a4], .agg #[.string s0, .int .i64 a1, .int .i64 a2, .int .i64 a3, .int .i64 a4]] w fun e w' => e = .returned (.bool true) ∧ Below w.heap.size w w' := by
  have hB := ((Below.refl w.heap.size w).alloc (Nat.le_refl _) (.cells #[.string s0, .int .i64 a1, .int .i64 a2, .int .i64 a3, .int .i64 a4] 178)).alloc (by simp) (.cells #[.string s0, .int .i64 a1, .int .i64 a2, .int .i64 a3, .int .i64 a4] 178)
  go_enter Try.func112, Try.ntmps112
  go_wp2_with (go_at_call 41; refine (eqAlloy_calls _ _ _ _).mono ?_; rintro e w1 ⟨rfl, hb⟩)
  go_ret
  exact ⟨rfl, hB.trans (hb.mono (by simp <;> omega))⟩
open Go.ChangeShapes Go.WideShapes Go.Deep in
theorem ingot_fields {H : Type} {enc : TypeId × Value → H} {w : World} {base : Nat} {spare : Nat → Bool} {held : Bool} {fuel : Nat} {cs : List Value} {x : DataW H × List MemPlace} (h : DataW.trod enc Try.prog w base spare held fuel 161 cs = some x) :
    cs.length = 5 ∧ True ∧ ∀ (i : Nat) (T : TypeId), (#[9, 2, 2, 2, 2] : Array TypeId)[i]? = some T → ∀ c, cs[i]? = some c → ∃ y : Nat × (DataW H × List MemPlace), DataW.trod enc Try.prog w base spare held y.1 T [c] = some y.2 := by
  obtain ⟨xs, n, _, _, hlen, hxl, hf⟩ := DataW.trod_struct Try.underlying161 h
  have hC : Try.prog.cellsOf 161 = 5 := by kernel_rfl
  have hl : cs.length = 5 := hlen.trans hC
  obtain ⟨v0, v1, v2, v3, v4, rfl⟩ := list5 hl
  have h0 : DataW.trod enc Try.prog w base spare held n 9 (List.take (Try.prog.cellsOf 9) (List.drop 0 [v0, v1, v2, v3, v4])) = xs[0]? := hf 0 _ rfl
  have h1 : DataW.trod enc Try.prog w base spare held n 2 (List.take (Try.prog.cellsOf 2) (List.drop 1 [v0, v1, v2, v3, v4])) = xs[1]? := hf 1 _ rfl
  have h2 : DataW.trod enc Try.prog w base spare held n 159 (List.take (Try.prog.cellsOf 159) (List.drop 2 [v0, v1, v2, v3, v4])) = xs[2]? := hf 2 _ rfl
  have k0 : Try.prog.cellsOf 9 = 1 := by kernel_rfl
  have k1 : Try.prog.cellsOf 2 = 1 := by kernel_rfl
  have k2 : Try.prog.cellsOf 159 = 3 := by kernel_rfl
  rw [k0] at h0
  rw [k1] at h1
  rw [k2] at h2
  have hxl3 : xs.length = 3 := hxl
  rw [List.getElem?_eq_getElem (show 0 < xs.length by omega)] at h0
  rw [List.getElem?_eq_getElem (show 1 < xs.length by omega)] at h1
  rw [List.getElem?_eq_getElem (show 2 < xs.length by omega)] at h2
  obtain ⟨-, m, hg⟩ := fields_of Try.underlying159 (by kernel_rfl) (by kernel_rfl) h2
  refine ⟨rfl, trivial, ?_⟩
  intro i T hi c hc
  match i, hi, hc with
  | 0, hi, hc => cases hi; cases hc; exact ⟨(n, _), h0⟩
  | 1, hi, hc => cases hi; cases hc; exact ⟨(n, _), h1⟩
  | 2, hi, hc => cases hi; cases hc; obtain ⟨y, hy⟩ := hg 0 _ rfl v2 rfl; exact ⟨(m, y), hy⟩
  | 3, hi, hc => cases hi; cases hc; obtain ⟨y, hy⟩ := hg 1 _ rfl v3 rfl; exact ⟨(m, y), hy⟩
  | 4, hi, hc => cases hi; cases hc; obtain ⟨y, hy⟩ := hg 2 _ rfl v4 rfl; exact ⟨(m, y), hy⟩
  | i + 5, hi, _ => simp at hi
/-- element of type Ingot at ⟨b, o⟩ -/
def IngotAt (w : World) (b o : Nat) (s0 : ByteArray) (a1 : Int) (a2 : Int) (a3 : Int) (a4 : Int) : Prop := w.cell? ⟨b, o, none⟩ = some (.string s0) ∧ w.cell? ⟨b, o + 1, none⟩ = some (.int .i64 a1) ∧ w.cell? ⟨b, o + 2, none⟩ = some (.int .i64 a2) ∧ w.cell? ⟨b, o + 3, none⟩ = some (.int .i64 a3) ∧ w.cell? ⟨b, o + 4, none⟩ = some (.int .i64 a4)
/-- the slice at A reads as n elements -/
def IngotRow (w : World) (A : Option Addr) (n : Nat) (s0 : Nat → ByteArray) (a1 : Nat → Int) (a2 : Nat → Int) (a3 : Nat → Int) (a4 : Nat → Int) : Prop := 0 < n → ∃ b o, A = some ⟨b, o, none⟩ ∧ ∀ i, i < n → IngotAt w b (o + i * 5) (s0 i) (a1 i) (a2 i) (a3 i) (a4 i)
theorem IngotAt.lt {w : World} {b o : Nat} {s0 : ByteArray} {a1 : Int} {a2 : Int} {a3 : Int} {a4 : Int} (h : IngotAt w b o s0 a1 a2 a3 a4) : b < w.heap.size := cell_lt h.1
theorem IngotAt.below {w w' : World} {b o B : Nat} {s0 : ByteArray} {a1 : Int} {a2 : Int} {a3 : Int} {a4 : Int} (h : IngotAt w b o s0 a1 a2 a3 a4) (hb : Below B w w') (hB : w.heap.size ≤ B) : IngotAt w' b o s0 a1 a2 a3 a4 :=
  ⟨(hb.cell (p := ⟨b, o, none⟩) (Nat.lt_of_lt_of_le (IngotAt.lt h) hB)).trans h.1, (hb.cell (p := ⟨b, o + 1, none⟩) (Nat.lt_of_lt_of_le (IngotAt.lt h) hB)).trans h.2.1, (hb.cell (p := ⟨b, o + 2, none⟩) (Nat.lt_of_lt_of_le (IngotAt.lt h) hB)).trans h.2.2.1, (hb.cell (p := ⟨b, o + 3, none⟩) (Nat.lt_of_lt_of_le (IngotAt.lt h) hB)).trans h.2.2.2.1, (hb.cell (p := ⟨b, o + 4, none⟩) (Nat.lt_of_lt_of_le (IngotAt.lt h) hB)).trans h.2.2.2.2⟩
theorem IngotRow.below {w w' : World} {A : Option Addr} {n B : Nat} {s0 : Nat → ByteArray} {a1 : Nat → Int} {a2 : Nat → Int} {a3 : Nat → Int} {a4 : Nat → Int} (h : IngotRow w A n s0 a1 a2 a3 a4) (hb : Below B w w') (hB : w.heap.size ≤ B) : IngotRow w' A n s0 a1 a2 a3 a4 := fun hn => by
  obtain ⟨b, o, hA, hall⟩ := h hn
  exact ⟨b, o, hA, fun i hi => (hall i hi).below hb hB⟩
theorem IngotRow.same {w w' : World} {g q n : Nat} {s0 : Nat → ByteArray} {a1 : Nat → Int} {a2 : Nat → Int} {a3 : Nat → Int} {a4 : Nat → Int} (h : IngotRow w (some ⟨g, q, none⟩) n s0 a1 a2 a3 a4) (hb : w'.heap[g]? = w.heap[g]?) : IngotRow w' (some ⟨g, q, none⟩) n s0 a1 a2 a3 a4 := fun hn => by
  obtain ⟨b, o, hA, hall⟩ := h hn
  simp only [Option.some.injEq, Addr.mk.injEq, and_true] at hA
  obtain ⟨rfl, rfl⟩ := hA
  exact ⟨g, q, rfl, fun i hi => ⟨(World.cell?_of_block (w := w) (a := ⟨g, q + i * 5, none⟩) hb).trans (hall i hi).1, (World.cell?_of_block (w := w) (a := ⟨g, q + i * 5 + 1, none⟩) hb).trans (hall i hi).2.1, (World.cell?_of_block (w := w) (a := ⟨g, q + i * 5 + 2, none⟩) hb).trans (hall i hi).2.2.1, (World.cell?_of_block (w := w) (a := ⟨g, q + i * 5 + 3, none⟩) hb).trans (hall i hi).2.2.2.1, (World.cell?_of_block (w := w) (a := ⟨g, q + i * 5 + 4, none⟩) hb).trans (hall i hi).2.2.2.2⟩⟩
set_option maxHeartbeats 1000000 in
theorem szIngotS_calls (A : Option Addr) (n c : Nat) (s0 : Nat → ByteArray) (a1 : Nat → Int) (a2 : Nat → Int) (a3 : Nat → Int) (a4 : Nat → Int) (left : Int) (w : World) (h : IngotRow w A n s0 a1 a2 a3 a4) (hs : ∀ i, i < n → (s0 i).size ≤ maxLen) (hn : n ≤ maxLen) (h0 : 0 ≤ left) (h1 : left ≤ 4611686018427387904) :
    Calls Try.prog 33 #[.slice A n c, .int .i64 left] w fun e w' => e = .returned (.int .i64 (if left < (n : Int) + sumS s0 n then -1 else left - ((n : Int) + sumS s0 n))) ∧ Below w.heap.size w w' := by
  unfold maxLen at hn
  by_cases hl : left < n
  · rw [if_pos (by omega)]
    go_enter Try.func33, Try.ntmps33
    go_wp2
    go_ret
    exact ⟨rfl, Below.refl _ _⟩
  · have H := Lib.hid h
    have HS := Lib.hid hs
    clear h hs
    generalize hres : (if left < (n : Int) + sumS s0 n then (-1 : Int) else left - ((n : Int) + sumS s0 n)) = R
    have HRES := Lib.hid hres
    clear hres
    go_enter Try.func33, Try.ntmps33
    go_wp2
    go_loopw [1, 5] (fun l i wr => ∃ k q : Nat, k ≤ n ∧ l = .int .i64 (left - n - q) ∧ i = .int .i64 k ∧ (q : Int) ≤ left - n ∧ Hid (q = sumS s0 k) ∧ Below w.heap.size w wr) (fun _ i _ => n - (intOf i).toNat)
    case atStart => exact ⟨0, 0, by omega, by simp, rfl, by omega, rfl, Below.refl _ _⟩
    case round =>
      obtain ⟨k, q, hk, rfl, rfl, hq, hv, hbr⟩ := hrel
      by_cases hlt : k < n
      · have hsk := HS.out k hlt
        have hmono := sumS_le s0 (show k + 1 ≤ n by omega)
        have hstep : Hid (sumS s0 (k + 1) = sumS s0 k + (s0 k).size) := rfl
        have hmono2 := Lib.hid hmono
        clear hmono
        obtain ⟨b, o, rfl, hall⟩ := H.out (by omega)
        obtain ⟨c0, c1, c2, c3, c4⟩ := (hall k hlt).below hbr (Nat.le_refl _)
        have HALL := Lib.hid hall
        clear hall
        by_cases hbig : left - n - q < (s0 k).size
        · go_wp2_with (go_at_call 95; refine (szIngot_calls _ _ _ _ _ _ _ hsk (by omega) (by omega)).mono ?_; rintro e w1 ⟨rfl, hb⟩; rw [if_pos (by omega)]; have hbr2 : Below w.heap.size w w1 := hbr.trans (hb.mono hbr.size); clear hb)
          go_ret
          exact ⟨ret_int (by have h1 := hv.out; have h2 := hstep.out; have h3 := hmono2.out; rw [← HRES.out, if_pos (by omega)]), hbr2⟩
        · go_wp2_with (go_at_call 95; refine (szIngot_calls _ _ _ _ _ _ _ hsk (by omega) (by omega)).mono ?_; rintro e w1 ⟨rfl, hb⟩; rw [if_neg (by omega)]; have hbr2 : Below w.heap.size w w1 := hbr.trans (hb.mono hbr.size); clear hb)
          go_roundw
          case rel => exact ⟨k + 1, q + (s0 k).size, by omega, by congr 1; omega, by go_num, by omega, Lib.hid (by have h1 := hv.out; have h2 := hstep.out; omega), hbr2⟩
          case measure => simp [intOf]; omega
      · obtain rfl : k = n := by omega
        have hfin : Hid (left - (k : Int) - q = R) := Lib.hid (by
          have h1 := hv.out
          rw [← HRES.out, if_neg (by omega)]; omega)
        go_wp2
        go_ret
        exact ⟨ret_int hfin.out, hbr⟩
theorem Ingot_info : (Try.prog.info? 178).map (fun i => (i.zero, i.size, i.bytes)) = some (some (.agg #[.string ⟨#[]⟩, .int .i64 0, .int .i64 0, .int .i64 0, .int .i64 0]), 5, 48) := by kernel_rfl
def IngotArr (arr : Array Value) (m : Nat) (s0 : Nat → ByteArray) (a1 : Nat → Int) (a2 : Nat → Int) (a3 : Nat → Int) (a4 : Nat → Int) : Prop := ∀ i, i < m → arr[i * 5]? = some (.string (s0 i)) ∧ arr[i * 5 + 1]? = some (.int .i64 (a1 i)) ∧ arr[i * 5 + 2]? = some (.int .i64 (a2 i)) ∧ arr[i * 5 + 3]? = some (.int .i64 (a3 i)) ∧ arr[i * 5 + 4]? = some (.int .i64 (a4 i))
theorem IngotArr.next {arr : Array Value} {n k : Nat} {s0 : Nat → ByteArray} {a1 : Nat → Int} {a2 : Nat → Int} {a3 : Nat → Int} {a4 : Nat → Int} (h : IngotArr arr k s0 a1 a2 a3 a4) (hs : arr.size = n * 5) (hk : k < n) : IngotArr (((((arr.setIfInBounds (k * 5) (.string (s0 k))).setIfInBounds (k * 5 + 1) (.int .i64 (a1 k))).setIfInBounds (k * 5 + 2) (.int .i64 (a2 k))).setIfInBounds (k * 5 + 3) (.int .i64 (a3 k))).setIfInBounds (k * 5 + 4) (.int .i64 (a4 k))) (k + 1) s0 a1 a2 a3 a4 := by
  intro i hi
  rcases Nat.lt_or_ge i k with h1 | h1
  · have h2 := h i h1
    refine ⟨?_, ?_, ?_, ?_, ?_⟩
    all_goals simp (disch := omega) only [Array.getElem?_setIfInBounds_ne]
    · exact h2.1
    · exact h2.2.1
    · exact h2.2.2.1
    · exact h2.2.2.2.1
    · exact h2.2.2.2.2
  · obtain rfl : i = k := by omega
    refine ⟨?_, ?_, ?_, ?_, ?_⟩
    · rw [Array.getElem?_setIfInBounds_ne (by omega), Array.getElem?_setIfInBounds_ne (by omega), Array.getElem?_setIfInBounds_ne (by omega), Array.getElem?_setIfInBounds_ne (by omega), Array.getElem?_setIfInBounds_self_of_lt (by (try simp); omega)]
    · rw [Array.getElem?_setIfInBounds_ne (by omega), Array.getElem?_setIfInBounds_ne (by omega), Array.getElem?_setIfInBounds_ne (by omega), Array.getElem?_setIfInBounds_self_of_lt (by (try simp); omega)]
    · rw [Array.getElem?_setIfInBounds_ne (by omega), Array.getElem?_setIfInBounds_ne (by omega), Array.getElem?_setIfInBounds_self_of_lt (by (try simp); omega)]
    · rw [Array.getElem?_setIfInBounds_ne (by omega), Array.getElem?_setIfInBounds_self_of_lt (by (try simp); omega)]
    · rw [Array.getElem?_setIfInBounds_self_of_lt (by (try simp); omega)]
theorem IngotArr.row {w : World} {g T n : Nat} {arr : Array Value} {s0 : Nat → ByteArray} {a1 : Nat → Int} {a2 : Nat → Int} {a3 : Nat → Int} {a4 : Nat → Int} (h : IngotArr arr n s0 a1 a2 a3 a4) (hb : Blk w g T arr) : IngotRow w (some ⟨g, 0, none⟩) n s0 a1 a2 a3 a4 := fun _ =>
  ⟨g, 0, rfl, fun i hi => by
    have h2 := h i hi
    rw [Nat.zero_add]
    exact ⟨(hb.cell _).trans h2.1, (hb.cell _).trans h2.2.1, (hb.cell _).trans h2.2.2.1, (hb.cell _).trans h2.2.2.2.1, (hb.cell _).trans h2.2.2.2.2⟩⟩
set_option maxHeartbeats 1000000 in
theorem toIngotS_calls (A : Option Addr) (n c : Nat) (s0 : Nat → ByteArray) (a1 : Nat → Int) (a2 : Nat → Int) (a3 : Nat → Int) (a4 : Nat → Int) (w : World) (h : IngotRow w A n s0 a1 a2 a3 a4) (hn : n ≤ 1048576) :
    Calls Try.prog 37 #[.slice A n c] w fun e w' => e = .returned (.slice (some ⟨w.heap.size, 0, none⟩) n n) ∧ Below w.heap.size w w' ∧ w.heap.size < w'.heap.size ∧ IngotRow w' (some ⟨w.heap.size, 0, none⟩) n s0 a1 a2 a3 a4 := by
  obtain ⟨ie, hi, hz0, hz1, hz2⟩ := info_parts Ingot_info
  have hmk := run_make_rowN (P := Try.prog) 70 178 ie _ Try.underlying70 hi hz0 .i64 .i64 n n (Nat.le_refl _) (by rw [hz2]; omega) (by omega) w
  rw [hz1] at hmk
  have hsz0 := madeCells_size (Value.cells (.agg #[.string ⟨#[]⟩, .int .i64 0, .int .i64 0, .int .i64 0, .int .i64 0])) (n * 5)
  generalize madeCells (Value.cells (.agg #[.string ⟨#[]⟩, .int .i64 0, .int .i64 0, .int .i64 0, .int .i64 0])) (n * 5) = arr0 at hmk hsz0
  have HSZ := Lib.hid hsz0
  have H := Lib.hid h
  clear h hsz0 hi hz0 hz1 hz2
  go_enter Try.func37, Try.ntmps37
  go_wp2
  clear hmk
  go_loopw [4] (fun i wr => ∃ (k : Nat) (arr : Array Value), k ≤ n ∧ i = .int .i64 k ∧ Hid (arr.size = n * 5) ∧ Hid (Blk wr w.heap.size 178 arr) ∧ Below w.heap.size w wr ∧ w.heap.size < wr.heap.size ∧ Hid (IngotArr arr k s0 a1 a2 a3 a4)) (fun i _ => n - (intOf i).toNat)
  case atStart => exact ⟨0, arr0, by omega, rfl, HSZ, Blk.new w _ _, (Below.refl _ _).alloc (Nat.le_refl _) _, by simp, fun i hi => by omega⟩
  case round =>
    obtain ⟨k, arr, hk, rfl, hsz, hblk, hbr, hgt, hall⟩ := hrel
    by_cases hlt : k < n
    · obtain ⟨b, o, rfl, hrow⟩ := H.out (by omega)
      obtain ⟨c0, c1, c2, c3, c4⟩ := (hrow k hlt).below hbr (Nat.le_refl _)
      have HR := Lib.hid hrow
      clear hrow
      obtain ⟨x0, hx0⟩ := arr_some (arr := arr) (j := k * 5) (by have := hsz.out; omega)
      obtain ⟨x1, hx1⟩ := arr_some (arr := arr) (j := k * 5 + 1) (by have := hsz.out; omega)
      obtain ⟨x2, hx2⟩ := arr_some (arr := arr) (j := k * 5 + 2) (by have := hsz.out; omega)
      obtain ⟨x3, hx3⟩ := arr_some (arr := arr) (j := k * 5 + 3) (by have := hsz.out; omega)
      obtain ⟨x4, hx4⟩ := arr_some (arr := arr) (j := k * 5 + 4) (by have := hsz.out; omega)
      have HX0 := Lib.hid hx0
      have HX1 := Lib.hid hx1
      have HX2 := Lib.hid hx2
      have HX3 := Lib.hid hx3
      have HX4 := Lib.hid hx4
      clear hx0 hx1 hx2 hx3 hx4
      go_wp2_with (go_at_call 104; refine (toIngot_calls _ _ _ _ _ _).mono ?_; rintro e w1 ⟨rfl, hb⟩; have hblk1 : Blk w1 w.heap.size 178 arr := hblk.out.below hb hgt; have y0 := (Blk.cell hblk1 (k * 5)).trans HX0.out; have z0 := Blk.frozen hblk1 (k * 5); have y1 := (Blk.cell hblk1 (k * 5 + 1)).trans HX1.out; have z1 := Blk.frozen hblk1 (k * 5 + 1); have y2 := (Blk.cell hblk1 (k * 5 + 2)).trans HX2.out; have z2 := Blk.frozen hblk1 (k * 5 + 2); have y3 := (Blk.cell hblk1 (k * 5 + 3)).trans HX3.out; have z3 := Blk.frozen hblk1 (k * 5 + 3); have y4 := (Blk.cell hblk1 (k * 5 + 4)).trans HX4.out; have z4 := Blk.frozen hblk1 (k * 5 + 4); have HB1 := Lib.hid hblk1; clear hblk1; have hbr2 : Below w.heap.size w w1 := hbr.trans (hb.mono hbr.size); have hgt2 := Nat.lt_of_lt_of_le hgt hb.size; clear hb)
      go_roundw
      case rel => exact ⟨k + 1, _, by omega, by go_num, by have := hsz.out; simpa [Hid] using this, (((((HB1.out.set_ (k * 5) _).set_ (k * 5 + 1) _).set_ (k * 5 + 2) _).set_ (k * 5 + 3) _).set_ (k * 5 + 4) _), (((((hbr2.setCell (Nat.le_refl _) _).setCell (Nat.le_refl _) _).setCell (Nat.le_refl _) _).setCell (Nat.le_refl _) _).setCell (Nat.le_refl _) _), by simpa using hgt2, hall.out.next hsz.out hlt⟩
      case measure => simp [intOf]; omega
    · obtain rfl : k = n := by omega
      have hfin := Lib.hid (hall.out.row hblk.out)
      clear hall hblk hsz
      go_wp2
      go_ret
      exact ⟨rfl, hbr, hgt, hfin.out⟩
set_option maxHeartbeats 2000000 in
theorem eqIngotS_calls (A A2 : Option Addr) (n c c2 : Nat) (s0 : Nat → ByteArray) (a1 : Nat → Int) (a2 : Nat → Int) (a3 : Nat → Int) (a4 : Nat → Int) (w : World) (h : IngotRow w A n s0 a1 a2 a3 a4) (h2 : IngotRow w A2 n s0 a1 a2 a3 a4) (hn : n ≤ 1048576) :
    Calls Try.prog 42 #[.slice A n c, .slice A2 n c2] w fun e w' => e = .returned (.bool true) ∧ Below w.heap.size w w' := by
  have H := Lib.hid h
  have H2 := Lib.hid h2
  clear h h2
  go_enter Try.func42, Try.ntmps42
  go_wp2
  go_loopw [5] (fun i wr => ∃ k : Nat, k ≤ n ∧ i = .int .i64 k ∧ Below w.heap.size w wr) (fun i _ => n - (intOf i).toNat)
  case atStart => exact ⟨0, by omega, rfl, Below.refl _ _⟩
  case round =>
    obtain ⟨k, hk, rfl, hbr⟩ := hrel
    by_cases hlt : k < n
    · obtain ⟨b, o, rfl, hrow⟩ := H.out (by omega)
      obtain ⟨b2, o2, rfl, hrow2⟩ := H2.out (by omega)
      have hbw := (hrow k hlt).lt
      have hbw2 := (hrow2 k hlt).lt
      obtain ⟨c0, c1, c2, c3, c4⟩ := (hrow k hlt).below hbr (Nat.le_refl _)
      obtain ⟨g0, g1, g2, g3, g4⟩ := (hrow2 k hlt).below hbr (Nat.le_refl _)
      have HR := Lib.hid hrow
      have HR2 := Lib.hid hrow2
      clear hrow hrow2
      go_wp2_with fail
      go_region_held3 (fun w' => Below w.heap.size w w' ∧ w'.cell? ⟨b, o + k * 5, none⟩ = some (.string (s0 k)) ∧ w'.cell? ⟨b, o + k * 5 + 1, none⟩ = some (.int .i64 (a1 k)) ∧ w'.cell? ⟨b, o + k * 5 + 2, none⟩ = some (.int .i64 (a2 k)) ∧ w'.cell? ⟨b, o + k * 5 + 3, none⟩ = some (.int .i64 (a3 k)) ∧ w'.cell? ⟨b, o + k * 5 + 4, none⟩ = some (.int .i64 (a4 k)) ∧ w'.cell? ⟨b2, o2 + k * 5, none⟩ = some (.string (s0 k)) ∧ w'.cell? ⟨b2, o2 + k * 5 + 1, none⟩ = some (.int .i64 (a1 k)) ∧ w'.cell? ⟨b2, o2 + k * 5 + 2, none⟩ = some (.int .i64 (a2 k)) ∧ w'.cell? ⟨b2, o2 + k * 5 + 3, none⟩ = some (.int .i64 (a3 k)) ∧ w'.cell? ⟨b2, o2 + k * 5 + 4, none⟩ = some (.int .i64 (a4 k)))
        (first
          | exact ⟨hbr.drew, c0, c1, c2, c3, c4, g0, g1, g2, g3, g4⟩
          | assumption
          | (obtain ⟨q0, d0, d1, d2, d3, d4, e0, e1, e2, e3, e4⟩ := ‹Below _ _ _ ∧ _›; exact ⟨q0.trans (hb.mono q0.size), (hb.cell (p := ⟨_, _, none⟩) (Nat.lt_of_lt_of_le hbw q0.size)).trans d0, (hb.cell (p := ⟨_, _, none⟩) (Nat.lt_of_lt_of_le hbw q0.size)).trans d1, (hb.cell (p := ⟨_, _, none⟩) (Nat.lt_of_lt_of_le hbw q0.size)).trans d2, (hb.cell (p := ⟨_, _, none⟩) (Nat.lt_of_lt_of_le hbw q0.size)).trans d3, (hb.cell (p := ⟨_, _, none⟩) (Nat.lt_of_lt_of_le hbw q0.size)).trans d4, (hb.cell (p := ⟨_, _, none⟩) (Nat.lt_of_lt_of_le hbw2 q0.size)).trans e0, (hb.cell (p := ⟨_, _, none⟩) (Nat.lt_of_lt_of_le hbw2 q0.size)).trans e1, (hb.cell (p := ⟨_, _, none⟩) (Nat.lt_of_lt_of_le hbw2 q0.size)).trans e2, (hb.cell (p := ⟨_, _, none⟩) (Nat.lt_of_lt_of_le hbw2 q0.size)).trans e3, (hb.cell (p := ⟨_, _, none⟩) (Nat.lt_of_lt_of_le hbw2 q0.size)).trans e4⟩))
        (first
          | (go_at_call 112; refine (eqIngot_calls _ _ _ _ _ _).mono ?_; rintro e w1 ⟨rfl, hb⟩))
      all_goals
        have hbr2 := (‹Below _ _ _ ∧ _›).1
        go_wp2
        go_roundw
        case rel => exact ⟨k + 1, by omega, by go_num, hbr2⟩
        case measure => simp [intOf]; omega
    · obtain rfl : k = n := by omega
      go_wp2
      go_ret
      exact ⟨rfl, hbr⟩
open Go.ChangeShapes Go.WideShapes Go.Deep in
theorem openIngotS {H : Type} {enc : TypeId × Value → H} {w : World} {base : Nat} {spare : Nat → Bool} {held : Bool} {fuel : Nat} {A : Option Addr} {n c : Nat} {x : DataW H × List MemPlace} (h : DataW.trod enc Try.prog w base spare held fuel 58 [.slice A n c] = some x) :
    ∃ (s0 : Nat → ByteArray) (a1 : Nat → Int) (a2 : Nat → Int) (a3 : Nat → Int) (a4 : Nat → Int), IngotRow w A n s0 a1 a2 a3 a4 ∧ n ≤ maxLen ∧ (∀ i, i < n → (s0 i).size ≤ maxLen) ∧ (∀ i, i < n → (Lit.int .i64 (a1 i)).wf = true) ∧ (∀ i, i < n → (Lit.int .i64 (a2 i)).wf = true) ∧ (∀ i, i < n → (Lit.int .i64 (a3 i)).wf = true) ∧ (∀ i, i < n → (Lit.int .i64 (a4 i)).wf = true) := by
  rcases open_slice Try.underlying58 h with ⟨hcs, hx⟩ | ⟨a, len, cap, m, fu, D, Pl, hcs, hb, hl, hm, hmm, hx, hi⟩
  · simp only [List.cons.injEq, Value.slice.injEq, and_true] at hcs
    obtain ⟨rfl, rfl, rfl⟩ := hcs
    exact ⟨fun _ => ⟨#[]⟩, fun _ => 0, fun _ => 0, fun _ => 0, fun _ => 0, fun h0 => by omega, by unfold maxLen; omega, fun i h0 => by omega, fun i h0 => by omega, fun i h0 => by omega, fun i h0 => by omega, fun i h0 => by omega⟩
  · simp only [List.cons.injEq, Value.slice.injEq, and_true] at hcs
    obtain ⟨rfl, rfl, rfl⟩ := hcs
    have hlm : n ≤ m := by rw [hmm]; split <;> omega
    have hC : Try.prog.cellsOf 161 = 5 := by kernel_rfl
    rw [hC] at hi
    have hall : ∀ i, ∃ t : ByteArray × Int × Int × Int × Int, i < n → IngotAt w a.block (a.off + i * 5) t.1 t.2.1 t.2.2.1 t.2.2.2.1 t.2.2.2.2 ∧ t.1.size ≤ maxLen ∧ (Lit.int .i64 t.2.1).wf = true ∧ (Lit.int .i64 t.2.2.1).wf = true ∧ (Lit.int .i64 t.2.2.2.1).wf = true ∧ (Lit.int .i64 t.2.2.2.2).wf = true := by
      intro i
      by_cases hin : i < n
      · obtain ⟨cs, hc, ht⟩ := hi i (by omega)
        obtain ⟨-, hcl, hat⟩ := Go.World.cells?_some hc
        obtain ⟨hln, m2, hg⟩ := ingot_fields ht
        obtain ⟨v0, v1, v2, v3, v4, rfl⟩ := list5 hln
        obtain ⟨y0, t0⟩ := hg 0 _ rfl v0 rfl
        have k0 := hat 0 (by omega)
        obtain ⟨x0, e0, _, q0⟩ := DataW.trod_string Try.underlying9 t0
        obtain rfl := one_cell e0
        obtain ⟨y1, t1⟩ := hg 1 _ rfl v1 rfl
        have k1 := hat 1 (by omega)
        obtain ⟨x1, e1, _, q1⟩ := DataW.trod_int Try.underlying2 t1
        obtain rfl := one_cell e1
        obtain ⟨y2, t2⟩ := hg 2 _ rfl v2 rfl
        have k2 := hat 2 (by omega)
        obtain ⟨x2, e2, _, q2⟩ := DataW.trod_int Try.underlying2 t2
        obtain rfl := one_cell e2
        obtain ⟨y3, t3⟩ := hg 3 _ rfl v3 rfl
        have k3 := hat 3 (by omega)
        obtain ⟨x3, e3, _, q3⟩ := DataW.trod_int Try.underlying2 t3
        obtain rfl := one_cell e3
        obtain ⟨y4, t4⟩ := hg 4 _ rfl v4 rfl
        have k4 := hat 4 (by omega)
        obtain ⟨x4, e4, _, q4⟩ := DataW.trod_int Try.underlying2 t4
        obtain rfl := one_cell e4
        exact ⟨(x0, x1, x2, x3, x4), fun _ => ⟨⟨cell_add2 k0 (by omega), cell_add2 k1 (by omega), cell_add2 k2 (by omega), cell_add2 k3 (by omega), cell_add2 k4 (by omega)⟩, q0, q1, q2, q3, q4⟩⟩
      · exact ⟨(⟨#[]⟩, 0, 0, 0, 0), fun h0 => absurd h0 hin⟩
    obtain ⟨F, hF⟩ := Classical.axiomOfChoice hall
    refine ⟨fun i => (F i).1, fun i => (F i).2.1, fun i => (F i).2.2.1, fun i => (F i).2.2.2.1, fun i => (F i).2.2.2.2, fun hn => ?_, by omega, fun i h0 => (hF i h0).2.1, fun i h0 => (hF i h0).2.2.1, fun i h0 => (hF i h0).2.2.2.1, fun i h0 => (hF i h0).2.2.2.2.1, fun i h0 => (hF i h0).2.2.2.2.2⟩
    refine ⟨a.block, a.off, ?_, fun i h0 => (hF i h0).1⟩
    obtain ⟨b, o, spot⟩ := a
    obtain ⟨cs, hc, ht⟩ := hi 0 (by omega)
    obtain ⟨-, hcl, hat⟩ := Go.World.cells?_some hc
    have k0 := hat 0 (by omega)
    rw [List.getElem?_eq_getElem (show 0 < cs.length by omega)] at k0
    have hspot : spot = none := by simpa [Addr.add] using Go.World.cell?_spot k0
    rw [hspot]
theorem isPart_calls (n : Int) (w : World) :
    Calls Try.prog 213 #[.int .i64 n] w fun e w' => e = .returned (.bool (inB n 0 1000000)) ∧ w = w' := by
  go_enter Try.func213, Try.ntmps213
  go_wp2_with (go_at_call 147; refine (within_calls _ _ _ _).mono ?_; rintro e w1 ⟨rfl, rfl⟩)
  go_ret
  exact ⟨rfl, rfl⟩
set_option maxHeartbeats 1000000 in
theorem validAlloy_calls (c t o : Int) (w : World) :
    Calls Try.prog 200 #[.agg #[.int .i64 c, .int .i64 t, .int .i64 o]] w fun e w' => e = .returned (.bool (alloyB c t o)) ∧ Below w.heap.size w w' := by
  have hB := (Below.refl w.heap.size w).alloc (Nat.le_refl _) (.cells #[.int .i64 c, .int .i64 t, .int .i64 o] 67)
  unfold alloyB
  cases hq0 : inB c 0 1000000
  ·
    (try have b0 := inB_iff.1 hq0)
    (try have b1 := inB_iff.1 hq1)
    (try have b2 := inB_iff.1 hq2)
    go_enter Try.func200, Try.ntmps200
    go_wp2_with (first | (go_at_call 213; refine (isPart_calls _ _).mono ?_; rintro e w1 ⟨rfl, rfl⟩))
    go_ret
    exact ⟨rfl, hB⟩
  ·
    cases hq1 : inB t 0 1000000
    ·
      (try have b0 := inB_iff.1 hq0)
      (try have b1 := inB_iff.1 hq1)
      (try have b2 := inB_iff.1 hq2)
      go_enter Try.func200, Try.ntmps200
      go_wp2_with (first | (go_at_call 213; refine (isPart_calls _ _).mono ?_; rintro e w1 ⟨rfl, rfl⟩))
      go_ret
      exact ⟨rfl, hB⟩
    ·
      cases hq2 : inB o 0 1000000
      ·
        (try have b0 := inB_iff.1 hq0)
        (try have b1 := inB_iff.1 hq1)
        (try have b2 := inB_iff.1 hq2)
        go_enter Try.func200, Try.ntmps200
        go_wp2_with (first | (go_at_call 213; refine (isPart_calls _ _).mono ?_; rintro e w1 ⟨rfl, rfl⟩))
        go_ret
        exact ⟨rfl, hB⟩
      ·
        cases hq3 : c + t + o == 1000000
        ·
          (try have b0 := inB_iff.1 hq0)
          (try have b1 := inB_iff.1 hq1)
          (try have b2 := inB_iff.1 hq2)
          go_enter Try.func200, Try.ntmps200
          go_wp2_with (first | (go_at_call 213; refine (isPart_calls _ _).mono ?_; rintro e w1 ⟨rfl, rfl⟩))
          go_ret
          exact ⟨rfl, hB⟩
        ·
          (try have b0 := inB_iff.1 hq0)
          (try have b1 := inB_iff.1 hq1)
          (try have b2 := inB_iff.1 hq2)
          go_enter Try.func200, Try.ntmps200
          go_wp2_with (first | (go_at_call 213; refine (isPart_calls _ _).mono ?_; rintro e w1 ⟨rfl, rfl⟩))
          go_ret
          exact ⟨rfl, hB⟩
set_option maxHeartbeats 1000000 in
theorem validIngot_calls (s0 : ByteArray) (a1 a2 a3 a4 : Int) (w : World) (hs : s0.size ≤ maxLen) :
    Calls Try.prog 169 #[.agg #[.string s0, .int .i64 a1, .int .i64 a2, .int .i64 a3, .int .i64 a4]] w fun e w' => e = .returned (.bool (ingB s0 a1 a2 a3 a4)) ∧ Below w.heap.size w w' := by
  have hB := Below.refl w.heap.size w
  unfold ingB
  cases hq0 : nameB s0
  ·
    go_enter Try.func169, Try.ntmps169
    go_wp2_with (first | (go_at_call 141; refine (isName_calls _ _ hs).mono ?_; rintro e w1 ⟨rfl, hb⟩; obtain ⟨hc, hf⟩ := bcell hb; have hz := hb.size; (try simp at hz); (try have hl0 : w.heap.size < w1.heap.size := by omega); (try have hl1 : w.heap.size + 1 < w1.heap.size := by omega); (try have hl2 : w.heap.size + 1 + 1 < w1.heap.size := by omega); replace hB : Below w.heap.size w w1 := Below.trans (by go_grown) (hb.mono (by go_size)); clear hb) | (go_at_call 147; refine (within_calls _ _ _ _).mono ?_; rintro e w1 ⟨rfl, rfl⟩) | (go_at_call 200; refine (validAlloy_calls _ _ _ _).mono ?_; rintro e w1 ⟨rfl, hb⟩; obtain ⟨hc, hf⟩ := bcell hb; have hz := hb.size; (try simp at hz); (try have hl0 : w.heap.size < w1.heap.size := by omega); (try have hl1 : w.heap.size + 1 < w1.heap.size := by omega); (try have hl2 : w.heap.size + 1 + 1 < w1.heap.size := by omega); replace hB : Below w.heap.size w w1 := Below.trans (by go_grown) (hb.mono (by go_size)); clear hb))
    go_ret
    exact ⟨rfl, hB⟩
  ·
    cases hq1 : inB a1 1 20000000
    ·
      go_enter Try.func169, Try.ntmps169
      go_wp2_with (first | (go_at_call 141; refine (isName_calls _ _ hs).mono ?_; rintro e w1 ⟨rfl, hb⟩; obtain ⟨hc, hf⟩ := bcell hb; have hz := hb.size; (try simp at hz); (try have hl0 : w.heap.size < w1.heap.size := by omega); (try have hl1 : w.heap.size + 1 < w1.heap.size := by omega); (try have hl2 : w.heap.size + 1 + 1 < w1.heap.size := by omega); replace hB : Below w.heap.size w w1 := Below.trans (by go_grown) (hb.mono (by go_size)); clear hb) | (go_at_call 147; refine (within_calls _ _ _ _).mono ?_; rintro e w1 ⟨rfl, rfl⟩) | (go_at_call 200; refine (validAlloy_calls _ _ _ _).mono ?_; rintro e w1 ⟨rfl, hb⟩; obtain ⟨hc, hf⟩ := bcell hb; have hz := hb.size; (try simp at hz); (try have hl0 : w.heap.size < w1.heap.size := by omega); (try have hl1 : w.heap.size + 1 < w1.heap.size := by omega); (try have hl2 : w.heap.size + 1 + 1 < w1.heap.size := by omega); replace hB : Below w.heap.size w w1 := Below.trans (by go_grown) (hb.mono (by go_size)); clear hb))
      go_ret
      exact ⟨rfl, hB⟩
    ·
      cases hq2 : alloyB a2 a3 a4
      ·
        go_enter Try.func169, Try.ntmps169
        go_wp2_with (first | (go_at_call 141; refine (isName_calls _ _ hs).mono ?_; rintro e w1 ⟨rfl, hb⟩; obtain ⟨hc, hf⟩ := bcell hb; have hz := hb.size; (try simp at hz); (try have hl0 : w.heap.size < w1.heap.size := by omega); (try have hl1 : w.heap.size + 1 < w1.heap.size := by omega); (try have hl2 : w.heap.size + 1 + 1 < w1.heap.size := by omega); replace hB : Below w.heap.size w w1 := Below.trans (by go_grown) (hb.mono (by go_size)); clear hb) | (go_at_call 147; refine (within_calls _ _ _ _).mono ?_; rintro e w1 ⟨rfl, rfl⟩) | (go_at_call 200; refine (validAlloy_calls _ _ _ _).mono ?_; rintro e w1 ⟨rfl, hb⟩; obtain ⟨hc, hf⟩ := bcell hb; have hz := hb.size; (try simp at hz); (try have hl0 : w.heap.size < w1.heap.size := by omega); (try have hl1 : w.heap.size + 1 < w1.heap.size := by omega); (try have hl2 : w.heap.size + 1 + 1 < w1.heap.size := by omega); replace hB : Below w.heap.size w w1 := Below.trans (by go_grown) (hb.mono (by go_size)); clear hb))
        go_ret
        exact ⟨rfl, hB⟩
      ·
        go_enter Try.func169, Try.ntmps169
        go_wp2_with (first | (go_at_call 141; refine (isName_calls _ _ hs).mono ?_; rintro e w1 ⟨rfl, hb⟩; obtain ⟨hc, hf⟩ := bcell hb; have hz := hb.size; (try simp at hz); (try have hl0 : w.heap.size < w1.heap.size := by omega); (try have hl1 : w.heap.size + 1 < w1.heap.size := by omega); (try have hl2 : w.heap.size + 1 + 1 < w1.heap.size := by omega); replace hB : Below w.heap.size w w1 := Below.trans (by go_grown) (hb.mono (by go_size)); clear hb) | (go_at_call 147; refine (within_calls _ _ _ _).mono ?_; rintro e w1 ⟨rfl, rfl⟩) | (go_at_call 200; refine (validAlloy_calls _ _ _ _).mono ?_; rintro e w1 ⟨rfl, hb⟩; obtain ⟨hc, hf⟩ := bcell hb; have hz := hb.size; (try simp at hz); (try have hl0 : w.heap.size < w1.heap.size := by omega); (try have hl1 : w.heap.size + 1 < w1.heap.size := by omega); (try have hl2 : w.heap.size + 1 + 1 < w1.heap.size := by omega); replace hB : Below w.heap.size w w1 := Below.trans (by go_grown) (hb.mono (by go_size)); clear hb))
        go_ret
        exact ⟨rfl, hB⟩
set_option maxHeartbeats 1000000 in
theorem sAlloy_calls (b o : Nat) (c t x : Int) (w : World) (c0 : w.cell? ⟨b, o, none⟩ = some (.int .i64 c)) (c1 : w.cell? ⟨b, o + 1, none⟩ = some (.int .i64 t)) (c2 : w.cell? ⟨b, o + 2, none⟩ = some (.int .i64 x)) :
    Calls Try.prog 197 #[.pointer (some ⟨b, o, none⟩)] w fun e w' => e = .returned (.bool (alloyB c t x)) ∧ ∃ n, w' = w.drewN n := by
  unfold alloyB
  cases hq0 : inB c 0 1000000
  ·
    (try have b0 := inB_iff.1 hq0)
    (try have b1 := inB_iff.1 hq1)
    (try have b2 := inB_iff.1 hq2)
    have HC0 := Lib.hid (show ∀ m, Calls Try.prog 58 #[.int .i64 c, .int .i64 0, .int .i64 1000000] (w.drewN m) (fun e w' => e = .returned (.bool false) ∧ w.drewN m = w') from fun m => by have hq := in_calls c 0 1000000 (w.drewN m); rwa [hq0] at hq)
    go_enter Try.func197, Try.ntmps197
    go_wp2_with fail
    go_quiet (first | (go_at_call 58; with_reducible exact quiet_left (HC0.out _)))
    go_wp2
    go_ret
    exact ⟨rfl, _, rfl⟩
  ·
    cases hq1 : inB t 0 1000000
    ·
      (try have b0 := inB_iff.1 hq0)
      (try have b1 := inB_iff.1 hq1)
      (try have b2 := inB_iff.1 hq2)
      have HC0 := Lib.hid (show ∀ m, Calls Try.prog 58 #[.int .i64 c, .int .i64 0, .int .i64 1000000] (w.drewN m) (fun e w' => e = .returned (.bool true) ∧ w.drewN m = w') from fun m => by have hq := in_calls c 0 1000000 (w.drewN m); rwa [hq0] at hq)
      have HC1 := Lib.hid (show ∀ m, Calls Try.prog 58 #[.int .i64 t, .int .i64 0, .int .i64 1000000] (w.drewN m) (fun e w' => e = .returned (.bool false) ∧ w.drewN m = w') from fun m => by have hq := in_calls t 0 1000000 (w.drewN m); rwa [hq1] at hq)
      go_enter Try.func197, Try.ntmps197
      go_wp2_with fail
      go_quiet (first | (go_at_call 58; with_reducible exact quiet_left (HC0.out _)) | (go_at_call 58; with_reducible exact quiet_left (HC1.out _)))
      go_wp2
      go_ret
      exact ⟨rfl, _, rfl⟩
    ·
      cases hq2 : inB x 0 1000000
      ·
        (try have b0 := inB_iff.1 hq0)
        (try have b1 := inB_iff.1 hq1)
        (try have b2 := inB_iff.1 hq2)
        have HC0 := Lib.hid (show ∀ m, Calls Try.prog 58 #[.int .i64 c, .int .i64 0, .int .i64 1000000] (w.drewN m) (fun e w' => e = .returned (.bool true) ∧ w.drewN m = w') from fun m => by have hq := in_calls c 0 1000000 (w.drewN m); rwa [hq0] at hq)
        have HC1 := Lib.hid (show ∀ m, Calls Try.prog 58 #[.int .i64 t, .int .i64 0, .int .i64 1000000] (w.drewN m) (fun e w' => e = .returned (.bool true) ∧ w.drewN m = w') from fun m => by have hq := in_calls t 0 1000000 (w.drewN m); rwa [hq1] at hq)
        have HC2 := Lib.hid (show ∀ m, Calls Try.prog 58 #[.int .i64 x, .int .i64 0, .int .i64 1000000] (w.drewN m) (fun e w' => e = .returned (.bool false) ∧ w.drewN m = w') from fun m => by have hq := in_calls x 0 1000000 (w.drewN m); rwa [hq2] at hq)
        go_enter Try.func197, Try.ntmps197
        go_wp2_with fail
        go_quiet (first | (go_at_call 58; with_reducible exact quiet_left (HC0.out _)) | (go_at_call 58; with_reducible exact quiet_left (HC1.out _)) | (go_at_call 58; with_reducible exact quiet_left (HC2.out _)))
        go_wp2
        go_ret
        exact ⟨rfl, _, rfl⟩
      ·
        cases hq3 : c + t + x == 1000000
        ·
          (try have b0 := inB_iff.1 hq0)
          (try have b1 := inB_iff.1 hq1)
          (try have b2 := inB_iff.1 hq2)
          have HC0 := Lib.hid (show ∀ m, Calls Try.prog 58 #[.int .i64 c, .int .i64 0, .int .i64 1000000] (w.drewN m) (fun e w' => e = .returned (.bool true) ∧ w.drewN m = w') from fun m => by have hq := in_calls c 0 1000000 (w.drewN m); rwa [hq0] at hq)
          have HC1 := Lib.hid (show ∀ m, Calls Try.prog 58 #[.int .i64 t, .int .i64 0, .int .i64 1000000] (w.drewN m) (fun e w' => e = .returned (.bool true) ∧ w.drewN m = w') from fun m => by have hq := in_calls t 0 1000000 (w.drewN m); rwa [hq1] at hq)
          have HC2 := Lib.hid (show ∀ m, Calls Try.prog 58 #[.int .i64 x, .int .i64 0, .int .i64 1000000] (w.drewN m) (fun e w' => e = .returned (.bool true) ∧ w.drewN m = w') from fun m => by have hq := in_calls x 0 1000000 (w.drewN m); rwa [hq2] at hq)
          go_enter Try.func197, Try.ntmps197
          go_wp2_with fail
          go_quiet (first | (go_at_call 58; with_reducible exact quiet_left (HC0.out _)) | (go_at_call 58; with_reducible exact quiet_left (HC1.out _)) | (go_at_call 58; with_reducible exact quiet_left (HC2.out _)))
          go_wp2
          go_ret
          exact ⟨rfl, _, rfl⟩
        ·
          (try have b0 := inB_iff.1 hq0)
          (try have b1 := inB_iff.1 hq1)
          (try have b2 := inB_iff.1 hq2)
          have HC0 := Lib.hid (show ∀ m, Calls Try.prog 58 #[.int .i64 c, .int .i64 0, .int .i64 1000000] (w.drewN m) (fun e w' => e = .returned (.bool true) ∧ w.drewN m = w') from fun m => by have hq := in_calls c 0 1000000 (w.drewN m); rwa [hq0] at hq)
          have HC1 := Lib.hid (show ∀ m, Calls Try.prog 58 #[.int .i64 t, .int .i64 0, .int .i64 1000000] (w.drewN m) (fun e w' => e = .returned (.bool true) ∧ w.drewN m = w') from fun m => by have hq := in_calls t 0 1000000 (w.drewN m); rwa [hq1] at hq)
          have HC2 := Lib.hid (show ∀ m, Calls Try.prog 58 #[.int .i64 x, .int .i64 0, .int .i64 1000000] (w.drewN m) (fun e w' => e = .returned (.bool true) ∧ w.drewN m = w') from fun m => by have hq := in_calls x 0 1000000 (w.drewN m); rwa [hq2] at hq)
          go_enter Try.func197, Try.ntmps197
          go_wp2_with fail
          go_quiet (first | (go_at_call 58; with_reducible exact quiet_left (HC0.out _)) | (go_at_call 58; with_reducible exact quiet_left (HC1.out _)) | (go_at_call 58; with_reducible exact quiet_left (HC2.out _)))
          go_wp2
          go_ret
          exact ⟨rfl, _, rfl⟩
set_option maxHeartbeats 1000000 in
theorem sIngot_calls (b o : Nat) (s0 : ByteArray) (a1 a2 a3 a4 : Int) (w : World) (hs : s0.size ≤ maxLen) (c0 : w.cell? ⟨b, o, none⟩ = some (.string s0)) (c1 : w.cell? ⟨b, o + 1, none⟩ = some (.int .i64 a1)) (c2 : w.cell? ⟨b, o + 2, none⟩ = some (.int .i64 a2)) (c3 : w.cell? ⟨b, o + 3, none⟩ = some (.int .i64 a3)) (c4 : w.cell? ⟨b, o + 4, none⟩ = some (.int .i64 a4)) :
    Calls Try.prog 160 #[.pointer (some ⟨b, o, none⟩)] w fun e w' => e = .returned (.bool (ingB s0 a1 a2 a3 a4)) ∧ ∃ n, w' = w.drewN n := by
  unfold ingB
  cases hq0 : nameB s0
  ·
    go_enter Try.func160, Try.ntmps160
    go_wp2_with (first | (go_at_call 133; refine (sname_calls _ _ hs).mono ?_; rintro e w1 ⟨rfl, rfl⟩) | (go_at_call 58; refine (in_calls _ _ _ _).mono ?_; rintro e w1 ⟨rfl, rfl⟩) | (go_at_call 197; refine (sAlloy_calls _ _ _ _ _ _ (by assumption) (by assumption) (by assumption)).mono ?_; rintro e w1 ⟨rfl, nd, rfl⟩))
    go_ret
    exact ⟨rfl, by first | exact ⟨_, rfl⟩ | exact ⟨0, rfl⟩⟩
  ·
    cases hq1 : inB a1 1 20000000
    ·
      go_enter Try.func160, Try.ntmps160
      go_wp2_with (first | (go_at_call 133; refine (sname_calls _ _ hs).mono ?_; rintro e w1 ⟨rfl, rfl⟩) | (go_at_call 58; refine (in_calls _ _ _ _).mono ?_; rintro e w1 ⟨rfl, rfl⟩) | (go_at_call 197; refine (sAlloy_calls _ _ _ _ _ _ (by assumption) (by assumption) (by assumption)).mono ?_; rintro e w1 ⟨rfl, nd, rfl⟩))
      go_ret
      exact ⟨rfl, by first | exact ⟨_, rfl⟩ | exact ⟨0, rfl⟩⟩
    ·
      cases hq2 : alloyB a2 a3 a4
      ·
        go_enter Try.func160, Try.ntmps160
        go_wp2_with (first | (go_at_call 133; refine (sname_calls _ _ hs).mono ?_; rintro e w1 ⟨rfl, rfl⟩) | (go_at_call 58; refine (in_calls _ _ _ _).mono ?_; rintro e w1 ⟨rfl, rfl⟩) | (go_at_call 197; refine (sAlloy_calls _ _ _ _ _ _ (by assumption) (by assumption) (by assumption)).mono ?_; rintro e w1 ⟨rfl, nd, rfl⟩))
        go_ret
        exact ⟨rfl, by first | exact ⟨_, rfl⟩ | exact ⟨0, rfl⟩⟩
      ·
        go_enter Try.func160, Try.ntmps160
        go_wp2_with (first | (go_at_call 133; refine (sname_calls _ _ hs).mono ?_; rintro e w1 ⟨rfl, rfl⟩) | (go_at_call 58; refine (in_calls _ _ _ _).mono ?_; rintro e w1 ⟨rfl, rfl⟩) | (go_at_call 197; refine (sAlloy_calls _ _ _ _ _ _ (by assumption) (by assumption) (by assumption)).mono ?_; rintro e w1 ⟨rfl, nd, rfl⟩))
        go_ret
        exact ⟨rfl, by first | exact ⟨_, rfl⟩ | exact ⟨0, rfl⟩⟩
set_option maxHeartbeats 4000000 in
theorem impl_ValidIngots_calls (A : Option Addr) (n c : Nat) (s0 : Nat → ByteArray) (a1 : Nat → Int) (a2 : Nat → Int) (a3 : Nat → Int) (a4 : Nat → Int) (w : World) (h : IngotRow w A n s0 a1 a2 a3 a4) (hs : ∀ i, i < n → (s0 i).size ≤ maxLen) (hn : n ≤ maxLen) :
    Calls Try.prog 107 #[.slice A n c] w fun e w' => e = .returned (.bool (allB (goodAt (fun i => ingB (s0 i) (a1 i) (a2 i) (a3 i) (a4 i)) s0) n && decide ((n : Int) ≤ 16))) ∧ Below w.heap.size w w' := by
  unfold maxLen at hn
  generalize hres : (allB (goodAt (fun i => ingB (s0 i) (a1 i) (a2 i) (a3 i) (a4 i)) s0) n && decide ((n : Int) ≤ 16)) = R
  have HRES := Lib.hid hres
  have H := Lib.hid h
  have HS := Lib.hid hs
  clear h hs hres
  go_enter Try.func107, Try.ntmps107
  go_wp2
  go_loopw [7] (fun i wr => ∃ k : Nat, k ≤ n ∧ i = .int .i64 k ∧ Hid (allB (goodAt (fun i => ingB (s0 i) (a1 i) (a2 i) (a3 i) (a4 i)) s0) k = true) ∧ Below w.heap.size w wr) (fun i _ => n - (intOf i).toNat)
  case atStart => exact ⟨0, by omega, rfl, rfl, Below.refl _ _⟩
  case round =>
    obtain ⟨k, hk, rfl, hgood, hbr⟩ := hrel
    by_cases hlt : k < n
    · have hsk := HS.out k hlt
      obtain ⟨b, o, rfl, hrow⟩ := H.out (by omega)
      have hbw := (hrow k hlt).lt
      obtain ⟨c0, c1, c2, c3, c4⟩ := (hrow k hlt).below hbr (Nat.le_refl _)
      have HR := Lib.hid hrow
      clear hrow
      cases q1 : ingB (s0 k) (a1 k) (a2 k) (a3 k) (a4 k)
      · have HK : Hid (goodAt (fun i => ingB (s0 i) (a1 i) (a2 i) (a3 i) (a4 i)) s0 k = false) := Lib.hid (by simp [goodAt, q1])
        go_wp2_with fail
        refine wp_gen (fun W0 hW0 => ?_)
        have s0_ : Below w.heap.size w W0 := by rw [hW0]; exact hbr.alloc hbr.size _
        have s1_ : W0.cell? ⟨wr.heap.size, 0, none⟩ = some (.string (s0 (k))) := by simp [hW0]
        have s2_ : W0.cell? ⟨wr.heap.size, 1, none⟩ = some (.int .i64 (a1 (k))) := by simp [hW0]
        have s3_ : W0.cell? ⟨wr.heap.size, 2, none⟩ = some (.int .i64 (a2 (k))) := by simp [hW0]
        have s4_ : W0.cell? ⟨wr.heap.size, 3, none⟩ = some (.int .i64 (a3 (k))) := by simp [hW0]
        have s5_ : W0.cell? ⟨wr.heap.size, 4, none⟩ = some (.int .i64 (a4 (k))) := by simp [hW0]
        have s6_ : wr.heap.size < W0.heap.size := by simp [hW0]
        clear hW0
        refine wp_region_held_drew (S := fun w' => Below w.heap.size w w' ∧ w'.cell? ⟨wr.heap.size, 0, none⟩ = some (.string (s0 (k))) ∧ w'.cell? ⟨wr.heap.size, 1, none⟩ = some (.int .i64 (a1 (k))) ∧ w'.cell? ⟨wr.heap.size, 2, none⟩ = some (.int .i64 (a2 (k))) ∧ w'.cell? ⟨wr.heap.size, 3, none⟩ = some (.int .i64 (a3 (k))) ∧ w'.cell? ⟨wr.heap.size, 4, none⟩ = some (.int .i64 (a4 (k))) ∧ wr.heap.size < w'.heap.size) (by kernel_rfl) ?_ (fun hHeld => ?_)
        · exact ⟨s0_.drew, s1_, s2_, s3_, s4_, s5_, s6_⟩
        refine take_yes (i := 0) (d := 12) (v := ?_) _ rfl rfl (by kernel_rfl) (by kernel_rfl) (by kernel_rfl) (fun _ _ _ _ h => h) (by rfl) ?_ (by assumption) ?_
        rotate_left 1
        · ((intro w hSw; (try dsimp only at hSw); go_simp) <;> (try with_reducible rfl))
        try simp only [Act.put, List.setIfInBounds_toArray, List.set_cons_zero, List.set_cons_succ]
        refine wpAnyH_ready (rs := [1]) (by kernel_rfl) (by simp) ?_
        refine AllReadyH.cons rfl (fun K hK => ?_) AllReadyH.nil
        go_simp
        go_at_call 169
        refine (validIngot_calls _ _ _ _ _ _ hsk).mono ?_
        simp only [q1]
        rintro e w1 ⟨rfl, hb⟩
        refine hK.out _ _ ?_ (fun hHeld2 => ?_)
        · obtain ⟨x0_, x1_, x2_, x3_, x4_, x5_, x6_⟩ := hHeld
          exact ⟨x0_.trans (hb.mono x0_.size), (hb.cell (p := ⟨_, _, none⟩) x6_).trans x1_, (hb.cell (p := ⟨_, _, none⟩) x6_).trans x2_, (hb.cell (p := ⟨_, _, none⟩) x6_).trans x3_, (hb.cell (p := ⟨_, _, none⟩) x6_).trans x4_, (hb.cell (p := ⟨_, _, none⟩) x6_).trans x5_, Nat.lt_of_lt_of_le x6_ hb.size⟩
        clear hK K hHeld
        try simp only [Act.put, List.setIfInBounds_toArray, List.set_cons_zero, List.set_cons_succ]
        refine take_yes (i := 2) (d := 14) (v := ?_) _ rfl rfl (by kernel_rfl) (by kernel_rfl) (by kernel_rfl) (fun _ _ _ _ h => h) (by rfl) ?_ (by assumption) ?_
        rotate_left 1
        · ((intro w hSw; (try dsimp only at hSw); go_simp) <;> (try with_reducible rfl))
        try simp only [Act.put, List.setIfInBounds_toArray, List.set_cons_zero, List.set_cons_succ]
        refine take_yes (i := 3) (d := 15) (v := ?_) _ rfl rfl (by kernel_rfl) (by kernel_rfl) (by kernel_rfl) (fun _ _ _ _ h => h) (by rfl) ?_ (by assumption) ?_
        rotate_left 1
        · ((intro w hSw; (try dsimp only at hSw); go_simp) <;> (try with_reducible rfl))
        try simp only [Act.put, List.setIfInBounds_toArray, List.set_cons_zero, List.set_cons_succ]
        refine take_no (i := 4) (d := 16) _ rfl rfl (by kernel_rfl) (by kernel_rfl) (by kernel_rfl) (fun _ _ _ _ h => h) (by rfl) (by assumption) ?_
        try simp only [Act.put, List.setIfInBounds_toArray, List.set_cons_zero, List.set_cons_succ]
        refine take_no (i := 5) (d := 17) _ rfl rfl (by kernel_rfl) (by kernel_rfl) (by kernel_rfl) (fun _ _ _ _ h => h) (by rfl) (by assumption) ?_
        try simp only [Act.put, List.setIfInBounds_toArray, List.set_cons_zero, List.set_cons_succ]
        refine take_no (i := 6) (d := 18) _ rfl rfl (by kernel_rfl) (by kernel_rfl) (by kernel_rfl) (fun _ _ _ _ h => h) (by rfl) (by assumption) ?_
        try simp only [Act.put, List.setIfInBounds_toArray, List.set_cons_zero, List.set_cons_succ]
        refine take_no (i := 7) (d := 19) _ rfl rfl (by kernel_rfl) (by kernel_rfl) (by kernel_rfl) (fun _ _ _ _ h => h) (by rfl) (by assumption) ?_
        try simp only [Act.put, List.setIfInBounds_toArray, List.set_cons_zero, List.set_cons_succ]
        refine take_no (i := 8) (d := 20) _ rfl rfl (by kernel_rfl) (by kernel_rfl) (by kernel_rfl) (fun _ _ _ _ h => h) (by rfl) (by assumption) ?_
        try simp only [Act.put, List.setIfInBounds_toArray, List.set_cons_zero, List.set_cons_succ]
        refine take_no (i := 9) (d := 21) _ rfl rfl (by kernel_rfl) (by kernel_rfl) (by kernel_rfl) (fun _ _ _ _ h => h) (by rfl) (by assumption) ?_
        try simp only [Act.put, List.setIfInBounds_toArray, List.set_cons_zero, List.set_cons_succ]
        refine take_no (i := 10) (d := 22) _ rfl rfl (by kernel_rfl) (by kernel_rfl) (by kernel_rfl) (fun _ _ _ _ h => h) (by rfl) (by assumption) ?_
        try simp only [Act.put, List.setIfInBounds_toArray, List.set_cons_zero, List.set_cons_succ]
        refine take_no (i := 11) (d := 23) _ rfl rfl (by kernel_rfl) (by kernel_rfl) (by kernel_rfl) (fun _ _ _ _ h => h) (by rfl) (by assumption) ?_
        try simp only [Act.put, List.setIfInBounds_toArray, List.set_cons_zero, List.set_cons_succ]
        refine take_no (i := 12) (d := 24) _ rfl rfl (by kernel_rfl) (by kernel_rfl) (by kernel_rfl) (fun _ _ _ _ h => h) (by rfl) (by assumption) ?_
        try simp only [Act.put, List.setIfInBounds_toArray, List.set_cons_zero, List.set_cons_succ]
        refine take_no (i := 13) (d := 25) _ rfl rfl (by kernel_rfl) (by kernel_rfl) (by kernel_rfl) (fun _ _ _ _ h => h) (by rfl) (by assumption) ?_
        try simp only [Act.put, List.setIfInBounds_toArray, List.set_cons_zero, List.set_cons_succ]
        refine take_no (i := 14) (d := 26) _ rfl rfl (by kernel_rfl) (by kernel_rfl) (by kernel_rfl) (fun _ _ _ _ h => h) (by rfl) (by assumption) ?_
        try simp only [Act.put, List.setIfInBounds_toArray, List.set_cons_zero, List.set_cons_succ]
        refine take_no (i := 15) (d := 27) _ rfl rfl (by kernel_rfl) (by kernel_rfl) (by kernel_rfl) (fun _ _ _ _ h => h) (by rfl) (by assumption) ?_
        try simp only [Act.put, List.setIfInBounds_toArray, List.set_cons_zero, List.set_cons_succ]
        refine take_no (i := 16) (d := 28) _ rfl rfl (by kernel_rfl) (by kernel_rfl) (by kernel_rfl) (fun _ _ _ _ h => h) (by rfl) (by assumption) ?_
        try simp only [Act.put, List.setIfInBounds_toArray, List.set_cons_zero, List.set_cons_succ]
        refine take_yes (i := 17) (d := 29) (v := ?_) _ rfl rfl (by kernel_rfl) (by kernel_rfl) (by kernel_rfl) (fun _ _ _ _ h => h) (by rfl) ?_ (by assumption) ?_
        rotate_left 1
        · ((intro w hSw; (try dsimp only at hSw); go_simp) <;> (try with_reducible rfl))
        try simp only [Act.put, List.setIfInBounds_toArray, List.set_cons_zero, List.set_cons_succ]
        refine wpAnyH_done (by kernel_rfl) ?_ _
        all_goals
          have hbr2 := (‹Below _ _ _ ∧ _›).1
          go_wp2
          go_ret
          exact ⟨ret_bool (by rw [← HRES.out, allB_no hlt HK.out]; rfl), hbr2⟩
      · rcases Nat.eq_zero_or_pos k with hz | hz
        · have hd1 : decide ((0 : Int) < (k : Int)) = false := decide_eq_false (by omega)
          have hd2 : decide (0 < k) = false := decide_eq_false (by omega)
          have HK : Hid (goodAt (fun i => ingB (s0 i) (a1 i) (a2 i) (a3 i) (a4 i)) s0 k = true) := Lib.hid (by subst hz; simp [goodAt, q1])
          clear hz
          go_wp2_with fail
          refine wp_gen (fun W0 hW0 => ?_)
          have s0_ : Below w.heap.size w W0 := by rw [hW0]; exact hbr.alloc hbr.size _
          have s1_ : W0.cell? ⟨wr.heap.size, 0, none⟩ = some (.string (s0 (k))) := by simp [hW0]
          have s2_ : W0.cell? ⟨wr.heap.size, 1, none⟩ = some (.int .i64 (a1 (k))) := by simp [hW0]
          have s3_ : W0.cell? ⟨wr.heap.size, 2, none⟩ = some (.int .i64 (a2 (k))) := by simp [hW0]
          have s4_ : W0.cell? ⟨wr.heap.size, 3, none⟩ = some (.int .i64 (a3 (k))) := by simp [hW0]
          have s5_ : W0.cell? ⟨wr.heap.size, 4, none⟩ = some (.int .i64 (a4 (k))) := by simp [hW0]
          have s6_ : wr.heap.size < W0.heap.size := by simp [hW0]
          clear hW0
          refine wp_region_held_drew (S := fun w' => Below w.heap.size w w' ∧ w'.cell? ⟨wr.heap.size, 0, none⟩ = some (.string (s0 (k))) ∧ w'.cell? ⟨wr.heap.size, 1, none⟩ = some (.int .i64 (a1 (k))) ∧ w'.cell? ⟨wr.heap.size, 2, none⟩ = some (.int .i64 (a2 (k))) ∧ w'.cell? ⟨wr.heap.size, 3, none⟩ = some (.int .i64 (a3 (k))) ∧ w'.cell? ⟨wr.heap.size, 4, none⟩ = some (.int .i64 (a4 (k))) ∧ wr.heap.size < w'.heap.size) (by kernel_rfl) ?_ (fun hHeld => ?_)
          · exact ⟨s0_.drew, s1_, s2_, s3_, s4_, s5_, s6_⟩
          refine take_yes (i := 0) (d := 12) (v := ?_) _ rfl rfl (by kernel_rfl) (by kernel_rfl) (by kernel_rfl) (fun _ _ _ _ h => h) (by rfl) ?_ (by assumption) ?_
          rotate_left 1
          · ((intro w hSw; (try dsimp only at hSw); go_simp) <;> (try with_reducible rfl))
          try simp only [Act.put, List.setIfInBounds_toArray, List.set_cons_zero, List.set_cons_succ]
          refine wpAnyH_ready (rs := [1]) (by kernel_rfl) (by simp) ?_
          refine AllReadyH.cons rfl (fun K hK => ?_) AllReadyH.nil
          go_simp
          go_at_call 169
          refine (validIngot_calls _ _ _ _ _ _ hsk).mono ?_
          simp only [q1]
          rintro e w1 ⟨rfl, hb⟩
          refine hK.out _ _ ?_ (fun hHeld2 => ?_)
          · obtain ⟨x0_, x1_, x2_, x3_, x4_, x5_, x6_⟩ := hHeld
            exact ⟨x0_.trans (hb.mono x0_.size), (hb.cell (p := ⟨_, _, none⟩) x6_).trans x1_, (hb.cell (p := ⟨_, _, none⟩) x6_).trans x2_, (hb.cell (p := ⟨_, _, none⟩) x6_).trans x3_, (hb.cell (p := ⟨_, _, none⟩) x6_).trans x4_, (hb.cell (p := ⟨_, _, none⟩) x6_).trans x5_, Nat.lt_of_lt_of_le x6_ hb.size⟩
          clear hK K hHeld
          try simp only [Act.put, List.setIfInBounds_toArray, List.set_cons_zero, List.set_cons_succ]
          refine take_yes (i := 2) (d := 14) (v := ?_) _ rfl rfl (by kernel_rfl) (by kernel_rfl) (by kernel_rfl) (fun _ _ _ _ h => h) (by rfl) ?_ (by assumption) ?_
          rotate_left 1
          · ((intro w hSw; (try dsimp only at hSw); go_simp) <;> (try with_reducible rfl))
          try simp only [Act.put, List.setIfInBounds_toArray, List.set_cons_zero, List.set_cons_succ]
          refine take_yes (i := 3) (d := 15) (v := ?_) _ rfl rfl (by kernel_rfl) (by kernel_rfl) (by kernel_rfl) (fun _ _ _ _ h => h) (by rfl) ?_ (by assumption) ?_
          rotate_left 1
          · ((intro w hSw; (try dsimp only at hSw); go_simp) <;> (try with_reducible rfl))
          try simp only [Act.put, List.setIfInBounds_toArray, List.set_cons_zero, List.set_cons_succ]
          refine take_yes (i := 4) (d := 16) (v := ?_) _ rfl rfl (by kernel_rfl) (by kernel_rfl) (by kernel_rfl) (fun _ _ _ _ h => h) (by rfl) ?_ (by assumption) ?_
          rotate_left 1
          · ((intro w hSw; (try dsimp only at hSw); go_simp) <;> (try with_reducible rfl))
          try simp only [Act.put, List.setIfInBounds_toArray, List.set_cons_zero, List.set_cons_succ]
          refine take_yes (i := 5) (d := 17) (v := ?_) _ rfl rfl (by kernel_rfl) (by kernel_rfl) (by kernel_rfl) (fun _ _ _ _ h => h) (by rfl) ?_ (by assumption) ?_
          rotate_left 1
          · ((intro w hSw; (try dsimp only at hSw); go_simp) <;> (try with_reducible rfl))
          try simp only [Act.put, List.setIfInBounds_toArray, List.set_cons_zero, List.set_cons_succ]
          refine take_yes (i := 6) (d := 18) (v := ?_) _ rfl rfl (by kernel_rfl) (by kernel_rfl) (by kernel_rfl) (fun _ _ _ _ h => h) (by rfl) ?_ (by assumption) ?_
          rotate_left 1
          · ((intro w hSw; (try dsimp only at hSw); go_simp) <;> (try with_reducible rfl))
          try simp only [Act.put, List.setIfInBounds_toArray, List.set_cons_zero, List.set_cons_succ]
          refine take_no (i := 7) (d := 19) _ rfl rfl (by kernel_rfl) (by kernel_rfl) (by kernel_rfl) (fun _ _ _ _ h => h) (by rfl) (by assumption) ?_
          try simp only [Act.put, List.setIfInBounds_toArray, List.set_cons_zero, List.set_cons_succ]
          refine take_no (i := 8) (d := 20) _ rfl rfl (by kernel_rfl) (by kernel_rfl) (by kernel_rfl) (fun _ _ _ _ h => h) (by rfl) (by assumption) ?_
          try simp only [Act.put, List.setIfInBounds_toArray, List.set_cons_zero, List.set_cons_succ]
          refine take_no (i := 9) (d := 21) _ rfl rfl (by kernel_rfl) (by kernel_rfl) (by kernel_rfl) (fun _ _ _ _ h => h) (by rfl) (by assumption) ?_
          try simp only [Act.put, List.setIfInBounds_toArray, List.set_cons_zero, List.set_cons_succ]
          refine take_no (i := 10) (d := 22) _ rfl rfl (by kernel_rfl) (by kernel_rfl) (by kernel_rfl) (fun _ _ _ _ h => h) (by rfl) (by assumption) ?_
          try simp only [Act.put, List.setIfInBounds_toArray, List.set_cons_zero, List.set_cons_succ]
          refine take_no (i := 11) (d := 23) _ rfl rfl (by kernel_rfl) (by kernel_rfl) (by kernel_rfl) (fun _ _ _ _ h => h) (by rfl) (by assumption) ?_
          try simp only [Act.put, List.setIfInBounds_toArray, List.set_cons_zero, List.set_cons_succ]
          refine take_no (i := 12) (d := 24) _ rfl rfl (by kernel_rfl) (by kernel_rfl) (by kernel_rfl) (fun _ _ _ _ h => h) (by rfl) (by assumption) ?_
          try simp only [Act.put, List.setIfInBounds_toArray, List.set_cons_zero, List.set_cons_succ]
          refine take_no (i := 13) (d := 25) _ rfl rfl (by kernel_rfl) (by kernel_rfl) (by kernel_rfl) (fun _ _ _ _ h => h) (by rfl) (by assumption) ?_
          try simp only [Act.put, List.setIfInBounds_toArray, List.set_cons_zero, List.set_cons_succ]
          refine take_no (i := 14) (d := 26) _ rfl rfl (by kernel_rfl) (by kernel_rfl) (by kernel_rfl) (fun _ _ _ _ h => h) (by rfl) (by assumption) ?_
          try simp only [Act.put, List.setIfInBounds_toArray, List.set_cons_zero, List.set_cons_succ]
          refine take_no (i := 15) (d := 27) _ rfl rfl (by kernel_rfl) (by kernel_rfl) (by kernel_rfl) (fun _ _ _ _ h => h) (by rfl) (by assumption) ?_
          try simp only [Act.put, List.setIfInBounds_toArray, List.set_cons_zero, List.set_cons_succ]
          refine take_yes (i := 16) (d := 28) (v := ?_) _ rfl rfl (by kernel_rfl) (by kernel_rfl) (by kernel_rfl) (fun _ _ _ _ h => h) (by rfl) ?_ (by assumption) ?_
          rotate_left 1
          · ((intro w hSw; (try dsimp only at hSw); go_simp) <;> (try with_reducible rfl))
          try simp only [Act.put, List.setIfInBounds_toArray, List.set_cons_zero, List.set_cons_succ]
          refine take_yes (i := 17) (d := 29) (v := ?_) _ rfl rfl (by kernel_rfl) (by kernel_rfl) (by kernel_rfl) (fun _ _ _ _ h => h) (by rfl) ?_ (by assumption) ?_
          rotate_left 1
          · ((intro w hSw; (try dsimp only at hSw); go_simp) <;> (try with_reducible rfl))
          try simp only [Act.put, List.setIfInBounds_toArray, List.set_cons_zero, List.set_cons_succ]
          refine wpAnyH_done (by kernel_rfl) ?_ _
          all_goals
            have hbr2 := (‹Below _ _ _ ∧ _›).1
            go_wp2
            go_roundw
            case rel => exact ⟨k + 1, by omega, by go_num, Lib.hid (by rw [show allB (goodAt (fun i => ingB (s0 i) (a1 i) (a2 i) (a3 i) (a4 i)) s0) (k + 1) = (allB (goodAt (fun i => ingB (s0 i) (a1 i) (a2 i) (a3 i) (a4 i)) s0) (k) && goodAt (fun i => ingB (s0 i) (a1 i) (a2 i) (a3 i) (a4 i)) s0 (k)) from rfl, hgood.out, HK.out]; rfl), hbr2⟩
            case measure => simp [intOf]; omega
        · obtain ⟨j, hj⟩ : ∃ j, k = j + 1 := ⟨k - 1, by omega⟩
          have pr := (HR.out j (by omega)).below hbr (Nat.le_refl _) |>.1
          have hd1 : decide ((0 : Int) < (k : Int)) = true := decide_eq_true (by omega)
          have hd2 : decide (0 < k) = true := decide_eq_true (by omega)
          have hw : IntKind.i64.wrap ((k : Int) - 1) = (j : Int) := (IntWalk.i64_in _ ⟨by omega, by omega⟩).trans (by omega)
          have hjn : j < n := by omega
          have hg : goodAt (fun i => ingB (s0 i) (a1 i) (a2 i) (a3 i) (a4 i)) s0 k = Op.bytesLess (s0 j).toList (s0 k).toList := by subst hj; simp [goodAt, q1]
          clear hj hz
          have hle := less_total (s0 k).toList (s0 j).toList
          cases q2 : (Op.bytesLess (s0 k).toList (s0 j).toList || (s0 k).toList == (s0 j).toList)
          · have HK : Hid (goodAt (fun i => ingB (s0 i) (a1 i) (a2 i) (a3 i) (a4 i)) s0 k = true) := Lib.hid (by rw [q2] at hle; rw [hg]; simpa using hle)
            clear hg hle
            go_wp2_with fail
            refine wp_gen (fun W0 hW0 => ?_)
            have s0_ : Below w.heap.size w W0 := by rw [hW0]; exact hbr.alloc hbr.size _
            have s1_ : W0.cell? ⟨wr.heap.size, 0, none⟩ = some (.string (s0 (k))) := by simp [hW0]
            have s2_ : W0.cell? ⟨wr.heap.size, 1, none⟩ = some (.int .i64 (a1 (k))) := by simp [hW0]
            have s3_ : W0.cell? ⟨wr.heap.size, 2, none⟩ = some (.int .i64 (a2 (k))) := by simp [hW0]
            have s4_ : W0.cell? ⟨wr.heap.size, 3, none⟩ = some (.int .i64 (a3 (k))) := by simp [hW0]
            have s5_ : W0.cell? ⟨wr.heap.size, 4, none⟩ = some (.int .i64 (a4 (k))) := by simp [hW0]
            have s6_ : W0.cell? ⟨b, o + j * 5, none⟩ = some (.string (s0 j)) := by rw [hW0]; exact (Go.World.cell?_alloc_some _ _ _ (by rw [pr]; rfl)).trans pr
            have s7_ : wr.heap.size < W0.heap.size := by simp [hW0]
            clear hW0
            go_region_held3 (fun w' => Below w.heap.size w w' ∧ w'.cell? ⟨wr.heap.size, 0, none⟩ = some (.string (s0 (k))) ∧ w'.cell? ⟨wr.heap.size, 1, none⟩ = some (.int .i64 (a1 (k))) ∧ w'.cell? ⟨wr.heap.size, 2, none⟩ = some (.int .i64 (a2 (k))) ∧ w'.cell? ⟨wr.heap.size, 3, none⟩ = some (.int .i64 (a3 (k))) ∧ w'.cell? ⟨wr.heap.size, 4, none⟩ = some (.int .i64 (a4 (k))) ∧ w'.cell? ⟨b, o + j * 5, none⟩ = some (.string (s0 j)) ∧ wr.heap.size < w'.heap.size)
              (first
                | exact ⟨s0_.drew, s1_, s2_, s3_, s4_, s5_, s6_, s7_⟩
                | assumption
                | (obtain ⟨x0_, x1_, x2_, x3_, x4_, x5_, x6_, x7_⟩ := ‹Below _ _ _ ∧ _›; exact ⟨x0_.trans (hb.mono x0_.size), (hb.cell (p := ⟨_, _, none⟩) x7_).trans x1_, (hb.cell (p := ⟨_, _, none⟩) x7_).trans x2_, (hb.cell (p := ⟨_, _, none⟩) x7_).trans x3_, (hb.cell (p := ⟨_, _, none⟩) x7_).trans x4_, (hb.cell (p := ⟨_, _, none⟩) x7_).trans x5_, (hb.cell (p := ⟨_, _, none⟩) (Nat.lt_of_lt_of_le hbw x0_.size)).trans x6_, Nat.lt_of_lt_of_le x7_ hb.size⟩)
                | go_keep)
              (first | (go_at_call 169; refine (validIngot_calls _ _ _ _ _ _ hsk).mono ?_; simp only [q1]; rintro e w1 ⟨rfl, hb⟩))
            all_goals
              have hbr2 := (‹Below _ _ _ ∧ _›).1
              go_wp2
              go_roundw
              case rel => exact ⟨k + 1, by omega, by go_num, Lib.hid (by rw [show allB (goodAt (fun i => ingB (s0 i) (a1 i) (a2 i) (a3 i) (a4 i)) s0) (k + 1) = (allB (goodAt (fun i => ingB (s0 i) (a1 i) (a2 i) (a3 i) (a4 i)) s0) (k) && goodAt (fun i => ingB (s0 i) (a1 i) (a2 i) (a3 i) (a4 i)) s0 (k)) from rfl, hgood.out, HK.out]; rfl), hbr2⟩
              case measure => simp [intOf]; omega
          · have HK : Hid (goodAt (fun i => ingB (s0 i) (a1 i) (a2 i) (a3 i) (a4 i)) s0 k = false) := Lib.hid (by rw [q2] at hle; rw [hg]; simpa using hle)
            clear hg hle
            go_wp2_with fail
            refine wp_gen (fun W0 hW0 => ?_)
            have s0_ : Below w.heap.size w W0 := by rw [hW0]; exact hbr.alloc hbr.size _
            have s1_ : W0.cell? ⟨wr.heap.size, 0, none⟩ = some (.string (s0 (k))) := by simp [hW0]
            have s2_ : W0.cell? ⟨wr.heap.size, 1, none⟩ = some (.int .i64 (a1 (k))) := by simp [hW0]
            have s3_ : W0.cell? ⟨wr.heap.size, 2, none⟩ = some (.int .i64 (a2 (k))) := by simp [hW0]
            have s4_ : W0.cell? ⟨wr.heap.size, 3, none⟩ = some (.int .i64 (a3 (k))) := by simp [hW0]
            have s5_ : W0.cell? ⟨wr.heap.size, 4, none⟩ = some (.int .i64 (a4 (k))) := by simp [hW0]
            have s6_ : W0.cell? ⟨b, o + j * 5, none⟩ = some (.string (s0 j)) := by rw [hW0]; exact (Go.World.cell?_alloc_some _ _ _ (by rw [pr]; rfl)).trans pr
            have s7_ : wr.heap.size < W0.heap.size := by simp [hW0]
            clear hW0
            go_region_held3 (fun w' => Below w.heap.size w w' ∧ w'.cell? ⟨wr.heap.size, 0, none⟩ = some (.string (s0 (k))) ∧ w'.cell? ⟨wr.heap.size, 1, none⟩ = some (.int .i64 (a1 (k))) ∧ w'.cell? ⟨wr.heap.size, 2, none⟩ = some (.int .i64 (a2 (k))) ∧ w'.cell? ⟨wr.heap.size, 3, none⟩ = some (.int .i64 (a3 (k))) ∧ w'.cell? ⟨wr.heap.size, 4, none⟩ = some (.int .i64 (a4 (k))) ∧ w'.cell? ⟨b, o + j * 5, none⟩ = some (.string (s0 j)) ∧ wr.heap.size < w'.heap.size)
              (first
                | exact ⟨s0_.drew, s1_, s2_, s3_, s4_, s5_, s6_, s7_⟩
                | assumption
                | (obtain ⟨x0_, x1_, x2_, x3_, x4_, x5_, x6_, x7_⟩ := ‹Below _ _ _ ∧ _›; exact ⟨x0_.trans (hb.mono x0_.size), (hb.cell (p := ⟨_, _, none⟩) x7_).trans x1_, (hb.cell (p := ⟨_, _, none⟩) x7_).trans x2_, (hb.cell (p := ⟨_, _, none⟩) x7_).trans x3_, (hb.cell (p := ⟨_, _, none⟩) x7_).trans x4_, (hb.cell (p := ⟨_, _, none⟩) x7_).trans x5_, (hb.cell (p := ⟨_, _, none⟩) (Nat.lt_of_lt_of_le hbw x0_.size)).trans x6_, Nat.lt_of_lt_of_le x7_ hb.size⟩)
                | go_keep)
              (first | (go_at_call 169; refine (validIngot_calls _ _ _ _ _ _ hsk).mono ?_; simp only [q1]; rintro e w1 ⟨rfl, hb⟩))
            all_goals
              have hbr2 := (‹Below _ _ _ ∧ _›).1
              go_wp2
              go_ret
              exact ⟨ret_bool (by rw [← HRES.out, allB_no hlt HK.out]; rfl), hbr2⟩
    · obtain rfl : k = n := by omega
      by_cases hm : (k : Int) ≤ 16
      ·
        go_wp2
        go_ret
        exact ⟨ret_bool (by rw [← HRES.out, hgood.out]; simp [hm] <;> omega), hbr⟩
      ·
        go_wp2
        go_ret
        exact ⟨ret_bool (by rw [← HRES.out, hgood.out]; simp [hm] <;> omega), hbr⟩
set_option maxHeartbeats 4000000 in
theorem spec_l13Ok_calls (A : Option Addr) (n c : Nat) (s0 : Nat → ByteArray) (a1 : Nat → Int) (a2 : Nat → Int) (a3 : Nat → Int) (a4 : Nat → Int) (w : World) (h : IngotRow w A n s0 a1 a2 a3 a4) (hs : ∀ i, i < n → (s0 i).size ≤ maxLen) (hn : n ≤ maxLen) :
    Calls Try.prog 98 #[.slice A n c] w fun e w' => e = .returned (.bool (allB (goodAt (fun i => ingB (s0 i) (a1 i) (a2 i) (a3 i) (a4 i)) s0) n && decide ((n : Int) ≤ 16))) ∧ Below w.heap.size w w' := by
  unfold maxLen at hn
  generalize hres : (allB (goodAt (fun i => ingB (s0 i) (a1 i) (a2 i) (a3 i) (a4 i)) s0) n && decide ((n : Int) ≤ 16)) = R
  have HRES := Lib.hid hres
  have H := Lib.hid h
  have HS := Lib.hid hs
  clear h hs hres
  go_enter Try.func98, Try.ntmps98
  go_wp2
  go_loopw [3] (fun i wr => ∃ k : Nat, k ≤ n ∧ i = .int .i64 k ∧ Hid (allB (goodAt (fun i => ingB (s0 i) (a1 i) (a2 i) (a3 i) (a4 i)) s0) k = true) ∧ Below w.heap.size w wr) (fun i _ => n - (intOf i).toNat)
  case atStart => exact ⟨0, by omega, rfl, rfl, Below.refl _ _⟩
  case round =>
    obtain ⟨k, hk, rfl, hgood, hbr⟩ := hrel
    by_cases hlt : k < n
    · have hsk := HS.out k hlt
      obtain ⟨b, o, rfl, hrow⟩ := H.out (by omega)
      have hbw := (hrow k hlt).lt
      obtain ⟨c0, c1, c2, c3, c4⟩ := (hrow k hlt).below hbr (Nat.le_refl _)
      have HR := Lib.hid hrow
      clear hrow
      cases q1 : ingB (s0 k) (a1 k) (a2 k) (a3 k) (a4 k)
      · have HK : Hid (goodAt (fun i => ingB (s0 i) (a1 i) (a2 i) (a3 i) (a4 i)) s0 k = false) := Lib.hid (by simp [goodAt, q1])
        have HC := Lib.hid (show ∀ m, Calls Try.prog 160 #[.pointer (some ⟨b, o + k * 5, none⟩)] (wr.drewN m) (fun e w' => e = .returned (.bool false) ∧ ∃ m2, w' = (wr.drewN m).drewN m2) from fun m => by have hq := sIngot_calls b (o + k * 5) (s0 k) (a1 k) (a2 k) (a3 k) (a4 k) (wr.drewN m) hsk (by simpa using c0) (by simpa using c1) (by simpa using c2) (by simpa using c3) (by simpa using c4); rwa [q1] at hq)
        go_wp2_with fail
        go_quiet ((go_at_call 160; exact quiet_more (HC.out _)))
        have hbr2 := hbr
        go_wp2
        go_ret
        exact ⟨ret_bool (by rw [← HRES.out, allB_no hlt HK.out]; rfl), below_drewN hbr2 _⟩
      · rcases Nat.eq_zero_or_pos k with hz | hz
        · have hd1 : decide ((0 : Int) < (k : Int)) = false := decide_eq_false (by omega)
          have hd2 : decide (0 < k) = false := decide_eq_false (by omega)
          have HK : Hid (goodAt (fun i => ingB (s0 i) (a1 i) (a2 i) (a3 i) (a4 i)) s0 k = true) := Lib.hid (by subst hz; simp [goodAt, q1])
          clear hz
          have HC := Lib.hid (show ∀ m, Calls Try.prog 160 #[.pointer (some ⟨b, o + k * 5, none⟩)] (wr.drewN m) (fun e w' => e = .returned (.bool true) ∧ ∃ m2, w' = (wr.drewN m).drewN m2) from fun m => by have hq := sIngot_calls b (o + k * 5) (s0 k) (a1 k) (a2 k) (a3 k) (a4 k) (wr.drewN m) hsk (by simpa using c0) (by simpa using c1) (by simpa using c2) (by simpa using c3) (by simpa using c4); rwa [q1] at hq)
          go_wp2_with fail
          go_quiet ((go_at_call 160; exact quiet_more (HC.out _)))
          have hbr2 := hbr
          go_wp2
          go_roundw
          case rel => exact ⟨k + 1, by omega, by go_num, Lib.hid (by rw [show allB (goodAt (fun i => ingB (s0 i) (a1 i) (a2 i) (a3 i) (a4 i)) s0) (k + 1) = (allB (goodAt (fun i => ingB (s0 i) (a1 i) (a2 i) (a3 i) (a4 i)) s0) k && goodAt (fun i => ingB (s0 i) (a1 i) (a2 i) (a3 i) (a4 i)) s0 k) from rfl, hgood.out, HK.out]; rfl), below_drewN hbr2 _⟩
          case measure => simp [intOf]; omega
        · obtain ⟨j, hj⟩ : ∃ j, k = j + 1 := ⟨k - 1, by omega⟩
          have pr := (HR.out j (by omega)).below hbr (Nat.le_refl _) |>.1
          have hd1 : decide ((0 : Int) < (k : Int)) = true := decide_eq_true (by omega)
          have hd2 : decide (0 < k) = true := decide_eq_true (by omega)
          have hw : IntKind.i64.wrap ((k : Int) - 1) = (j : Int) := (IntWalk.i64_in _ ⟨by omega, by omega⟩).trans (by omega)
          have hjn : j < n := by omega
          have hg : goodAt (fun i => ingB (s0 i) (a1 i) (a2 i) (a3 i) (a4 i)) s0 k = Op.bytesLess (s0 j).toList (s0 k).toList := by subst hj; simp [goodAt, q1]
          clear hj hz
          cases q3 : Op.bytesLess (s0 j).toList (s0 k).toList
          · have HK : Hid (goodAt (fun i => ingB (s0 i) (a1 i) (a2 i) (a3 i) (a4 i)) s0 k = false) := Lib.hid (by rw [hg, q3])
            clear hg
            have HC := Lib.hid (show ∀ m, Calls Try.prog 160 #[.pointer (some ⟨b, o + k * 5, none⟩)] (wr.drewN m) (fun e w' => e = .returned (.bool true) ∧ ∃ m2, w' = (wr.drewN m).drewN m2) from fun m => by have hq := sIngot_calls b (o + k * 5) (s0 k) (a1 k) (a2 k) (a3 k) (a4 k) (wr.drewN m) hsk (by simpa using c0) (by simpa using c1) (by simpa using c2) (by simpa using c3) (by simpa using c4); rwa [q1] at hq)
            go_wp2_with fail
            go_quiet ((go_at_call 160; exact quiet_more (HC.out _)))
            have hbr2 := hbr
            go_wp2
            go_ret
            exact ⟨ret_bool (by rw [← HRES.out, allB_no hlt HK.out]; rfl), below_drewN hbr2 _⟩
          · have HK : Hid (goodAt (fun i => ingB (s0 i) (a1 i) (a2 i) (a3 i) (a4 i)) s0 k = true) := Lib.hid (by rw [hg, q3])
            clear hg
            have HC := Lib.hid (show ∀ m, Calls Try.prog 160 #[.pointer (some ⟨b, o + k * 5, none⟩)] (wr.drewN m) (fun e w' => e = .returned (.bool true) ∧ ∃ m2, w' = (wr.drewN m).drewN m2) from fun m => by have hq := sIngot_calls b (o + k * 5) (s0 k) (a1 k) (a2 k) (a3 k) (a4 k) (wr.drewN m) hsk (by simpa using c0) (by simpa using c1) (by simpa using c2) (by simpa using c3) (by simpa using c4); rwa [q1] at hq)
            go_wp2_with fail
            go_quiet ((go_at_call 160; exact quiet_more (HC.out _)))
            have hbr2 := hbr
            go_wp2
            go_roundw
            case rel => exact ⟨k + 1, by omega, by go_num, Lib.hid (by rw [show allB (goodAt (fun i => ingB (s0 i) (a1 i) (a2 i) (a3 i) (a4 i)) s0) (k + 1) = (allB (goodAt (fun i => ingB (s0 i) (a1 i) (a2 i) (a3 i) (a4 i)) s0) k && goodAt (fun i => ingB (s0 i) (a1 i) (a2 i) (a3 i) (a4 i)) s0 k) from rfl, hgood.out, HK.out]; rfl), below_drewN hbr2 _⟩
            case measure => simp [intOf]; omega
    · obtain rfl : k = n := by omega
      by_cases hm : (k : Int) ≤ 16
      ·
        go_wp2
        go_ret
        exact ⟨ret_bool (by rw [← HRES.out, hgood.out]; simp [hm] <;> omega), hbr⟩
      ·
        go_wp2
        go_ret
        exact ⟨ret_bool (by rw [← HRES.out, hgood.out]; simp [hm] <;> omega), hbr⟩
end Go.Proofs.Ytkilfapknemjhaa
