/- Holes read, by the program and by the reference. -/
import Derived.Test.YtflhkldfhndafaaDoorReadL
import Derived.Test.YtflhkldfhndafaaDoorReadHP
namespace Go.Proofs.YtflhkldfhndafaaDoor
set_option linter.unusedVariables false
set_option linter.unusedSimpArgs false
open Go.RowKit

theorem cut_size (c : UInt8) (l : List UInt8) : (Lib.cut l [c]).1.length ≤ l.length ∧ (Lib.cut l [c]).2.1.length ≤ l.length := by
  rcases cut_cases c l with h | ⟨a, r, rfl, h⟩
  · rw [cut_no h]
    exact ⟨Nat.le_refl _, Nat.zero_le _⟩
  · rw [cut_app h]
    simp
    omega
theorem len_two {α : Type} {l : List α} (h : l.length = 2) : ∃ a b, l = [a, b] := by
  match l, h with
  | [a, b], _ => exact ⟨a, b, rfl⟩
theorem tx_size (l : List UInt8) : (tx l).size = l.length := by rw [← bl_len, bl_tx]
/-- a text cut at all of a byte -/
def SpRet (w : World) (l : List (List UInt8)) (e : Ending) (w' : World) : Prop := ∃ g cap, e = .returned (.slice (some ⟨g, 0, none⟩) l.length cap) ∧ w.heap.size ≤ g ∧ TxAt w' g l ∧ Below w.heap.size w w'
theorem split_ret (s : ByteArray) (c : Nat) (l : List (List UInt8)) (w : World) (hs : s.size ≤ 1048576) (hc : c < 256) (h : splC (UInt8.ofNat c) (bl s) = l) : Calls Tryd.prog 25 #[.string s, .int .u8 (c : Int)] w (SpRet w l) := by
  have := split_calls s c w hs hc
  rw [h] at this
  exact this
/-- a text cut at the first of a byte -/
theorem cut_ret (s : ByteArray) (c : UInt8) (a b : List UInt8) (t : Bool) (w : World) (hs : s.size ≤ 1048576) (hL : HasLib w) (h : Lib.cut (bl s) [c] = (a, b, t)) : Calls Tryd.prog 28 #[.string s, .string ⟨#[c]⟩] w fun e w' => e = .returned (.tuple #[.string (tx a), .string (tx b), .bool t]) ∧ Below w.heap.size w w' := by
  have := Cut_calls s c w hs hL
  rw [h] at this
  exact this
theorem dec_ret (s : ByteArray) (r : Int) (o : Bool) (w : World) (hs : s.size ≤ 1048576) (hL : HasLib w) (hr : numD (bl s) = r) (ho : (numO (bl s)).isSome = o) : Calls Tryd.prog 29 #[.string s] w fun e w' => e = .returned (.tuple #[.int .i64 r, .bool o]) ∧ Below w.heap.size w w' := by
  have := ReadDecimal_calls s w hs hL
  unfold numOut at this
  rw [hr, ho] at this
  exact this
theorem num_ret (s : ByteArray) (r : Int) (o : Bool) (w : World) (hs : s.size ≤ 1048576) (hr : numD (bl s) = r) (ho : (numO (bl s)).isSome = o) : Calls Tryd.prog 26 #[.string s] w fun e w' => e = .returned (.tuple #[.int .i64 r, .bool o]) ∧ w = w' := by
  have := number_calls s w hs
  unfold numOut at this
  rw [hr, ho] at this
  exact this
/-- what both readers of holes do -/
def HoleRet (w : World) (s : ByteArray) (e : Ending) (w' : World) : Prop := ∃ nm r d b, e = .returned (.tuple #[.agg #[.string nm, .int .i64 r, .int .i64 d], .bool b]) ∧ holeOut s nm r d b ∧ Below w.heap.size w w'
theorem hole_bad {w w' : World} {s : ByteArray} (h : noHole s) (hb : Below w.heap.size w w') : HoleRet w s (.returned (.tuple #[.agg #[.string ⟨#[]⟩, .int .i64 0, .int .i64 0], .bool false])) w' := ⟨_, _, _, _, rfl, Or.inr ⟨rfl, rfl, rfl, rfl, h⟩, hb⟩
theorem hole_good {w w' : World} {s nm : ByteArray} {r d : Int} (h : holeB nm r d = true) (ht : holeT nm r d = s) (hb : Below w.heap.size w w') : HoleRet w s (.returned (.tuple #[.agg #[.string nm, .int .i64 r, .int .i64 d], .bool true])) w' := ⟨_, _, _, _, rfl, Or.inl ⟨rfl, h, ht⟩, hb⟩
set_option maxRecDepth 20000 in
set_option maxHeartbeats 4000000 in
theorem sReadHole_calls (s : ByteArray) (w : World) (hs : s.size ≤ 1048576) : Calls Tryd.prog 8 #[.string s] w (HoleRet w s) := by
  have HAL := Lib.hid ((Below.refl w.heap.size w).alloc (Nat.le_refl _) (.cells #[.string ⟨#[]⟩, .int .i64 0, .int .i64 0] 23))
  have HY := Lib.hid (Blk.new w 23 #[.string ⟨#[]⟩, .int .i64 0, .int .i64 0])
  obtain ⟨l, hl⟩ : ∃ l, splC 32 (bl s) = l := ⟨_, rfl⟩
  have HS1 := Lib.hid (fun W => split_ret s 32 l W hs (by omega) hl)
  by_cases h2 : l.length = 2
  · obtain ⟨a, b, rfl⟩ := len_two h2
    clear h2
    have hsz := sp_size (c := 32) (l := bl s)
    rw [hl, bl_len] at hsz
    have ha : (tx a).size ≤ 1048576 := by rw [tx_size]; have := hsz a (by simp); omega
    have hb : (tx b).size ≤ 1048576 := by rw [tx_size]; have := hsz b (by simp); omega
    obtain ⟨m, hm⟩ : ∃ m, splC 120 b = m := ⟨_, rfl⟩
    have HS2 := Lib.hid (fun W => split_ret (tx b) 120 m W hb (by omega) (by rw [bl_tx]; exact hm))
    by_cases h2 : m.length = 2
    · obtain ⟨c, d, rfl⟩ := len_two h2
      clear h2 hsz
      have hsz2 := sp_size (c := 120) (l := b)
      rw [hm] at hsz2
      have hc : (tx c).size ≤ 1048576 := by rw [tx_size] at hb ⊢; have := hsz2 c (by simp); omega
      have hd : (tx d).size ≤ 1048576 := by rw [tx_size] at hb ⊢; have := hsz2 d (by simp); omega
      have HSZ := Lib.hid (show (tx a).size ≤ maxLen by unfold maxLen; omega)
      obtain ⟨r, hr⟩ : ∃ r, numD c = r := ⟨_, rfl⟩
      obtain ⟨q, hq⟩ : ∃ q, numD d = q := ⟨_, rfl⟩
      obtain ⟨o1, ho1⟩ : ∃ o, (numO c).isSome = o := ⟨_, rfl⟩
      obtain ⟨o2, ho2⟩ : ∃ o, (numO d).isSome = o := ⟨_, rfl⟩
      have HN1 := Lib.hid (fun W => num_ret (tx c) r o1 W hc (by rw [bl_tx]; exact hr) (by rw [bl_tx]; exact ho1))
      have HN2 := Lib.hid (fun W => num_ret (tx d) q o2 W hd (by rw [bl_tx]; exact hq) (by rw [bl_tx]; exact ho2))
      obtain ⟨na, hna⟩ : ∃ na, tx a = na := ⟨_, rfl⟩
      obtain ⟨nb, hnb⟩ : ∃ nb, tx b = nb := ⟨_, rfl⟩
      obtain ⟨nc, hnc⟩ : ∃ nc, tx c = nc := ⟨_, rfl⟩
      obtain ⟨nd, hnd⟩ : ∃ nd, tx d = nd := ⟨_, rfl⟩
      rw [hnb] at HS2
      rw [hnc] at HN1
      rw [hnd] at HN2
      rw [hna] at HSZ
      have hcase : (o1 = true ∧ o2 = true ∧ holeB na r q = true ∧ Hid (holeT na r q = s)) ∨ ((o1 = false ∨ (o1 = true ∧ o2 = false) ∨ (o1 = true ∧ o2 = true ∧ holeB na r q = false)) ∧ Hid (noHole s)) := by
        rcases e1 : numO c with _ | x
        · rw [e1] at ho1
          exact Or.inr ⟨Or.inl ho1.symm, Lib.hid (hole_no3 hl hm (Or.inl e1))⟩
        · rw [e1] at ho1
          rcases e2 : numO d with _ | y
          · rw [e2] at ho2
            exact Or.inr ⟨Or.inr (Or.inl ⟨ho1.symm, ho2.symm⟩), Lib.hid (hole_no3 hl hm (Or.inr (Or.inl e2)))⟩
          · rw [e2] at ho2
            cases e3 : holeB na r q
            · exact Or.inr ⟨Or.inr (Or.inr ⟨ho1.symm, ho2.symm, rfl⟩), Lib.hid (hole_no3 hl hm (Or.inr (Or.inr (by rw [hna, hr, hq]; exact e3))))⟩
            · have h5 := hole_yes hl hm e1 e2
              rw [← numD_some e1, ← numD_some e2, hna, hr, hq] at h5
              exact Or.inl ⟨ho1.symm, ho2.symm, rfl, Lib.hid h5⟩
      have HCASE := Lib.hid hcase
      clear hcase hl hm hr hq ho1 ho2 ha hb hc hd hsz2
      go_enter Tryd.func8, Tryd.ntmps8
      go_wp2_with fail
      go_at_call 25
      refine (HS1.out _).mono ?_
      rintro e w1 ⟨g, cap, rfl, hg, htx, hb1⟩
      have c0 := htx.2 0 a rfl
      have c1 := htx.2 1 b rfl
      rw [hna] at c0
      rw [hnb] at c1
      have hg1 := htx.1
      have R1 := HY.out.keep hb1
      have hbr := HAL.out.trans (hb1.mono HAL.out.size)
      clear htx hb1
      go_wp2_with fail
      go_at_call 25
      refine (HS2.out _).mono ?_
      rintro e w2 ⟨g2, cap2, rfl, hg2, htx2, hb2⟩
      have d0 := htx2.2 0 c rfl
      have d1 := htx2.2 1 d rfl
      rw [hnc] at d0
      rw [hnd] at d1
      replace c0 := (hb2.cell (p := ⟨g, 0, none⟩) hg1).trans c0
      have hg2' := htx2.1
      have R2 := R1.keep hb2
      replace hbr := hbr.trans (hb2.mono hbr.size)
      have hgl : g < w2.heap.size := by have := hb2.size; omega
      have hrs := hbr.size
      clear htx2 hb2 c1 R1 hg hg2 hg1 hna hnb hnc hnd HS1 HS2
      have y0 := (R2.cell 0).trans rfl; have y1 := (R2.cell 1).trans rfl; have y2 := (R2.cell 2).trans rfl; have hl := R2.lt; have f2 := R2.frozen
      rcases HCASE.out with ⟨rfl, rfl, q1, HT⟩ | ⟨hx, HNO⟩
      · go_wp2_with (first
          | (go_at_call 26; with_reducible refine (HN1.out _).mono ?_; rintro e w3 ⟨rfl, rfl⟩)
          | (go_at_call 26; with_reducible refine (HN2.out _).mono ?_; rintro e w3 ⟨rfl, rfl⟩)
          | (go_at_call 27; refine (sokHole_calls _ 0 na r q _ HSZ.out (by simp) (by simp) (by simp)).mono ?_; rintro e w1 ⟨rfl, rfl⟩; rw [q1]))
        refine bodyPost_ret (v := .tuple #[.agg #[.string na, .int .i64 r, .int .i64 q], .bool true]) (by simp [results, Tryd.results8, go_sem, y0, y1, y2, hl]) rfl ?_
        refine hole_good q1 HT.out ?_
        go_grown
      · rcases hx with rfl | ⟨rfl, rfl⟩ | ⟨rfl, rfl, q1⟩
        all_goals
          go_wp2_with (first
            | (go_at_call 26; with_reducible refine (HN1.out _).mono ?_; rintro e w3 ⟨rfl, rfl⟩)
            | (go_at_call 26; with_reducible refine (HN2.out _).mono ?_; rintro e w3 ⟨rfl, rfl⟩)
            | (go_at_call 27; refine (sokHole_calls _ 0 na r q _ HSZ.out (by simp) (by simp) (by simp)).mono ?_; rintro e w1 ⟨rfl, rfl⟩; rw [q1]))
          refine bodyPost_ret (v := .tuple #[.agg #[.string ⟨#[]⟩, .int .i64 0, .int .i64 0], .bool false]) (by simp [results, Tryd.results8, go_sem, y0, y1, y2, hl]) rfl ?_
          refine hole_bad HNO.out ?_
          go_grown
    · have HNO := Lib.hid (hole_no2 hl (by rw [hm]; exact h2))
      have h3 : ((m.length : Int) != 2) = true := by simp; omega
      have h4 : ((m.length : Int) == 2) = false := by apply beq_eq_false_iff_ne.2; omega
      obtain ⟨nb, hnb⟩ : ∃ nb, tx b = nb := ⟨_, rfl⟩
      rw [hnb] at HS2
      clear hl hm hsz ha hb
      go_enter Tryd.func8, Tryd.ntmps8
      go_wp2_with fail
      go_at_call 25
      refine (HS1.out _).mono ?_
      rintro e w1 ⟨g, cap, rfl, hg, htx, hb1⟩
      have c1 := htx.2 1 b rfl
      rw [hnb] at c1
      have R1 := HY.out.keep hb1
      have hbr := HAL.out.trans (hb1.mono HAL.out.size)
      clear htx hb1
      go_wp2_with fail
      go_at_call 25
      refine (HS2.out _).mono ?_
      rintro e w2 ⟨g2, cap2, rfl, hg2, htx2, hb2⟩
      have R2 := R1.keep hb2
      replace hbr := hbr.trans (hb2.mono hbr.size)
      clear htx2 hb2
      have y0 := (R2.cell 0).trans rfl; have y1 := (R2.cell 1).trans rfl; have y2 := (R2.cell 2).trans rfl; have hl := R2.lt; have f2 := R2.frozen
      go_wp2
      refine bodyPost_ret (v := .tuple #[.agg #[.string ⟨#[]⟩, .int .i64 0, .int .i64 0], .bool false]) (by simp [results, Tryd.results8, go_sem, y0, y1, y2, hl]) rfl ?_
      refine hole_bad HNO.out ?_
      go_grown
  · have HNO := Lib.hid (hole_no1 (by rw [hl]; exact h2))
    have h3 : ((l.length : Int) != 2) = true := by simp; omega
    have h4 : ((l.length : Int) == 2) = false := by apply beq_eq_false_iff_ne.2; omega
    clear hl
    go_enter Tryd.func8, Tryd.ntmps8
    go_wp2_with fail
    go_at_call 25
    refine (HS1.out _).mono ?_
    rintro e w1 ⟨g, cap, rfl, hg, htx, hb1⟩
    have R2 := HY.out.keep hb1
    have hbr := HAL.out.trans (hb1.mono HAL.out.size)
    clear htx hb1
    have y0 := (R2.cell 0).trans rfl; have y1 := (R2.cell 1).trans rfl; have y2 := (R2.cell 2).trans rfl; have hl := R2.lt; have f2 := R2.frozen
    go_wp2
    refine bodyPost_ret (v := .tuple #[.agg #[.string ⟨#[]⟩, .int .i64 0, .int .i64 0], .bool false]) (by simp [results, Tryd.results8, go_sem, y0, y1, y2, hl]) rfl ?_
    refine hole_bad HNO.out ?_
    go_grown
end Go.Proofs.YtflhkldfhndafaaDoor
