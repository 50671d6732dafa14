/- Holes read, by the program. -/
import Derived.Test.YtflhkldfhndafaaDoorReadH
namespace Go.Proofs.YtflhkldfhndafaaDoor
set_option linter.unusedVariables false
set_option linter.unusedSimpArgs false
open Go.RowKit

theorem tl_ne {a b : ByteArray} (h : a ≠ b) : (a.toList == b.toList) = false := toList_ne h
set_option maxRecDepth 20000 in
set_option maxHeartbeats 4000000 in
theorem ReadHole_calls (s : ByteArray) (w : World) (hs : s.size ≤ 1048576) (hL : HasLib w) : Calls Tryd.prog 9 #[.string s] w (HoleRet w s) := by
  have HAL := Lib.hid ((Below.refl w.heap.size w).alloc (Nat.le_refl _) (.cells #[.string ⟨#[]⟩, .int .i64 0, .int .i64 0] 23))
  have HY := Lib.hid (Blk.new w 23 #[.string ⟨#[]⟩, .int .i64 0, .int .i64 0])
  have HL := Lib.hid hL
  obtain ⟨⟨a, b, t1⟩, hl⟩ : ∃ x, Lib.cut (bl s) [32] = x := ⟨_, rfl⟩
  obtain ⟨⟨c, d, t2⟩, hm⟩ : ∃ x, Lib.cut b [120] = x := ⟨_, rfl⟩
  obtain ⟨za, zb⟩ := cut_size 32 (bl s)
  obtain ⟨zc, zd⟩ := cut_size 120 b
  rw [hl, bl_len] at za zb
  rw [hm] at zc zd
  have ha : (tx a).size ≤ 1048576 := by rw [tx_size]; exact Nat.le_trans za hs
  have hb : (tx b).size ≤ 1048576 := by rw [tx_size]; exact Nat.le_trans zb hs
  have hc : (tx c).size ≤ 1048576 := by rw [tx_size] at hb ⊢; exact Nat.le_trans zc hb
  have hd : (tx d).size ≤ 1048576 := by rw [tx_size] at hb ⊢; exact Nat.le_trans zd hb
  have HSZ := Lib.hid (show (tx a).size ≤ maxLen by unfold maxLen; omega)
  obtain ⟨r, hr⟩ : ∃ r, numD c = r := ⟨_, rfl⟩
  obtain ⟨q, hq⟩ : ∃ q, numD d = q := ⟨_, rfl⟩
  obtain ⟨o1, ho1⟩ : ∃ o, (numO c).isSome = o := ⟨_, rfl⟩
  obtain ⟨o2, ho2⟩ : ∃ o, (numO d).isSome = o := ⟨_, rfl⟩
  have HC1 := Lib.hid (fun W (hb : Below w.heap.size w W) => cut_ret s 32 a b t1 W hs (hL.keep hb) hl)
  have HC2 := Lib.hid (fun W (hb' : Below w.heap.size w W) => cut_ret (tx b) 120 c d t2 W hb (hL.keep hb') (by rw [bl_tx]; exact hm))
  have HN1 := Lib.hid (fun W (hb : Below w.heap.size w W) => dec_ret (tx c) r o1 W hc (hL.keep hb) (by rw [bl_tx]; exact hr) (by rw [bl_tx]; exact ho1))
  have HN2 := Lib.hid (fun W (hb : Below w.heap.size w W) => dec_ret (tx d) q o2 W hd (hL.keep hb) (by rw [bl_tx]; exact hq) (by rw [bl_tx]; exact ho2))
  have HMISS : Hid (holeB (tx a) r q = false ∨ holeT (tx a) r q ≠ s → noHole s) := Lib.hid fun h => hole_miss (s := s) (by rw [hl]) (by rw [hl]; show numD (Lib.cut b [120]).1 = r; rw [hm]; exact hr) (by rw [hl]; show numD (Lib.cut b [120]).2.1 = q; rw [hm]; exact hq) h
  obtain ⟨na, hna⟩ : ∃ na, tx a = na := ⟨_, rfl⟩
  obtain ⟨nb, hnb⟩ : ∃ nb, tx b = nb := ⟨_, rfl⟩
  obtain ⟨nc, hnc⟩ : ∃ nc, tx c = nc := ⟨_, rfl⟩
  obtain ⟨nd, hnd⟩ : ∃ nd, tx d = nd := ⟨_, rfl⟩
  rw [hna, hnb] at HC1
  rw [hnb, hnc, hnd] at HC2
  rw [hnc] at HN1
  rw [hnd] at HN2
  rw [hna] at HSZ HMISS
  clear hl hm za zb zc zd ha hb hc hd hr hq ho1 ho2 hna hnb hnc hnd hL
  go_enter Tryd.func9, Tryd.ntmps9
  go_wp2_with fail
  go_at_call 28
  refine (HC1.out _ HAL.out).mono ?_
  rintro e w1 ⟨rfl, hb1⟩
  have R1 := HY.out.keep hb1
  have hbr := HAL.out.trans (hb1.mono HAL.out.size)
  clear hb1 HC1 HY
  go_wp2_with fail
  go_at_call 28
  refine (HC2.out _ hbr).mono ?_
  rintro e w2 ⟨rfl, hb2⟩
  have R2 := R1.keep hb2
  replace hbr := hbr.trans (hb2.mono hbr.size)
  clear hb2 HC2 R1
  have hrs := hbr.size
  have HB3 := Lib.hid (hbr.alloc hrs (.cells #[.string na, .int .i64 0, .int .i64 0] 23))
  have R3 := Lib.hid (R2.alloc (.cells #[.string na, .int .i64 0, .int .i64 0] 23))
  have X3 := Lib.hid (Blk.new w2 23 #[.string na, .int .i64 0, .int .i64 0])
  have hl2 := R2.lt
  go_wp2_with fail
  go_at_call 29
  refine (HN1.out _ HB3.out).mono ?_
  rintro e w4 ⟨rfl, hb4⟩
  have R4 := Lib.hid ((R3.out.keep hb4).far (p := ⟨w2.heap.size, 1, none⟩) (by simp; omega) (.int .i64 r))
  have X4 : Hid (Blk (w4.setCell ⟨w2.heap.size, 1, none⟩ (.int .i64 r)) w2.heap.size 23 #[.string na, .int .i64 r, .int .i64 0]) := Lib.hid ((X3.out.keep hb4).set_ 1 (.int .i64 r))
  have u4 := (X3.out.keep hb4).lt
  have f4 := (X3.out.keep hb4).frozen 1
  have g4 := ((X3.out.keep hb4).cell 1).trans rfl
  have HB4 := Lib.hid ((HB3.out.trans (hb4.mono HB3.out.size)).setCell (p := ⟨w2.heap.size, 1, none⟩) hrs (.int .i64 r))
  clear hb4 X3 R3 HB3 HN1
  go_wp2_with fail
  go_at_call 29
  refine (HN2.out _ HB4.out).mono ?_
  rintro e w5 ⟨rfl, hb5⟩
  have R5 := Lib.hid ((R4.out.keep hb5).far (p := ⟨w2.heap.size, 2, none⟩) (by simp; omega) (.int .i64 q))
  have X5 : Hid (Blk (w5.setCell ⟨w2.heap.size, 2, none⟩ (.int .i64 q)) w2.heap.size 23 #[.string na, .int .i64 r, .int .i64 q]) := Lib.hid ((X4.out.keep hb5).set_ 2 (.int .i64 q))
  have u5 := (X4.out.keep hb5).lt
  have f5 := (X4.out.keep hb5).frozen 2
  have g5 := ((X4.out.keep hb5).cell 2).trans rfl
  have x0 := (X5.out.cell 0).trans rfl
  have x1 := (X5.out.cell 1).trans rfl
  have x2 := (X5.out.cell 2).trans rfl
  have HB5 := Lib.hid ((HB4.out.trans (hb5.mono HB4.out.size)).setCell (p := ⟨w2.heap.size, 2, none⟩) hrs (.int .i64 q))
  clear hb5 X4 R4 HB4 HN2
  cases q1 : holeB na r q
  · have HNO := Lib.hid (HMISS.out (Or.inl q1))
    go_wp2_with (go_at_call 30; refine (validHole_calls na r q _ HSZ.out).mono ?_; rintro e w6 ⟨rfl, hb6⟩; rw [q1]; have R6 := R5.out.keep hb6; have y0 := (R6.cell 0).trans rfl; have y1 := (R6.cell 1).trans rfl; have y2 := (R6.cell 2).trans rfl; have hl := R6.lt; have f2 := R6.frozen; have hbz := HB5.out.trans (hb6.mono HB5.out.size))
    refine bodyPost_ret (v := .tuple #[.agg #[.string ⟨#[]⟩, .int .i64 0, .int .i64 0], .bool false]) (by simp [results, Tryd.results9, go_sem, y0, y1, y2, hl]) rfl ?_
    refine hole_bad HNO.out ?_
    go_grown
  · by_cases q2 : holeT na r q = s
    · have HT := Lib.hid q2
      have q3 : holeText na r q = s := by rw [holeText, if_pos q1]; exact q2
      have HTX := Lib.hid (fun W (hb : Below w.heap.size w W) => HoleText_calls na r q W HSZ.out (HL.out.keep hb).1)
      rw [q3] at HTX
      clear q2 q3
      go_wp2_with (first
        | (go_at_call 30; refine (validHole_calls na r q _ HSZ.out).mono ?_; rintro e w6 ⟨rfl, hb6⟩; rw [q1]; have R6 := R5.out.keep hb6; have X6 := X5.out.keep hb6; have hbz := HB5.out.trans (hb6.mono HB5.out.size); have x0 := (X6.cell 0).trans rfl; have x1 := (X6.cell 1).trans rfl; have x2 := (X6.cell 2).trans rfl; clear hb6)
        | (go_at_call 31; refine (HTX.out _ hbz).mono ?_; rintro e w7 ⟨rfl, hb7⟩; have R7 := R6.keep hb7; have X7 := X6.keep hb7; have y0 := (R7.cell 0).trans rfl; have y1 := (R7.cell 1).trans rfl; have y2 := (R7.cell 2).trans rfl; have hl := R7.lt; have f2 := R7.frozen; have hbz := hbz.trans (hb7.mono hbz.size); have x0 := (X7.cell 0).trans rfl; have x1 := (X7.cell 1).trans rfl; have x2 := (X7.cell 2).trans rfl; clear hb7))
      refine bodyPost_ret (v := .tuple #[.agg #[.string na, .int .i64 r, .int .i64 q], .bool true]) (by simp [results, Tryd.results9, go_sem, y0, y1, y2, hl]) rfl ?_
      refine hole_good q1 HT.out ?_
      go_grown
    · have HNO := Lib.hid (HMISS.out (Or.inr q2))
      obtain ⟨T, hT⟩ : ∃ T, T = holeT na r q := ⟨_, rfl⟩
      have q3 : holeText na r q = T := by rw [holeText, if_pos q1, hT]
      have HTX := Lib.hid (fun W (hb : Below w.heap.size w W) => HoleText_calls na r q W HSZ.out (HL.out.keep hb).1)
      rw [q3] at HTX
      have q4 : (T.toList == s.toList) = false := toList_ne (by rw [hT]; exact q2)
      clear q2 q3 hT
      go_wp2_with (first
        | (go_at_call 30; refine (validHole_calls na r q _ HSZ.out).mono ?_; rintro e w6 ⟨rfl, hb6⟩; rw [q1]; have R6 := R5.out.keep hb6; have X6 := X5.out.keep hb6; have hbz := HB5.out.trans (hb6.mono HB5.out.size); have x0 := (X6.cell 0).trans rfl; have x1 := (X6.cell 1).trans rfl; have x2 := (X6.cell 2).trans rfl; clear hb6)
        | (go_at_call 31; refine (HTX.out _ hbz).mono ?_; rintro e w7 ⟨rfl, hb7⟩; have R7 := R6.keep hb7; have y0 := (R7.cell 0).trans rfl; have y1 := (R7.cell 1).trans rfl; have y2 := (R7.cell 2).trans rfl; have hl := R7.lt; have f2 := R7.frozen; have hbz := hbz.trans (hb7.mono hbz.size); clear hb7))
      refine bodyPost_ret (v := .tuple #[.agg #[.string ⟨#[]⟩, .int .i64 0, .int .i64 0], .bool false]) (by simp [results, Tryd.results9, go_sem, y0, y1, y2, hl]) rfl ?_
      refine hole_bad HNO.out ?_
      go_grown
end Go.Proofs.YtflhkldfhndafaaDoor
