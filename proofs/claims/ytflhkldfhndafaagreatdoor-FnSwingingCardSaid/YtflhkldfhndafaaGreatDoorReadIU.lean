/- ReadHung, by the program. -/
import Derived.Test.YtflhkldfhndafaaGreatDoorReadH
import Derived.Test.YtflhkldfhndafaaGreatDoorReadNQ
import Derived.Deep.DeepCutAuto
namespace Go.Proofs.YtflhkldfhndafaaGreatDoor
set_option linter.unusedVariables false
set_option linter.unusedSimpArgs false
open Go.RowKit


set_option maxRecDepth 20000 in
set_option maxHeartbeats 4000000 in
theorem ReadHung_calls (s : ByteArray) (w : World) (hs : s.size ≤ 1048576) (hL : HasLib w) : Calls Tryz.prog 12 #[.string s] w (hungPRet w s) := by
  have HAL := Lib.hid ((Below.refl w.heap.size w).alloc (Nat.le_refl _) (.cells #[.string ⟨#[]⟩, .int .i64 0, .int .i64 0, .int .i64 0, .int .i64 0] 27))
  have HY := Lib.hid (Blk.new w 27 #[.string ⟨#[]⟩, .int .i64 0, .int .i64 0, .int .i64 0, .int .i64 0])
  have HL := Lib.hid hL
  obtain ⟨⟨a, b, t1⟩, hl⟩ : ∃ x, Lib.cut (bl s) [32] = x := ⟨_, rfl⟩
  obtain ⟨za, zb⟩ := cut_rest 32 (bl s)
  rw [hl, bl_len] at za zb
  have HSZ := Lib.hid (show (tx a).size ≤ maxLen by rw [tx_size]; unfold maxLen; exact Nat.le_trans za (by omega))
  have hb : (tx b).size ≤ 1048575 := by rw [tx_size]; exact Nat.le_trans zb (by omega)
  have HC1 := Lib.hid (fun W (hb : Below w.heap.size w W) => cut_ret s 32 a b t1 W hs (hL.keep hb) hl)
  have HR := Lib.hid (fun W (hb' : Below w.heap.size w W) => ReadList_calls (tx b) W hb (hL.keep hb'))
  rw [bl_tx] at HR
  obtain ⟨o, ho⟩ : ∃ o, listO b = o := ⟨_, rfl⟩
  rw [ho] at HR
  obtain ⟨na, hna⟩ : ∃ na, tx a = na := ⟨_, rfl⟩
  obtain ⟨nb, hnb⟩ : ∃ nb, tx b = nb := ⟨_, rfl⟩
  have hmiss : (∀ xs, o = some xs → hungP na xs → nlT na xs ≠ s) → noNl hungP s := fun h => nl_miss hungP_nl (by
    rw [hl]
    show ∀ xs, listO b = some xs → hungP (tx a) xs → nlT (tx a) xs ≠ s
    rw [ho, hna]
    exact h)
  rw [hna] at HSZ
  rw [hnb] at HR
  rw [hna, hnb] at HC1
  have hcase : (o = none ∧ Hid (noNl hungP s)) ∨ (∃ xs, o = some xs ∧ xs.length ≠ 4 ∧ Hid (noNl hungP s)) ∨ ∃ m r d q, o = some [m, r, d, q] ∧ ((hungB na m r d q = false ∧ Hid (noNl hungP s)) ∨ (hungB na m r d q = true ∧ Hid (nlT na [m, r, d, q] = s)) ∨ (hungB na m r d q = true ∧ Hid (nlT na [m, r, d, q] ≠ s) ∧ Hid (noNl hungP s))) := by
    rcases e : o with _ | xs
    · exact Or.inl ⟨rfl, Lib.hid (hmiss (fun xs h => by rw [e] at h; cases h))⟩
    · by_cases h3 : xs.length = 4
      · obtain ⟨m, r, d, q, rfl⟩ := len_four h3
        refine Or.inr (Or.inr ⟨_, _, _, _, rfl, ?_⟩)
        cases q1 : hungB na m r d q
        · refine Or.inl ⟨rfl, Lib.hid (hmiss (fun xs h hp => ?_))⟩
          rw [e] at h
          obtain rfl := Option.some.inj h
          obtain ⟨m', r', d', q', e2, hp⟩ := hp
          injection e2 with t0 e2
          injection e2 with t1 e2
          injection e2 with t2 e2
          injection e2 with t3 e2
          subst t0 t1 t2 t3
          rw [q1] at hp
          cases hp
        · by_cases q2 : nlT na [m, r, d, q] = s
          · exact Or.inr (Or.inl ⟨rfl, Lib.hid q2⟩)
          · refine Or.inr (Or.inr ⟨rfl, Lib.hid q2, Lib.hid (hmiss (fun xs h hp => ?_))⟩)
            rw [e] at h
            obtain rfl := Option.some.inj h
            exact q2
      · refine Or.inr (Or.inl ⟨xs, rfl, h3, Lib.hid (hmiss (fun ys h hp => ?_))⟩)
        rw [e] at h
        obtain rfl := Option.some.inj h
        exact absurd (hungP_nl _ _ hp).2.2 h3
  have HCASE := Lib.hid hcase
  clear hcase hl ho hb za zb hmiss hna hnb hL
  go_enter Tryz.func12, Tryz.ntmps12
  go_wp2_with fail
  go_at_call 21
  refine (HC1.out _ HAL.out).mono ?_
  rintro e w1 ⟨rfl, hb1⟩
  have R1 := HY.out.keep hb1
  have hbr := HAL.out.trans (hb1.mono HAL.out.size)
  clear hb1 HC1 HY
  go_wp2_with fail
  go_at_call 22
  refine (HR.out _ hbr).mono ?_
  rintro e w2 ⟨A, N, c, rfl, hgot, hb2⟩
  have R2 := R1.keep hb2
  replace hbr := hbr.trans (hb2.mono hbr.size)
  have hrs := hbr.size
  clear hb2 R1 HR
  rcases HCASE.out with ⟨rfl, HNO⟩ | ⟨xs, rfl, hx, HNO⟩ | ⟨m, r, d, q, rfl, hx⟩
  · obtain rfl : N = 0 := hgot
    have hbz := hbr
    have y0 := (R2.cell 0).trans rfl
    have y1 := (R2.cell 1).trans rfl
    have y2 := (R2.cell 2).trans rfl
    have y3 := (R2.cell 3).trans rfl
    have f0 := R2.frozen 0
    have f1 := R2.frozen 1
    have f2 := R2.frozen 2
    have f3 := R2.frozen 3
    have hl := R2.lt
    have y4 := (R2.cell 4).trans rfl
    have f4 := R2.frozen 4
    go_wp2
    refine bodyPost_ret (v := .tuple #[.agg #[.string ⟨#[]⟩, .int .i64 0, .int .i64 0, .int .i64 0, .int .i64 0], .bool false]) (by simp [results, Tryz.results12, go_sem, y0, y1, y2, y3, y4, hl]) rfl ?_
    refine hungP_bad HNO.out ?_
    first | with_reducible exact hbz | ((repeat refine Below.setCell ?_ (Nat.le_refl w.heap.size) _); with_reducible exact hbz)
  · have hN := hgot.1
    have h3 : ((N : Int) != 4) = true := by simp; omega
    have h4 : ((N : Int) == 4) = false := by apply beq_eq_false_iff_ne.2; omega
    clear hgot hN hx
    have hbz := hbr
    have y0 := (R2.cell 0).trans rfl
    have y1 := (R2.cell 1).trans rfl
    have y2 := (R2.cell 2).trans rfl
    have y3 := (R2.cell 3).trans rfl
    have f0 := R2.frozen 0
    have f1 := R2.frozen 1
    have f2 := R2.frozen 2
    have f3 := R2.frozen 3
    have hl := R2.lt
    have y4 := (R2.cell 4).trans rfl
    have f4 := R2.frozen 4
    go_wp2
    refine bodyPost_ret (v := .tuple #[.agg #[.string ⟨#[]⟩, .int .i64 0, .int .i64 0, .int .i64 0, .int .i64 0], .bool false]) (by simp [results, Tryz.results12, go_sem, y0, y1, y2, y3, y4, hl]) rfl ?_
    refine hungP_bad HNO.out ?_
    first | with_reducible exact hbz | ((repeat refine Below.setCell ?_ (Nat.le_refl w.heap.size) _); with_reducible exact hbz)
  · obtain rfl : N = 4 := hgot.1
    obtain ⟨bb, oo, rfl, hrow⟩ := hgot.2 (by omega)
    have d0 : w2.cell? ⟨bb, oo, none⟩ = some (.int .i64 m) := hrow 0 (by omega)
    have d1 : w2.cell? ⟨bb, oo + 1, none⟩ = some (.int .i64 r) := hrow 1 (by omega)
    have d2 : w2.cell? ⟨bb, oo + 2, none⟩ = some (.int .i64 d) := hrow 2 (by omega)
    have d3 : w2.cell? ⟨bb, oo + 3, none⟩ = some (.int .i64 q) := hrow 3 (by omega)
    clear hgot hrow
    have d0a := cell_ar d0
    have d1a := cell_ar d1
    have d2a := cell_ar d2
    have d3a := cell_ar d3
    have y0 := (R2.cell 0).trans rfl
    have y1 := (R2.cell 1).trans rfl
    have y2 := (R2.cell 2).trans rfl
    have y3 := (R2.cell 3).trans rfl
    have f0 := R2.frozen 0
    have f1 := R2.frozen 1
    have f2 := R2.frozen 2
    have f3 := R2.frozen 3
    have hl := R2.lt
    have y4 := (R2.cell 4).trans rfl
    have f4 := R2.frozen 4
    go_wp2_with fail
    go_cut [9] (fun p wx => ∃ G, p = .pointer (some ⟨G, 0, none⟩) ∧ Hid (Below w.heap.size w wx ∧ Blk wx w.heap.size 27 #[.string ⟨#[]⟩, .int .i64 0, .int .i64 0, .int .i64 0, .int .i64 0] ∧ Blk wx G 27 #[.string na, .int .i64 m, .int .i64 r, .int .i64 d, .int .i64 q]))
    case first =>
      go_region
      all_goals (go_wp2_with fail)
      all_goals go_meet
      all_goals refine ⟨_, rfl, Lib.hid ?_⟩
      all_goals first | exact ⟨(hbr.alloc hrs _).drew, (R2.alloc _).drew, (Blk.new _ _ _).drew⟩ | exact ⟨hbr.alloc hrs _, R2.alloc _, Blk.new _ _ _⟩
    case rest =>
      obtain ⟨G, rfl, hcc⟩ := hcut
      obtain ⟨hbr2, R3o, X3o⟩ := hcc.out
      have HB3 := Lib.hid hbr2
      have R3 := Lib.hid R3o
      have X3 := Lib.hid X3o
      clear hcc hbr2 R3o X3o hbr hrs R2 y0 y1 y2 y3 f0 f1 f2 f3 hl d0 d1 d2 d0a d1a d2a y4 f4 d3 d3a
      rcases hx with ⟨q1, HNO⟩ | ⟨q1, HT⟩ | ⟨q1, HNE, HNO⟩
      · skip
        have x0 := (X3.out.cell 0).trans rfl
        have x1 := (X3.out.cell 1).trans rfl
        have x2 := (X3.out.cell 2).trans rfl
        have x3 := (X3.out.cell 3).trans rfl
        have x4 := (X3.out.cell 4).trans rfl
        go_wp2_with fail
        go_at_call 19
        refine (validHung_calls na m r d q _ HSZ.out).mono ?_
        rintro e w6 ⟨rfl, hb6⟩
        rw [q1]
        have R6 := Lib.hid (R3.out.keep hb6)
        have X6 := Lib.hid (X3.out.keep hb6)
        have HB6 := Lib.hid (HB3.out.trans (hb6.mono HB3.out.size))
        clear hb6 R3 X3 HB3 x0 x1 x2 x3 x4
        have y0 := (R6.out.cell 0).trans rfl
        have y1 := (R6.out.cell 1).trans rfl
        have y2 := (R6.out.cell 2).trans rfl
        have y3 := (R6.out.cell 3).trans rfl
        have f0 := R6.out.frozen 0
        have f1 := R6.out.frozen 1
        have f2 := R6.out.frozen 2
        have f3 := R6.out.frozen 3
        have hl := R6.out.lt
        have y4 := (R6.out.cell 4).trans rfl
        have f4 := R6.out.frozen 4
        have hbz := HB6.out
        go_wp2
        refine bodyPost_ret (v := .tuple #[.agg #[.string ⟨#[]⟩, .int .i64 0, .int .i64 0, .int .i64 0, .int .i64 0], .bool false]) (by simp [results, Tryz.results12, go_sem, y0, y1, y2, y3, y4, hl]) rfl ?_
        refine hungP_bad HNO.out ?_
        first | with_reducible exact hbz | ((repeat refine Below.setCell ?_ (Nat.le_refl w.heap.size) _); with_reducible exact hbz)
      · have q3 : hungText na m r d q = s := by rw [hungText, if_pos q1, hungP_text]; exact HT.out
        have HTX := Lib.hid (fun W (hb : Below w.heap.size w W) => HungText_calls na m r d q W HSZ.out (HL.out.keep hb).1)
        rw [q3] at HTX
        clear q3
        have x0 := (X3.out.cell 0).trans rfl
        have x1 := (X3.out.cell 1).trans rfl
        have x2 := (X3.out.cell 2).trans rfl
        have x3 := (X3.out.cell 3).trans rfl
        have x4 := (X3.out.cell 4).trans rfl
        go_wp2_with fail
        go_at_call 19
        refine (validHung_calls na m r d q _ HSZ.out).mono ?_
        rintro e w6 ⟨rfl, hb6⟩
        rw [q1]
        have R6 := Lib.hid (R3.out.keep hb6)
        have X6 := Lib.hid (X3.out.keep hb6)
        have HB6 := Lib.hid (HB3.out.trans (hb6.mono HB3.out.size))
        clear hb6 R3 X3 HB3 x0 x1 x2 x3 x4
        have x0 := (X6.out.cell 0).trans rfl
        have x1 := (X6.out.cell 1).trans rfl
        have x2 := (X6.out.cell 2).trans rfl
        have x3 := (X6.out.cell 3).trans rfl
        have x4 := (X6.out.cell 4).trans rfl
        go_wp2_with fail
        go_at_call 13
        refine (HTX.out _ HB6.out).mono ?_
        rintro e w7 ⟨rfl, hb7⟩
        have R7 := R6.out.keep hb7
        have X7 := X6.out.keep hb7
        have hbz := HB6.out.trans (hb7.mono HB6.out.size)
        clear hb7 R6 X6 HB6 x0 x1 x2 x3 x4
        have y0 := (R7.cell 0).trans rfl
        have y1 := (R7.cell 1).trans rfl
        have y2 := (R7.cell 2).trans rfl
        have y3 := (R7.cell 3).trans rfl
        have f0 := R7.frozen 0
        have f1 := R7.frozen 1
        have f2 := R7.frozen 2
        have f3 := R7.frozen 3
        have hl := R7.lt
        have y4 := (R7.cell 4).trans rfl
        have f4 := R7.frozen 4
        have x0 := (X7.cell 0).trans rfl
        have x1 := (X7.cell 1).trans rfl
        have x2 := (X7.cell 2).trans rfl
        have x3 := (X7.cell 3).trans rfl
        have x4 := (X7.cell 4).trans rfl
        go_wp2
        refine bodyPost_ret (v := .tuple #[.agg #[.string na, .int .i64 m, .int .i64 r, .int .i64 d, .int .i64 q], .bool true]) (by simp [results, Tryz.results12, go_sem, y0, y1, y2, y3, y4, hl]) rfl ?_
        refine hungP_good q1 HT.out ?_
        (repeat refine Below.setCell ?_ (Nat.le_refl w.heap.size) _)
        with_reducible exact hbz
      · obtain ⟨T, hT⟩ : ∃ T, T = nlT na [m, r, d, q] := ⟨_, rfl⟩
        have q3 : hungText na m r d q = T := by rw [hungText, if_pos q1, hungP_text, hT]
        have HTX := Lib.hid (fun W (hb : Below w.heap.size w W) => HungText_calls na m r d q W HSZ.out (HL.out.keep hb).1)
        rw [q3] at HTX
        have q4 : (T.toList == s.toList) = false := toList_ne (by rw [hT]; exact HNE.out)
        clear q3 hT HNE
        have x0 := (X3.out.cell 0).trans rfl
        have x1 := (X3.out.cell 1).trans rfl
        have x2 := (X3.out.cell 2).trans rfl
        have x3 := (X3.out.cell 3).trans rfl
        have x4 := (X3.out.cell 4).trans rfl
        go_wp2_with fail
        go_at_call 19
        refine (validHung_calls na m r d q _ HSZ.out).mono ?_
        rintro e w6 ⟨rfl, hb6⟩
        rw [q1]
        have R6 := Lib.hid (R3.out.keep hb6)
        have X6 := Lib.hid (X3.out.keep hb6)
        have HB6 := Lib.hid (HB3.out.trans (hb6.mono HB3.out.size))
        clear hb6 R3 X3 HB3 x0 x1 x2 x3 x4
        have x0 := (X6.out.cell 0).trans rfl
        have x1 := (X6.out.cell 1).trans rfl
        have x2 := (X6.out.cell 2).trans rfl
        have x3 := (X6.out.cell 3).trans rfl
        have x4 := (X6.out.cell 4).trans rfl
        go_wp2_with fail
        go_at_call 13
        refine (HTX.out _ HB6.out).mono ?_
        rintro e w7 ⟨rfl, hb7⟩
        have R7 := R6.out.keep hb7
        have hbz := HB6.out.trans (hb7.mono HB6.out.size)
        clear hb7 R6 X6 HB6 x0 x1 x2 x3 x4
        have y0 := (R7.cell 0).trans rfl
        have y1 := (R7.cell 1).trans rfl
        have y2 := (R7.cell 2).trans rfl
        have y3 := (R7.cell 3).trans rfl
        have f0 := R7.frozen 0
        have f1 := R7.frozen 1
        have f2 := R7.frozen 2
        have f3 := R7.frozen 3
        have hl := R7.lt
        have y4 := (R7.cell 4).trans rfl
        have f4 := R7.frozen 4
        go_wp2
        refine bodyPost_ret (v := .tuple #[.agg #[.string ⟨#[]⟩, .int .i64 0, .int .i64 0, .int .i64 0, .int .i64 0], .bool false]) (by simp [results, Tryz.results12, go_sem, y0, y1, y2, y3, y4, hl]) rfl ?_
        refine hungP_bad HNO.out ?_
        first | with_reducible exact hbz | ((repeat refine Below.setCell ?_ (Nat.le_refl w.heap.size) _); with_reducible exact hbz)
end Go.Proofs.YtflhkldfhndafaaGreatDoor
