/- ReadHung, by the reference. -/
import Derived.Test.YtflhkldfhndafaaDoorReadH
import Derived.Test.YtflhkldfhndafaaDoorReadNQ
import Derived.Deep.DeepCutAuto
namespace Go.Proofs.YtflhkldfhndafaaDoor
set_option linter.unusedVariables false
set_option linter.unusedSimpArgs false
open Go.RowKit


set_option maxRecDepth 20000 in
set_option maxHeartbeats 4000000 in
theorem sl19Read_calls (s : ByteArray) (w : World) (hs : s.size ≤ 1048576) : Calls Tryd.prog 37 #[.string s] w (hungPRet w s) := by
  have HAL := Lib.hid ((Below.refl w.heap.size w).alloc (Nat.le_refl _) (.cells #[.string ⟨#[]⟩, .int .i64 0, .int .i64 0, .int .i64 0, .int .i64 0] 34))
  have HY := Lib.hid (Blk.new w 34 #[.string ⟨#[]⟩, .int .i64 0, .int .i64 0, .int .i64 0, .int .i64 0])
  obtain ⟨l, hl⟩ : ∃ l, splC 32 (bl s) = l := ⟨_, rfl⟩
  have HS1 := Lib.hid (fun W => split_ret s 32 l W hs (by omega) hl)
  by_cases h2 : l.length = 2
  · obtain ⟨a, b, rfl⟩ := len_two h2
    clear h2
    obtain ⟨za, zb⟩ := two_sizes hl
    have HSZ := Lib.hid (show (tx a).size ≤ maxLen by rw [tx_size]; unfold maxLen; omega)
    have hb : (tx b).size ≤ 1048575 := by rw [tx_size]; omega
    have HR := Lib.hid (fun W => sReadList_calls (tx b) W hb)
    rw [bl_tx] at HR
    obtain ⟨o, ho⟩ : ∃ o, listO b = o := ⟨_, rfl⟩
    rw [ho] at HR
    obtain ⟨na, hna⟩ : ∃ na, tx a = na := ⟨_, rfl⟩
    obtain ⟨nb, hnb⟩ : ∃ nb, tx b = nb := ⟨_, rfl⟩
    rw [hna] at HSZ
    rw [hnb] at HR
    have hcase : (o = none ∧ Hid (noNl hungP s)) ∨ (∃ xs, o = some xs ∧ xs.length ≠ 4 ∧ Hid (noNl hungP s)) ∨ ∃ m r d q, o = some [m, r, d, q] ∧ ((hungB na m r d q = true ∧ Hid (nlT na [m, r, d, q] = s)) ∨ (hungB na m r d q = false ∧ Hid (noNl hungP s))) := by
      rcases e : o with _ | xs
      · exact Or.inl ⟨rfl, Lib.hid (nl_no2 hungP_nl hl (fun xs h => by rw [ho, e] at h; cases h))⟩
      · rw [e] at ho
        by_cases h3 : xs.length = 4
        · obtain ⟨m, r, d, q, rfl⟩ := len_four h3
          refine Or.inr (Or.inr ⟨_, _, _, _, rfl, ?_⟩)
          cases q1 : hungB na m r d q
          · refine Or.inr ⟨rfl, Lib.hid (nl_no2 hungP_nl hl (fun xs h hp => ?_))⟩
            rw [ho] at h
            obtain rfl := Option.some.inj h
            obtain ⟨m', r', d', q', e2, hp⟩ := hp
            injection e2 with t0 e2
            injection e2 with t1 e2
            injection e2 with t2 e2
            injection e2 with t3 e2
            subst t0 t1 t2 t3
            rw [hna, q1] at hp
            cases hp
          · refine Or.inl ⟨rfl, Lib.hid ?_⟩
            rw [← hna]
            exact nl_yes hl ho
        · refine Or.inr (Or.inl ⟨xs, rfl, h3, Lib.hid (nl_no2 hungP_nl hl (fun ys h hp => ?_))⟩)
          rw [ho] at h
          obtain rfl := Option.some.inj h
          exact h3 (hungP_nl _ _ hp).2.2
    have HCASE := Lib.hid hcase
    clear hcase hl ho hb za zb
    go_enter Tryd.func37, Tryd.ntmps37
    go_wp2_with fail
    go_at_call 25
    refine (HS1.out _).mono ?_
    rintro e w1 ⟨g, cap, rfl, hg, htx, hb1⟩
    have c0 := htx.2 0 a rfl
    have c1 := htx.2 1 b rfl
    rw [hna] at c0
    rw [hnb] at c1
    have hg1 := htx.1
    have R1 := HY.out.keep hb1
    have hbr := HAL.out.trans (hb1.mono HAL.out.size)
    clear htx hb1
    go_wp2_with fail
    go_at_call 32
    refine (HR.out _).mono ?_
    rintro e w2 ⟨A, N, c, rfl, hgot, hb2⟩
    have R2 := R1.keep hb2
    replace c0 := (hb2.cell (p := ⟨g, 0, none⟩) hg1).trans c0
    replace hbr := hbr.trans (hb2.mono hbr.size)
    have hgl : g < w2.heap.size := by have := hb2.size; omega
    have hrs := hbr.size
    clear hb2 c1 R1 hg hg1 hna hnb HS1 HR
    have y0 := (R2.cell 0).trans rfl
    have y1 := (R2.cell 1).trans rfl
    have y2 := (R2.cell 2).trans rfl
    have y3 := (R2.cell 3).trans rfl
    have f0 := R2.frozen 0
    have f1 := R2.frozen 1
    have f2 := R2.frozen 2
    have f3 := R2.frozen 3
    have hl := R2.lt
    have y4 := (R2.cell 4).trans rfl; have f4 := R2.frozen 4
    rcases HCASE.out with ⟨rfl, HNO⟩ | ⟨xs, rfl, hx, HNO⟩ | ⟨m, r, d, q, rfl, hx⟩
    · obtain rfl : N = 0 := hgot
      go_wp2
      refine bodyPost_ret (v := .tuple #[.agg #[.string ⟨#[]⟩, .int .i64 0, .int .i64 0, .int .i64 0, .int .i64 0], .bool false]) (by simp [results, Tryd.results37, go_sem, y0, y1, y2, y3, y4, hl]) rfl ?_
      refine hungP_bad HNO.out ?_
      go_grown
    · have hN := hgot.1
      have h3 : ((N : Int) != 4) = true := by simp; omega
      have h4 : ((N : Int) == 4) = false := by apply beq_eq_false_iff_ne.2; omega
      clear hgot hN hx
      go_wp2
      refine bodyPost_ret (v := .tuple #[.agg #[.string ⟨#[]⟩, .int .i64 0, .int .i64 0, .int .i64 0, .int .i64 0], .bool false]) (by simp [results, Tryd.results37, go_sem, y0, y1, y2, y3, y4, hl]) rfl ?_
      refine hungP_bad HNO.out ?_
      go_grown
    · obtain rfl : N = 4 := hgot.1
      obtain ⟨bb, oo, rfl, hrow⟩ := hgot.2 (by omega)
      have d0 : w2.cell? ⟨bb, oo, none⟩ = some (.int .i64 m) := hrow 0 (by omega)
      have d1 : w2.cell? ⟨bb, oo + 1, none⟩ = some (.int .i64 r) := hrow 1 (by omega)
      have d2 : w2.cell? ⟨bb, oo + 2, none⟩ = some (.int .i64 d) := hrow 2 (by omega)
      have d3 : w2.cell? ⟨bb, oo + 3, none⟩ = some (.int .i64 q) := hrow 3 (by omega)
      clear hgot hrow
      have c0a := cell_ar c0
      have d0a := cell_ar d0
      have d1a := cell_ar d1
      have d2a := cell_ar d2
      have d3a := cell_ar d3
      go_wp2_with fail
      go_cut [7] (fun p wx => ∃ G, p = .pointer (some ⟨G, 0, none⟩) ∧ Hid (Below w.heap.size w wx ∧ Blk wx w.heap.size 34 #[.string ⟨#[]⟩, .int .i64 0, .int .i64 0, .int .i64 0, .int .i64 0] ∧ Blk wx G 34 #[.string na, .int .i64 m, .int .i64 r, .int .i64 d, .int .i64 q]))
      case first =>
        go_region
        all_goals (go_wp2_with fail)
        all_goals go_meet
        all_goals refine ⟨_, rfl, Lib.hid ?_⟩
        all_goals first | exact ⟨(hbr.alloc hrs _).drew, (R2.alloc _).drew, (Blk.new _ _ _).drew⟩ | exact ⟨hbr.alloc hrs _, R2.alloc _, Blk.new _ _ _⟩
      case rest =>
        obtain ⟨G, rfl, hcc⟩ := hcut
        obtain ⟨hbr2, R3, X3⟩ := hcc.out
        clear hcc hbr hrs R2 y0 y1 y2 y3 f0 f1 f2 f3 hl c0 d0 d1 d2 c0a d0a d1a d2a y4 f4 d3 d3a
        have y0 := (R3.cell 0).trans rfl
        have y1 := (R3.cell 1).trans rfl
        have y2 := (R3.cell 2).trans rfl
        have y3 := (R3.cell 3).trans rfl
        have f0 := R3.frozen 0
        have f1 := R3.frozen 1
        have f2 := R3.frozen 2
        have f3 := R3.frozen 3
        have hl := R3.lt
        have y4 := (R3.cell 4).trans rfl; have f4 := R3.frozen 4
        have x0 := (X3.cell 0).trans rfl
        have x1 := (X3.cell 1).trans rfl
        have x2 := (X3.cell 2).trans rfl
        have x3 := (X3.cell 3).trans rfl
        have x4 := (X3.cell 4).trans rfl
        rcases hx with ⟨q1, HT⟩ | ⟨q1, HNO⟩
        · go_wp2_with (go_at_call 61; refine (sokHung_calls _ na m r d q _ HSZ.out x0 x1 x2 x3 x4).mono ?_; rintro e w3 ⟨rfl, rfl⟩; rw [q1])
          refine bodyPost_ret (v := .tuple #[.agg #[.string na, .int .i64 m, .int .i64 r, .int .i64 d, .int .i64 q], .bool true]) (by simp [results, Tryd.results37, go_sem, y0, y1, y2, y3, y4, hl]) rfl ?_
          refine hungP_good q1 HT.out ?_
          (repeat refine Below.setCell ?_ (Nat.le_refl w.heap.size) _)
          with_reducible first | exact hbz | exact hbr2
        · go_wp2_with (go_at_call 61; refine (sokHung_calls _ na m r d q _ HSZ.out x0 x1 x2 x3 x4).mono ?_; rintro e w3 ⟨rfl, rfl⟩; rw [q1])
          refine bodyPost_ret (v := .tuple #[.agg #[.string ⟨#[]⟩, .int .i64 0, .int .i64 0, .int .i64 0, .int .i64 0], .bool false]) (by simp [results, Tryd.results37, go_sem, y0, y1, y2, y3, y4, hl]) rfl ?_
          refine hungP_bad HNO.out ?_
          (repeat refine Below.setCell ?_ (Nat.le_refl w.heap.size) _)
          with_reducible first | exact hbz | exact hbr2
  · have HNO := Lib.hid (nl_no1 hungP_nl (s := s) (by rw [hl]; exact h2))
    have h3 : ((l.length : Int) != 2) = true := by simp; omega
    have h4 : ((l.length : Int) == 2) = false := by apply beq_eq_false_iff_ne.2; omega
    clear hl
    go_enter Tryd.func37, Tryd.ntmps37
    go_wp2_with fail
    go_at_call 25
    refine (HS1.out _).mono ?_
    rintro e w1 ⟨g, cap, rfl, hg, htx, hb1⟩
    have R2 := HY.out.keep hb1
    have hbr := HAL.out.trans (hb1.mono HAL.out.size)
    clear htx hb1
    have y0 := (R2.cell 0).trans rfl
    have y1 := (R2.cell 1).trans rfl
    have y2 := (R2.cell 2).trans rfl
    have y3 := (R2.cell 3).trans rfl
    have f0 := R2.frozen 0
    have f1 := R2.frozen 1
    have f2 := R2.frozen 2
    have f3 := R2.frozen 3
    have hl := R2.lt
    have y4 := (R2.cell 4).trans rfl; have f4 := R2.frozen 4
    go_wp2
    refine bodyPost_ret (v := .tuple #[.agg #[.string ⟨#[]⟩, .int .i64 0, .int .i64 0, .int .i64 0, .int .i64 0], .bool false]) (by simp [results, Tryd.results37, go_sem, y0, y1, y2, y3, y4, hl]) rfl ?_
    refine hungP_bad HNO.out ?_
    go_grown
theorem sReadHung_calls (s : ByteArray) (w : World) (hs : s.size ≤ 1048576) : Calls Tryd.prog 14 #[.string s] w (hungPRet w s) := by
  have H := Lib.hid (fun W => sl19Read_calls s W hs)
  have HAL := Lib.hid ((Below.refl w.heap.size w).alloc (Nat.le_refl _) (.cells #[.string ⟨#[]⟩, .int .i64 0, .int .i64 0, .int .i64 0, .int .i64 0] 34))
  have HY := Lib.hid (Blk.new w 34 #[.string ⟨#[]⟩, .int .i64 0, .int .i64 0, .int .i64 0, .int .i64 0])
  go_enter Tryd.func14, Tryd.ntmps14
  go_wp2_with fail
  go_at_call 37
  refine (H.out _).mono ?_
  rintro e w1 ⟨n1, m, r, d, q, b1, rfl, h1, hb1⟩
  have R2 := HY.out.keep hb1
  have hbz := HAL.out.trans (hb1.mono HAL.out.size)
  have H1 := Lib.hid h1
  clear hb1 HAL HY H h1
  have y0 := (R2.cell 0).trans rfl
  have y1 := (R2.cell 1).trans rfl
  have y2 := (R2.cell 2).trans rfl
  have y3 := (R2.cell 3).trans rfl
  have f0 := R2.frozen 0
  have f1 := R2.frozen 1
  have f2 := R2.frozen 2
  have f3 := R2.frozen 3
  have hl := R2.lt
  have y4 := (R2.cell 4).trans rfl
  have f4 := R2.frozen 4
  go_wp2
  refine bodyPost_ret (v := .tuple #[.agg #[.string n1, .int .i64 m, .int .i64 r, .int .i64 d, .int .i64 q], .bool b1]) (by simp [results, Tryd.results14, go_sem, y0, y1, y2, y3, y4, hl]) rfl ⟨n1, m, r, d, q, b1, rfl, H1.out, ?_⟩
  (repeat refine Below.setCell ?_ (Nat.le_refl w.heap.size) _)
  with_reducible exact hbz
end Go.Proofs.YtflhkldfhndafaaDoor
