/- Bells read, by the reference. -/
import Derived.Test.YtflhkldfhndafaaDoorReadBQ
import Derived.Deep.DeepCutAuto
namespace Go.Proofs.YtflhkldfhndafaaDoor
set_option linter.unusedVariables false
set_option linter.unusedSimpArgs false
open Go.RowKit


set_option maxRecDepth 20000 in
set_option maxHeartbeats 8000000 in
theorem l18Read_calls (s : ByteArray) (w : World) (hs : s.size ≤ 1048576) : Calls Tryd.prog 43 #[.string s] w (BellRet w s) := by
  obtain ⟨i0, hi, hz0, hz1, hz2⟩ := info_parts share_infoR
  have HAL := Lib.hid ((Below.refl w.heap.size w).alloc (Nat.le_refl _) (.cells #[.string ⟨#[]⟩, .int .i64 0, .int .i64 0, .int .i64 0, .slice none 0 0] 45))
  have HY := Lib.hid (Blk.new w 45 #[.string ⟨#[]⟩, .int .i64 0, .int .i64 0, .int .i64 0, .slice none 0 0])
  obtain ⟨l, hl⟩ : ∃ l, splC 32 (bl s) = l := ⟨_, rfl⟩
  have HS1 := Lib.hid (fun W => split_ret s 32 l W hs (by omega) hl)
  by_cases h2 : l.length = 3
  · obtain ⟨a, b, c, rfl⟩ := len_3 h2
    clear h2
    obtain ⟨za, zb, zc⟩ := three_sizes hl
    have HSZ := Lib.hid (show (tx a).size ≤ maxLen by rw [tx_size]; unfold maxLen; omega)
    have hb : (tx b).size ≤ 1048575 := by rw [tx_size]; omega
    have hc : (tx c).size ≤ 1048576 := by rw [tx_size]; omega
    have HR := Lib.hid (fun W => sReadList_calls (tx b) W hb)
    rw [bl_tx] at HR
    obtain ⟨o, ho⟩ : ∃ o, listO b = o := ⟨_, rfl⟩
    rw [ho] at HR
    obtain ⟨p, hp⟩ : ∃ p, splC 44 c = p := ⟨_, rfl⟩
    obtain ⟨n, hn⟩ : ∃ n, p.length = n := ⟨_, rfl⟩
    have HS2 := Lib.hid (fun W => split_ret (tx c) 44 p W hc (by omega) (by rw [bl_tx]; exact hp))
    have hn0 : 0 < n := by rw [← hn, ← hp]; exact List.length_pos_iff.2 (splC_ne _ _)
    have hn1 : n ≤ 1048576 := by
      have := sp_len (c := 44) (l := c)
      rw [hp, hn] at this
      omega
    have HSS := Lib.hid (show ∀ i, i < n → (cutS p i).size ≤ maxLen from fun i _ => by
      have := cutS_size (c := c) (i := i)
      rw [hp] at this
      unfold maxLen
      omega)
    have HP := Lib.hid (show ∀ k, k < n → ∃ x, p[k]? = some x ∧ x.length ≤ 1048576 from fun k hk => by
      have hk2 : k < p.length := by omega
      refine ⟨p[k], List.getElem?_eq_getElem hk2, ?_⟩
      have := sp_size (c := 44) (l := c) p[k] (by rw [hp]; exact List.getElem_mem hk2)
      omega)
    obtain ⟨na, hna⟩ : ∃ na, tx a = na := ⟨_, rfl⟩
    obtain ⟨nb, hnb⟩ : ∃ nb, tx b = nb := ⟨_, rfl⟩
    obtain ⟨nc, hnc⟩ : ∃ nc, tx c = nc := ⟨_, rfl⟩
    rw [hna] at HSZ
    rw [hnb] at HR
    rw [hnc] at HS2
    have hcase : (o = none ∧ Hid (noBell s)) ∨ (∃ xs, o = some xs ∧ xs.length ≠ 3 ∧ Hid (noBell s)) ∨ ∃ m r d, o = some [m, r, d] ∧ Hid (bellB na m r d n (cutS p) (cutM p) = false → noBell s) ∧ Hid (∀ (i : Nat) (x : List UInt8), p[i]? = some x → ((splC 58 x).length ≠ 2 ∨ ∃ y z, splC 58 x = [y, z] ∧ numO z = none) → noBell s) ∧ Hid ((∀ i, i < n → ∃ q x y z, p[i]? = some q ∧ splC 58 q = [x, y] ∧ numO y = some z) → bellT na m r d n (cutS p) (cutM p) = s) := by
      rcases e : o with _ | xs
      · exact Or.inl ⟨rfl, Lib.hid (bell_no2 hl (fun _ _ _ h => by rw [ho, e] at h; cases h))⟩
      · rw [e] at ho
        by_cases h3 : xs.length = 3
        · obtain ⟨m, r, d, rfl⟩ := len_3 h3
          refine Or.inr (Or.inr ⟨m, r, d, rfl, ?_, ?_, ?_⟩)
          · have hno := fun h => bell_no3 (s := s) hl ho (Or.inl h)
            rw [hp, hn, hna] at hno
            exact Lib.hid hno
          · exact Lib.hid (fun i x h1 h2 => bell_no4 (i := i) hl (by rw [hp]; exact h1) h2)
          · have hy := bell_yes (s := s) hl ho
            rw [hp, hn, hna] at hy
            exact Lib.hid hy
        · refine Or.inr (Or.inl ⟨xs, rfl, h3, Lib.hid (bell_no2 hl (fun _ _ _ h => ?_))⟩)
          rw [ho] at h
          obtain rfl := Option.some.inj h
          exact h3 rfl
    have HCASE := Lib.hid hcase
    have HN := Lib.hid hn
    clear hcase hl ho hb hc za zb zc hp hn
    go_enter Tryd.func43, Tryd.ntmps43
    go_wp2_with fail
    go_at_call 25
    refine (HS1.out _).mono ?_
    rintro e w1 ⟨g, cap, rfl, hg, htx, hb1⟩
    have c0 := htx.2 0 a rfl
    have c1 := htx.2 1 b rfl
    have c2 := htx.2 2 c rfl
    rw [hna] at c0
    rw [hnb] at c1
    rw [hnc] at c2
    have hg1 := htx.1
    have R1 := HY.out.keep hb1
    have hbr := HAL.out.trans (hb1.mono HAL.out.size)
    clear htx hb1
    go_wp2_with fail
    go_at_call 32
    refine (HR.out _).mono ?_
    rintro e w2 ⟨A, N, cp, rfl, hgot, hb2⟩
    have R2 := R1.keep hb2
    replace c0 := (hb2.cell (p := ⟨g, 0, none⟩) hg1).trans c0
    replace c2 := (hb2.cell (p := ⟨g, 2, none⟩) hg1).trans c2
    replace hbr := hbr.trans (hb2.mono hbr.size)
    have hgl : g < w2.heap.size := by have := hb2.size; omega
    have hrs := hbr.size
    clear hb2 c1 R1 hg hg1 hna hnb hnc HS1 HR
    rcases HCASE.out with ⟨rfl, HNO⟩ | ⟨xs, rfl, hx, HNO⟩ | ⟨m, r, d, rfl, HXB, HXN, HXY⟩
    · obtain rfl : N = 0 := hgot
      have hbz := hbr
      have y0 := (R2.cell 0).trans rfl
      have y1 := (R2.cell 1).trans rfl
      have y2 := (R2.cell 2).trans rfl
      have y3 := (R2.cell 3).trans rfl
      have y4 := (R2.cell 4).trans rfl
      have f0 := R2.frozen 0
      have f1 := R2.frozen 1
      have f2 := R2.frozen 2
      have f3 := R2.frozen 3
      have f4 := R2.frozen 4
      have hl := R2.lt
      go_wp2
      refine bodyPost_ret (v := .tuple #[.agg #[.string ⟨#[]⟩, .int .i64 0, .int .i64 0, .int .i64 0, .slice none 0 0], .bool false]) (by simp [results, Tryd.results43, go_sem, y0, y1, y2, y3, y4, hl]) rfl ?_
      refine bell_badR HNO.out ?_
      (repeat refine Below.setCell ?_ (Nat.le_refl w.heap.size) _)
      with_reducible exact hbz
    · have hN := hgot.1
      have h3 : ((N : Int) != 3) = true := by simp; omega
      have h4 : ((N : Int) == 3) = false := by apply beq_eq_false_iff_ne.2; omega
      clear hgot hN hx
      have hbz := hbr
      have y0 := (R2.cell 0).trans rfl
      have y1 := (R2.cell 1).trans rfl
      have y2 := (R2.cell 2).trans rfl
      have y3 := (R2.cell 3).trans rfl
      have y4 := (R2.cell 4).trans rfl
      have f0 := R2.frozen 0
      have f1 := R2.frozen 1
      have f2 := R2.frozen 2
      have f3 := R2.frozen 3
      have f4 := R2.frozen 4
      have hl := R2.lt
      go_wp2
      refine bodyPost_ret (v := .tuple #[.agg #[.string ⟨#[]⟩, .int .i64 0, .int .i64 0, .int .i64 0, .slice none 0 0], .bool false]) (by simp [results, Tryd.results43, go_sem, y0, y1, y2, y3, y4, hl]) rfl ?_
      refine bell_badR HNO.out ?_
      (repeat refine Below.setCell ?_ (Nat.le_refl w.heap.size) _)
      with_reducible exact hbz
    · obtain rfl : N = 3 := hgot.1
      obtain ⟨bb, oo, rfl, hrow⟩ := hgot.2 (by omega)
      have d0 : w2.cell? ⟨bb, oo, none⟩ = some (.int .i64 m) := hrow 0 (by omega)
      have d1 : w2.cell? ⟨bb, oo + 1, none⟩ = some (.int .i64 r) := hrow 1 (by omega)
      have d2 : w2.cell? ⟨bb, oo + 2, none⟩ = some (.int .i64 d) := hrow 2 (by omega)
      clear hgot hrow
      have c0a := cell_arB c0
      have c2a := cell_arB c2
      have d0a := cell_arB d0
      have d1a := cell_arB d1
      have d2a := cell_arB d2
      have y0 := (R2.cell 0).trans rfl
      have y1 := (R2.cell 1).trans rfl
      have y2 := (R2.cell 2).trans rfl
      have y3 := (R2.cell 3).trans rfl
      have y4 := (R2.cell 4).trans rfl
      have f0 := R2.frozen 0
      have f1 := R2.frozen 1
      have f2 := R2.frozen 2
      have f3 := R2.frozen 3
      have f4 := R2.frozen 4
      have hl := R2.lt
      go_wp2_with fail
      go_cut [7] (fun p wx => ∃ G, p = .pointer (some ⟨G, 0, none⟩) ∧ Hid (w.heap.size < G ∧ wx.cell? ⟨g, 2, none⟩ = some (.string nc) ∧ Below w.heap.size w wx ∧ Blk wx w.heap.size 45 #[.string ⟨#[]⟩, .int .i64 0, .int .i64 0, .int .i64 0, .slice none 0 0] ∧ Blk wx G 45 #[.string na, .int .i64 m, .int .i64 r, .int .i64 d, .slice none 0 0]))
      case first =>
        go_region
        all_goals (go_wp2_with fail)
        all_goals go_meet
        all_goals refine ⟨_, rfl, Lib.hid ?_⟩
        all_goals first | exact ⟨R2.lt, c2a _, (hbr.alloc hrs _).drew, (R2.alloc _).drew, (Blk.new _ _ _).drew⟩ | exact ⟨R2.lt, c2a _, hbr.alloc hrs _, R2.alloc _, Blk.new _ _ _⟩
      case rest =>
        obtain ⟨G, rfl, hcc⟩ := hcut
        obtain ⟨hwG, c2x, hbr2, R3, X3⟩ := hcc.out
        clear hcc hbr hrs R2 y0 y1 y2 y3 y4 f0 f1 f2 f3 f4 hl c0 c2 d0 d1 d2 c0a c2a d0a d1a d2a hgl
        go_wp2_with fail
        go_at_call 25
        refine (HS2.out _).mono ?_
        rintro e w4 ⟨g4, cap4, rfl, hg4, htx4, hb4⟩
        rw [HN.out]
        have hGl := X3.lt
        have hb4s := hb4.size
        have hGb : G < w4.heap.size := by omega
        have hgb : g4 < w4.heap.size := htx4.1
        have hgG : g4 ≠ G := by omega
        have hwb : w.heap.size < w4.heap.size := by omega
        have hgw : g4 ≠ w.heap.size := by omega
        have R4 := Lib.hid (R3.keep hb4)
        have X4 := Lib.hid (X3.keep hb4)
        have hbr4 := hbr2.trans (hb4.mono hbr2.size)
        have T4 := Lib.hid htx4
        clear hg4 htx4 hb4 R3 X3 hbr2 c2x hGl hb4s HS2
        go_wp2_with fail
        go_loopw [9] (fun i wr => ∃ (k : Nat) (v : Value), k ≤ n ∧ i = .int .i64 k ∧ Hid (wr.ownsRow w4.heap.size 75 2 v k (shsL (cutS p) (cutM p) k)) ∧ Hid (Blk wr G 45 #[.string na, .int .i64 m, .int .i64 r, .int .i64 d, v]) ∧ Hid (Blk wr w.heap.size 45 #[.string ⟨#[]⟩, .int .i64 0, .int .i64 0, .int .i64 0, .slice none 0 0]) ∧ Hid (TxAt wr g4 p) ∧ Hid (∀ i, i < k → ∃ q x y z, p[i]? = some q ∧ splC 58 q = [x, y] ∧ numO y = some z) ∧ w4.heap.size ≤ wr.heap.size ∧ Below w.heap.size w wr) (fun i _ => n - (intOf i).toNat)
        case atStart => exact ⟨0, _, by omega, rfl, Lib.hid (World.ownsRow_nil _ _ _ _), X4, R4, T4, Lib.hid (fun i hi => absurd hi (Nat.not_lt_zero i)), Nat.le_refl _, hbr4⟩
        case round =>
          clear X4 R4 T4 hbr4
          obtain ⟨k, v, hk, rfl, hown, hB, hZ, hT, hG, hws, hbr⟩ := hrel
          by_cases hlt : k < n
          · obtain ⟨x, hx2, hxl⟩ := HP.out k hlt
            have e0 := hT.out.2 k x hx2
            have hxs : (tx x).size ≤ 1048576 := by rw [tx_size]; exact hxl
            obtain ⟨y, hy⟩ : ∃ y, splC 58 x = y := ⟨_, rfl⟩
            have HC := Lib.hid (fun W => split_ret (tx x) 58 y W hxs (by omega) (by rw [bl_tx]; exact hy))
            obtain ⟨nx, hnx⟩ : ∃ nx, tx x = nx := ⟨_, rfl⟩
            rw [hnx] at HC e0
            have HLT := Lib.hid hown.out.lt
            have hcs : (y.length ≠ 2 ∧ Hid (noBell s)) ∨ ∃ u v2, y = [u, v2] ∧ ((numO v2 = none ∧ Hid (noBell s)) ∨ ∃ mk, numO v2 = some mk ∧ Hid (tx u = cutS p k ∧ mk = cutM p k)) := by
              by_cases h2 : y.length = 2
              · obtain ⟨u, v2, rfl⟩ := len_two h2
                refine Or.inr ⟨u, v2, rfl, ?_⟩
                rcases e : numO v2 with _ | mk
                · exact Or.inl ⟨rfl, Lib.hid (HXN.out k x hx2 (Or.inr ⟨u, v2, hy, e⟩))⟩
                · have := cut_same hx2 hy e
                  exact Or.inr ⟨mk, rfl, Lib.hid ⟨this.1.symm, this.2.symm⟩⟩
              · exact Or.inl ⟨h2, Lib.hid (HXN.out k x hx2 (Or.inl (by rw [hy]; exact h2)))⟩
            have hyz : ∀ z ∈ y, z.length ≤ 1048576 := fun z hz => by
              have := sp_size (c := 58) (l := x) z (by rw [hy]; exact hz)
              omega
            have HYY := Lib.hid (And.intro hx2 hy)
            clear hnx hy hx2 hxl hxs
            go_wp2_with fail
            go_at_call 25
            refine (HC.out _).mono ?_
            rintro e w5 ⟨gx, capx, rfl, hgx, htx5, hb5⟩
            have own5 := Lib.hid (own_keep hown.out hb5)
            have B5 := Lib.hid (hB.out.keep hb5)
            have Z5 := Lib.hid (hZ.out.keep hb5)
            have T5 := Lib.hid (hT.out.keep hb5 hT.out.1 hb5.size)
            have hbr5 := Lib.hid (hbr.trans (hb5.mono hbr.size))
            have hs5 := Nat.le_trans hws hb5.size
            have hgxl := htx5.1
            rcases hcs with ⟨h2, HNO⟩ | ⟨u, v2, rfl, hcs⟩
            · have h3 : ((y.length : Int) != 2) = true := by simp; omega
              have h4 : ((y.length : Int) == 2) = false := by apply beq_eq_false_iff_ne.2; omega
              have hbz := hbr5.out
              clear hb5 hown hB hZ hT hbr e0 HC htx5 h2 own5 B5 T5 hbr5
              have y0 := (Z5.out.cell 0).trans rfl
              have y1 := (Z5.out.cell 1).trans rfl
              have y2 := (Z5.out.cell 2).trans rfl
              have y3 := (Z5.out.cell 3).trans rfl
              have y4 := (Z5.out.cell 4).trans rfl
              have f0 := Z5.out.frozen 0
              have f1 := Z5.out.frozen 1
              have f2 := Z5.out.frozen 2
              have f3 := Z5.out.frozen 3
              have f4 := Z5.out.frozen 4
              have hl := Z5.out.lt
              go_wp2
              refine bodyPost_ret (v := .tuple #[.agg #[.string ⟨#[]⟩, .int .i64 0, .int .i64 0, .int .i64 0, .slice none 0 0], .bool false]) (by simp [results, Tryd.results43, go_sem, y0, y1, y2, y3, y4, hl]) rfl ?_
              refine bell_badR HNO.out ?_
              (repeat refine Below.setCell ?_ (Nat.le_refl w.heap.size) _)
              with_reducible exact hbz
            · have q0 := htx5.2 0 u rfl
              have q1 := htx5.2 1 v2 rfl
              have hv2 : (tx v2).size ≤ 1048576 := by rw [tx_size]; exact hyz _ (by simp)
              clear hb5 hown hB hZ hT hbr e0 HC htx5 hyz
              rcases hcs with ⟨hno, HNO⟩ | ⟨mk, hmk, HSM⟩
              · have HD := Lib.hid (fun W => num_ret (tx v2) 0 false W hv2 (by rw [bl_tx]; exact numD_none hno) (by rw [bl_tx, hno]; rfl))
                obtain ⟨nv, hnv⟩ : ∃ nv, tx v2 = nv := ⟨_, rfl⟩
                rw [hnv] at HD q1
                have hbz := hbr5.out
                clear hnv hno own5 B5 T5 hbr5 q0
                have y0 := (Z5.out.cell 0).trans rfl
                have y1 := (Z5.out.cell 1).trans rfl
                have y2 := (Z5.out.cell 2).trans rfl
                have y3 := (Z5.out.cell 3).trans rfl
                have y4 := (Z5.out.cell 4).trans rfl
                have f0 := Z5.out.frozen 0
                have f1 := Z5.out.frozen 1
                have f2 := Z5.out.frozen 2
                have f3 := Z5.out.frozen 3
                have f4 := Z5.out.frozen 4
                have hl := Z5.out.lt
                go_wp2_with (go_at_call 26; with_reducible refine (HD.out _).mono ?_; rintro e w3 ⟨rfl, rfl⟩)
                refine bodyPost_ret (v := .tuple #[.agg #[.string ⟨#[]⟩, .int .i64 0, .int .i64 0, .int .i64 0, .slice none 0 0], .bool false]) (by simp [results, Tryd.results43, go_sem, y0, y1, y2, y3, y4, hl]) rfl ?_
                refine bell_badR HNO.out ?_
                (repeat refine Below.setCell ?_ (Nat.le_refl w.heap.size) _)
                with_reducible exact hbz
              · have HD := Lib.hid (fun W => num_ret (tx v2) mk true W hv2 (by rw [bl_tx]; exact numD_some hmk) (by rw [bl_tx, hmk]; rfl))
                have HG2 : Hid (∀ i, i < k + 1 → ∃ q x y z, p[i]? = some q ∧ splC 58 q = [x, y] ∧ numO y = some z) := Lib.hid (all_next hG.out ⟨x, u, v2, mk, HYY.out.1, HYY.out.2, hmk⟩)
                obtain ⟨nv, hnv⟩ : ∃ nv, tx v2 = nv := ⟨_, rfl⟩
                obtain ⟨su, hsu⟩ : ∃ su, tx u = su := ⟨_, rfl⟩
                rw [hnv] at HD q1
                rw [hsu] at q0
                have HSU : Hid (su = cutS p k) := Lib.hid (by rw [← hsu]; exact HSM.out.1)
                have HMK : Hid (mk = cutM p k) := Lib.hid HSM.out.2
                clear hnv hsu hmk hG HYY HSM
                go_wp2_with fail
                go_at_call 26
                refine (HD.out _).mono ?_
                rintro e w6 ⟨rfl, rfl⟩
                go_wp2_with fail
                have ngG : gx ≠ G := by have := B5.out.lt; omega
                have hzx := hbr5.out.size
                refine wp_gen (fun W0 hW0 => ?_)
                have s0_ : Below w.heap.size w W0 := by rw [hW0]; exact hbr5.out
                have s1_ : W0.cell? ⟨gx, 0, none⟩ = some (.string su) := by rw [hW0]; exact q0
                have s2_ : Blk W0 w.heap.size 45 #[.string ⟨#[]⟩, .int .i64 0, .int .i64 0, .int .i64 0, .slice none 0 0] := by rw [hW0]; exact Z5.out
                have s3_ : TxK W0 g4 p := by rw [hW0]; exact T5.out
                have s4_ : w4.heap.size ≤ W0.heap.size := by rw [hW0]; exact hs5
                have HO0 : Hid (W0.ownsRow w4.heap.size 75 2 v k (shsL (cutS p) (cutM p) k)) := Lib.hid (by rw [hW0]; exact own5.out)
                have HB0 : Hid (Blk W0 G 45 #[.string na, .int .i64 m, .int .i64 r, .int .i64 d, v]) := Lib.hid (by rw [hW0]; exact B5.out)
                have o1 : W0.cell? ⟨G, 4, none⟩ = some v := (HB0.out.cell 4).trans rfl
                have o1a := cell_arB (show W0.drew.cell? ⟨G, 4, none⟩ = some v from o1)
                have o1b := cell_arB o1
                clear hW0
                refine wp_region_held_drew (S := fun w' => Below w.heap.size w w' ∧ w'.cell? ⟨gx, 0, none⟩ = some (.string su) ∧ Blk w' w.heap.size 45 #[.string ⟨#[]⟩, .int .i64 0, .int .i64 0, .int .i64 0, .slice none 0 0] ∧ TxK w' g4 p ∧ w4.heap.size ≤ w'.heap.size) (by kernel_rfl) ?_ (fun hHeld => ?_)
                · exact ⟨s0_.drew, s1_, s2_, s3_, s4_⟩
                clear s0_ s1_ s2_ s3_ s4_
                refine take_yes (i := 0) (d := 76) (v := ?_) _ rfl rfl (by kernel_rfl) (by kernel_rfl) (by kernel_rfl) (fun _ _ _ _ h => h) (by rfl) ?_ (by assumption) ?_
                rotate_left 1
                · ((intro w hSw; (try dsimp only at hSw); go_simp) <;> (try with_reducible rfl))
                (try simp only [Act.put, List.setIfInBounds_toArray, List.set_cons_zero, List.set_cons_succ])
                refine take_yes (i := 2) (d := 78) (v := ?_) _ rfl rfl (by kernel_rfl) (by kernel_rfl) (by kernel_rfl) (fun _ _ _ _ h => h) (by rfl) ?_ (by assumption) ?_
                rotate_left 1
                · ((intro w hSw; (try dsimp only at hSw); go_simp) <;> (try with_reducible rfl))
                (try simp only [Act.put, List.setIfInBounds_toArray, List.set_cons_zero, List.set_cons_succ])
                refine take_yes (i := 3) (d := 79) (v := ?_) _ rfl rfl (by kernel_rfl) (by kernel_rfl) (by kernel_rfl) (fun _ _ _ _ h => h) (by rfl) ?_ (by assumption) ?_
                rotate_left 1
                · ((intro w hSw; (try dsimp only at hSw); go_simp) <;> (try with_reducible rfl))
                (try simp only [Act.put, List.setIfInBounds_toArray, List.set_cons_zero, List.set_cons_succ])
                refine take_yes (i := 4) (d := 80) (v := ?_) _ rfl rfl (by kernel_rfl) (by kernel_rfl) (by kernel_rfl) (fun _ _ _ _ h => h) (by rfl) ?_ (by assumption) ?_
                rotate_left 1
                · ((intro w hSw; (try dsimp only at hSw); go_simp) <;> (try with_reducible rfl))
                (try simp only [Act.put, List.setIfInBounds_toArray, List.set_cons_zero, List.set_cons_succ])
                refine take_yes (i := 5) (d := 81) (v := ?_) _ rfl rfl (by kernel_rfl) (by kernel_rfl) (by kernel_rfl) (fun _ _ _ _ h => h) (by rfl) ?_ (by assumption) ?_
                rotate_left 1
                · ((intro w hSw; (try dsimp only at hSw); go_simp) <;> (try with_reducible rfl))
                (try simp only [Act.put, List.setIfInBounds_toArray, List.set_cons_zero, List.set_cons_succ])
                refine take_yes (i := 6) (d := 82) (v := ?_) _ rfl rfl (by kernel_rfl) (by kernel_rfl) (by kernel_rfl) (fun _ _ _ _ h => h) (by rfl) ?_ (by assumption) ?_
                rotate_left 1
                · ((intro w hSw; (try dsimp only at hSw); go_simp) <;> (try with_reducible rfl))
                (try simp only [Act.put, List.setIfInBounds_toArray, List.set_cons_zero, List.set_cons_succ])
                refine wpAnyH_ready (rs := [1, 7]) (by kernel_rfl) (by simp) ?_; refine AllReadyH.cons rfl (fun K hK => ?_) (AllReadyH.cons rfl (fun K hK => ?_) AllReadyH.nil)
                · go_simp; refine hK.out _ _ (by assumption) (fun hHeld2 => ?_); clear hK K hHeld; have hHeld := hHeld2; clear hHeld2; (try simp only [Act.put, List.setIfInBounds_toArray, List.set_cons_zero, List.set_cons_succ])
                  (refine wpAnyH_ready (rs := [7]) (by kernel_rfl) (by simp) ?_; refine AllReadyH.cons rfl (fun K hK => ?_) AllReadyH.nil; go_simp; refine hK.out _ _ (by obtain ⟨x0_, x1_, x2_, x3_, x4_⟩ := hHeld; exact ⟨x0_.trans (((Below.refl _ _).alloc (Nat.le_refl _) _).mono x0_.size), cell_keep ((Below.refl _ _).alloc (Nat.le_refl _) _) x1_, x2_.keep ((Below.refl _ _).alloc (Nat.le_refl _) _), x3_.keep ((Below.refl _ _).alloc (Nat.le_refl _) _), Nat.le_trans x4_ ((Below.refl _ _).alloc (Nat.le_refl _) _).size⟩) (fun hHeld2 => ?_); clear hK K; have hOld := hHeld; clear hHeld; have hHeld := hHeld2; clear hHeld2; (try simp only [Act.put, List.setIfInBounds_toArray, List.set_cons_zero, List.set_cons_succ]))
                  (refine wpAnyH_ready (rs := [8]) (by kernel_rfl) (by simp) ?_; refine AllReadyH.cons rfl (fun K hK => ?_) AllReadyH.nil; refine step_append_own _ rfl (.tmp 77) (.tmp 83) _ rfl w4.heap.size 75 i0 (.agg #[.string ⟨#[]⟩, .int .i64 0]) 2 24 Tryd.underlying43 hi hz0 hz1 hz2 rfl (by decide) _ _ _ rfl ((own_drew HO0.out).alloc _) ⟨_, 0, none⟩ 1 1 [.string su, .int .i64 mk] rfl rfl (fun j u hj => by match j, hj with | 0, hj => simp at hj; subst hj; simp [Addr.add] | 1, hj => simp at hj; subst hj; simp [Addr.add]) (fun u hu => by simp at hu; rcases hu with rfl | rfl <;> rfl) (by unfold maxLen; omega) (by omega) (by have := hHeld.2.2.2.2; omega) ?_; intro v_ wa_ hown_ hgrow_ hat_; obtain ⟨g_, cap_, cur_, rfl, -⟩ := own_blk hown_ (by omega); have HB2 := Lib.hid ((hgrow_.block _ (HB0.out.drew.alloc _).lt (fun e => absurd (HLT.out _ e.symm).1 (by (try dsimp only); omega))).trans (HB0.out.drew.alloc _)); have HBT : Blk _ _ _ _ := HB2.out; have o3 : wa_.cell? ⟨G, 4, none⟩ = some v := (HBT.cell 4).trans rfl; have f3 := HBT.frozen; clear HBT; refine hK.out _ _ (by obtain ⟨x0_, x1_, x2_, x3_, x4_⟩ := hHeld; exact ⟨x0_.grown hgrow_ x0_.size (fun k hk => by have := (HLT.out k hk).1; omega), hgrow_.cell x1_ (fun e => by have h_ := (HLT.out _ e.symm).2; (try dsimp only at h_); omega), (hgrow_.block _ x2_.lt (fun e => absurd (HLT.out _ e.symm).1 (by (try dsimp only); omega))).trans x2_, tx_grow hgrow_ (fun e => absurd (HLT.out _ e.symm).1 (by (try dsimp only); omega)) x3_, Nat.le_trans x4_ hgrow_.size⟩) (fun hHeld2 => ?_); clear hK K hHeld; (try clear hOld); have hHeld := hHeld2; clear hHeld2; (try simp only [Act.put, List.setIfInBounds_toArray, List.set_cons_zero, List.set_cons_succ]))
                  refine take_yes (i := 9) (d := 85) (v := ?_) _ rfl rfl (by kernel_rfl) (by kernel_rfl) (by kernel_rfl) (fun _ _ _ _ h => h) (by rfl) ?_ (by assumption) ?_
                  rotate_left 1
                  · ((intro w hSw; (try dsimp only at hSw); go_simp) <;> (try with_reducible rfl))
                  (try simp only [Act.put, List.setIfInBounds_toArray, List.set_cons_zero, List.set_cons_succ])
                  (refine wpAnyH_ready (rs := [10]) (by kernel_rfl) (by simp) ?_; refine AllReadyH.cons rfl (fun K hK => ?_) AllReadyH.nil; go_simp; refine hK.out _ _ (by obtain ⟨x0_, x1_, x2_, x3_, x4_⟩ := hHeld; exact ⟨x0_.setCell (p := ⟨G, 4, none⟩) (by (try dsimp only); omega) (.slice (some ⟨g_, 0, none⟩) (k + 1) cap_), cell_farB x1_ ngG, x2_.far (p := ⟨G, 4, none⟩) (by (try dsimp only); omega) (.slice (some ⟨g_, 0, none⟩) (k + 1) cap_), tx_far (p := ⟨G, 4, none⟩) x3_ (by (try dsimp only); omega) (.slice (some ⟨g_, 0, none⟩) (k + 1) cap_), by simpa using x4_⟩) (fun hHeld2 => ?_); clear hK K hHeld; (try clear hOld); have hHeld := hHeld2; clear hHeld2; (try simp only [Act.put, List.setIfInBounds_toArray, List.set_cons_zero, List.set_cons_succ]))
                  refine wpAnyH_done (by kernel_rfl) ?_ _
                  obtain ⟨z0, z1, z2, z3, z4⟩ := hHeld
                  have HOWN := Lib.hid (own_storeR (p := ⟨G, 4, none⟩) (show World.ownsRow _ _ _ _ _ (k + 1) (shsL (cutS p) (cutM p) (k + 1)) from (by rw [← shsL_succ, ← HSU.out, ← HMK.out]; exact hown_)) (by (try dsimp only); omega) (.slice (some ⟨g_, 0, none⟩) (k + 1) cap_))
                  have HB3 := Lib.hid (Blk.set_ HB2.out 4 (.slice (some ⟨g_, 0, none⟩) (k + 1) cap_))
                  clear hown_ hgrow_ hat_ HB2 o3 f3
                  go_wp2
                  go_roundw
                  case rel => exact ⟨k + 1, (.slice (some ⟨g_, 0, none⟩) (k + 1) cap_), by omega, by go_num, HOWN, HB3, Lib.hid z2, Lib.hid z3, HG2, z4, z0⟩
                  case measure => simp [intOf]; omega
                · go_simp; refine hK.out _ _ (by obtain ⟨x0_, x1_, x2_, x3_, x4_⟩ := hHeld; exact ⟨x0_.trans (((Below.refl _ _).alloc (Nat.le_refl _) _).mono x0_.size), cell_keep ((Below.refl _ _).alloc (Nat.le_refl _) _) x1_, x2_.keep ((Below.refl _ _).alloc (Nat.le_refl _) _), x3_.keep ((Below.refl _ _).alloc (Nat.le_refl _) _), Nat.le_trans x4_ ((Below.refl _ _).alloc (Nat.le_refl _) _).size⟩) (fun hHeld2 => ?_); clear hK K; have hOld := hHeld; clear hHeld; have hHeld := hHeld2; clear hHeld2; (try simp only [Act.put, List.setIfInBounds_toArray, List.set_cons_zero, List.set_cons_succ])
                  (refine wpAnyH_ready (rs := [1]) (by kernel_rfl) (by simp) ?_; refine AllReadyH.cons rfl (fun K hK => ?_) AllReadyH.nil; go_simp; refine hK.out _ _ (by assumption) (fun hHeld2 => ?_); clear hK K hHeld; have hHeld := hHeld2; clear hHeld2; (try simp only [Act.put, List.setIfInBounds_toArray, List.set_cons_zero, List.set_cons_succ]))
                  (refine wpAnyH_ready (rs := [8]) (by kernel_rfl) (by simp) ?_; refine AllReadyH.cons rfl (fun K hK => ?_) AllReadyH.nil; refine step_append_own _ rfl (.tmp 77) (.tmp 83) _ rfl w4.heap.size 75 i0 (.agg #[.string ⟨#[]⟩, .int .i64 0]) 2 24 Tryd.underlying43 hi hz0 hz1 hz2 rfl (by decide) _ _ _ rfl ((own_drew HO0.out).alloc _) ⟨_, 0, none⟩ 1 1 [.string su, .int .i64 mk] rfl rfl (fun j u hj => by match j, hj with | 0, hj => simp at hj; subst hj; simp [Addr.add] | 1, hj => simp at hj; subst hj; simp [Addr.add]) (fun u hu => by simp at hu; rcases hu with rfl | rfl <;> rfl) (by unfold maxLen; omega) (by omega) (by have := hHeld.2.2.2.2; omega) ?_; intro v_ wa_ hown_ hgrow_ hat_; obtain ⟨g_, cap_, cur_, rfl, -⟩ := own_blk hown_ (by omega); have HB2 := Lib.hid ((hgrow_.block _ (HB0.out.drew.alloc _).lt (fun e => absurd (HLT.out _ e.symm).1 (by (try dsimp only); omega))).trans (HB0.out.drew.alloc _)); have HBT : Blk _ _ _ _ := HB2.out; have o3 : wa_.cell? ⟨G, 4, none⟩ = some v := (HBT.cell 4).trans rfl; have f3 := HBT.frozen; clear HBT; refine hK.out _ _ (by obtain ⟨x0_, x1_, x2_, x3_, x4_⟩ := hHeld; exact ⟨x0_.grown hgrow_ x0_.size (fun k hk => by have := (HLT.out k hk).1; omega), hgrow_.cell x1_ (fun e => by have h_ := (HLT.out _ e.symm).2; (try dsimp only at h_); omega), (hgrow_.block _ x2_.lt (fun e => absurd (HLT.out _ e.symm).1 (by (try dsimp only); omega))).trans x2_, tx_grow hgrow_ (fun e => absurd (HLT.out _ e.symm).1 (by (try dsimp only); omega)) x3_, Nat.le_trans x4_ hgrow_.size⟩) (fun hHeld2 => ?_); clear hK K hHeld; (try clear hOld); have hHeld := hHeld2; clear hHeld2; (try simp only [Act.put, List.setIfInBounds_toArray, List.set_cons_zero, List.set_cons_succ]))
                  refine take_yes (i := 9) (d := 85) (v := ?_) _ rfl rfl (by kernel_rfl) (by kernel_rfl) (by kernel_rfl) (fun _ _ _ _ h => h) (by rfl) ?_ (by assumption) ?_
                  rotate_left 1
                  · ((intro w hSw; (try dsimp only at hSw); go_simp) <;> (try with_reducible rfl))
                  (try simp only [Act.put, List.setIfInBounds_toArray, List.set_cons_zero, List.set_cons_succ])
                  (refine wpAnyH_ready (rs := [10]) (by kernel_rfl) (by simp) ?_; refine AllReadyH.cons rfl (fun K hK => ?_) AllReadyH.nil; go_simp; refine hK.out _ _ (by obtain ⟨x0_, x1_, x2_, x3_, x4_⟩ := hHeld; exact ⟨x0_.setCell (p := ⟨G, 4, none⟩) (by (try dsimp only); omega) (.slice (some ⟨g_, 0, none⟩) (k + 1) cap_), cell_farB x1_ ngG, x2_.far (p := ⟨G, 4, none⟩) (by (try dsimp only); omega) (.slice (some ⟨g_, 0, none⟩) (k + 1) cap_), tx_far (p := ⟨G, 4, none⟩) x3_ (by (try dsimp only); omega) (.slice (some ⟨g_, 0, none⟩) (k + 1) cap_), by simpa using x4_⟩) (fun hHeld2 => ?_); clear hK K hHeld; (try clear hOld); have hHeld := hHeld2; clear hHeld2; (try simp only [Act.put, List.setIfInBounds_toArray, List.set_cons_zero, List.set_cons_succ]))
                  refine wpAnyH_done (by kernel_rfl) ?_ _
                  obtain ⟨z0, z1, z2, z3, z4⟩ := hHeld
                  have HOWN := Lib.hid (own_storeR (p := ⟨G, 4, none⟩) (show World.ownsRow _ _ _ _ _ (k + 1) (shsL (cutS p) (cutM p) (k + 1)) from (by rw [← shsL_succ, ← HSU.out, ← HMK.out]; exact hown_)) (by (try dsimp only); omega) (.slice (some ⟨g_, 0, none⟩) (k + 1) cap_))
                  have HB3 := Lib.hid (Blk.set_ HB2.out 4 (.slice (some ⟨g_, 0, none⟩) (k + 1) cap_))
                  clear hown_ hgrow_ hat_ HB2 o3 f3
                  go_wp2
                  go_roundw
                  case rel => exact ⟨k + 1, (.slice (some ⟨g_, 0, none⟩) (k + 1) cap_), by omega, by go_num, HOWN, HB3, Lib.hid z2, Lib.hid z3, HG2, z4, z0⟩
                  case measure => simp [intOf]; omega
          · obtain rfl : k = n := by omega
            obtain ⟨g7, c7, rfl, hg7, hrow7⟩ := shareRow_of hown.out (by omega)
            have HROW := Lib.hid hrow7
            have hne7 : g7 ≠ w.heap.size := by omega
            have HF7 := Lib.hid (show w.heap.size ≤ g7 by omega)
            have HT := Lib.hid (HXY.out hG.out)
            clear hown hrow7 hT hg7 hgw hgG
            have x0 := (hB.out.cell 0).trans rfl
            have x1 := (hB.out.cell 1).trans rfl
            have x2 := (hB.out.cell 2).trans rfl
            have x3 := (hB.out.cell 3).trans rfl
            have x4 := (hB.out.cell 4).trans rfl
            have y0 := (hZ.out.cell 0).trans rfl
            have y1 := (hZ.out.cell 1).trans rfl
            have y2 := (hZ.out.cell 2).trans rfl
            have y3 := (hZ.out.cell 3).trans rfl
            have y4 := (hZ.out.cell 4).trans rfl
            have f0 := hZ.out.frozen 0
            have f1 := hZ.out.frozen 1
            have f2 := hZ.out.frozen 2
            have f3 := hZ.out.frozen 3
            have f4 := hZ.out.frozen 4
            have hl := hZ.out.lt
            cases q1 : bellB na m r d k (cutS p) (cutM p)
            · have HNO := Lib.hid (HXB.out q1)
              go_wp2_with (go_at_call 67; refine (sbell_calls G 0 na m r d (some ⟨g7, 0, none⟩) k c7 (cutS p) (cutM p) _ HSZ.out HROW.out.row HSS.out (by omega) x0 x1 x2 x3 x4).mono ?_; rintro e w8 ⟨rfl, nd, rfl⟩; have hbz := below_drewN hbr nd; rw [q1])
              refine bodyPost_ret (v := .tuple #[.agg #[.string ⟨#[]⟩, .int .i64 0, .int .i64 0, .int .i64 0, .slice none 0 0], .bool false]) (by simp [results, Tryd.results43, go_sem, y0, y1, y2, y3, y4, hl]) rfl ?_
              refine bell_badR HNO.out ?_
              (repeat refine Below.setCell ?_ (Nat.le_refl w.heap.size) _)
              with_reducible exact hbz
            · go_wp2_with (go_at_call 67; refine (sbell_calls G 0 na m r d (some ⟨g7, 0, none⟩) k c7 (cutS p) (cutM p) _ HSZ.out HROW.out.row HSS.out (by omega) x0 x1 x2 x3 x4).mono ?_; rintro e w8 ⟨rfl, nd, rfl⟩; have hbz := below_drewN hbr nd; rw [q1])
              refine bodyPost_ret (v := .tuple #[.agg #[.string na, .int .i64 m, .int .i64 r, .int .i64 d, .slice (some ⟨g7, 0, none⟩) k c7], .bool true]) (by simp [results, Tryd.results43, go_sem, y0, y1, y2, y3, y4, hl]) rfl ?_
              refine bell_goodR (HROW.out.same (by (repeat rw [heap_far hne7]) <;> rfl)) HF7.out hn1 q1 HT.out ?_
              (repeat refine Below.setCell ?_ (Nat.le_refl w.heap.size) _)
              with_reducible exact hbz
  · have HNO := Lib.hid (bell_no1 (s := s) (by rw [hl]; exact h2))
    have h3 : ((l.length : Int) != 3) = true := by simp; omega
    have h4 : ((l.length : Int) == 3) = false := by apply beq_eq_false_iff_ne.2; omega
    clear hl
    go_enter Tryd.func43, Tryd.ntmps43
    go_wp2_with fail
    go_at_call 25
    refine (HS1.out _).mono ?_
    rintro e w1 ⟨g, cap, rfl, hg, htx, hb1⟩
    have R2 := HY.out.keep hb1
    have hbz := HAL.out.trans (hb1.mono HAL.out.size)
    clear htx hb1
    have y0 := (R2.cell 0).trans rfl
    have y1 := (R2.cell 1).trans rfl
    have y2 := (R2.cell 2).trans rfl
    have y3 := (R2.cell 3).trans rfl
    have y4 := (R2.cell 4).trans rfl
    have f0 := R2.frozen 0
    have f1 := R2.frozen 1
    have f2 := R2.frozen 2
    have f3 := R2.frozen 3
    have f4 := R2.frozen 4
    have hl := R2.lt
    go_wp2
    refine bodyPost_ret (v := .tuple #[.agg #[.string ⟨#[]⟩, .int .i64 0, .int .i64 0, .int .i64 0, .slice none 0 0], .bool false]) (by simp [results, Tryd.results43, go_sem, y0, y1, y2, y3, y4, hl]) rfl ?_
    refine bell_badR HNO.out ?_
    (repeat refine Below.setCell ?_ (Nat.le_refl w.heap.size) _)
    with_reducible exact hbz
theorem sReadBell_calls (s : ByteArray) (w : World) (hs : s.size ≤ 1048576) : Calls Tryd.prog 20 #[.string s] w (BellRet w s) := by
  have H := Lib.hid (fun W => l18Read_calls s W hs)
  have HAL := Lib.hid ((Below.refl w.heap.size w).alloc (Nat.le_refl _) (.cells #[.string ⟨#[]⟩, .int .i64 0, .int .i64 0, .int .i64 0, .slice none 0 0] 45))
  have HY := Lib.hid (Blk.new w 45 #[.string ⟨#[]⟩, .int .i64 0, .int .i64 0, .int .i64 0, .slice none 0 0])
  go_enter Tryd.func20, Tryd.ntmps20
  go_wp2_with fail
  go_at_call 43
  refine (H.out _).mono ?_
  rintro e w1 ⟨id, no, ma, fe, A, n, c, G, ss, ms, b, rfl, h1, hfr, hn, h2, hb1⟩
  have R2 := HY.out.keep hb1
  have hbz := HAL.out.trans (hb1.mono HAL.out.size)
  have H1 := Lib.hid h1
  have H2 := Lib.hid h2
  have H3 := Lib.hid (show 0 < n → w.heap.size < G from fun h1 => by have h_ := hfr h1; simp at h_; omega)
  clear hb1 HAL HY H h1 h2 hfr
  have y0 := (R2.cell 0).trans rfl
  have y1 := (R2.cell 1).trans rfl
  have y2 := (R2.cell 2).trans rfl
  have y3 := (R2.cell 3).trans rfl
  have y4 := (R2.cell 4).trans rfl
  have f0 := R2.frozen 0
  have f1 := R2.frozen 1
  have f2 := R2.frozen 2
  have f3 := R2.frozen 3
  have f4 := R2.frozen 4
  have hl := R2.lt
  go_wp2
  refine bodyPost_ret (v := .tuple #[.agg #[.string id, .int .i64 no, .int .i64 ma, .int .i64 fe, .slice A n c], .bool b]) (by simp [results, Tryd.results20, go_sem, y0, y1, y2, y3, y4, hl]) rfl ⟨id, no, ma, fe, A, n, c, G, ss, ms, b, rfl, ?_, fun h1 => Nat.le_of_lt (H3.out h1), hn, H2.out, ?_⟩
  · intro hn0
    have hne : G ≠ w.heap.size := Nat.ne_of_gt (H3.out hn0)
    exact (H1.out.same (by repeat rw [heap_far hne])) hn0
  · (repeat refine Below.setCell ?_ (Nat.le_refl w.heap.size) _)
    with_reducible exact hbz
end Go.Proofs.YtflhkldfhndafaaDoor
