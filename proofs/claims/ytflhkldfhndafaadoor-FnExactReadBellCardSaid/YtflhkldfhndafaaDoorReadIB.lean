/- Bells read, by the program. -/
import Derived.Test.YtflhkldfhndafaaDoorReadBQ
import Derived.Deep.DeepCutAuto
namespace Go.Proofs.YtflhkldfhndafaaDoor
set_option linter.unusedVariables false
set_option linter.unusedSimpArgs false
open Go.RowKit


theorem isplit_ret (s : ByteArray) (c : UInt8) (l : List (List UInt8)) (w : World) (hs : s.size ≤ 1048576) (hL : HasLib w) (h : splC c (bl s) = l) : Calls Tryd.prog 44 #[.string s, .string ⟨#[c]⟩] w (SpRet w l) := by
  have := Split_calls s c w hs hL
  rw [h] at this
  exact this.mono fun e w' ⟨h1, h2, h3⟩ => ⟨_, _, h1, Nat.le_refl _, h2, h3⟩
set_option maxRecDepth 20000 in
set_option maxHeartbeats 8000000 in
theorem ReadBell_calls (s : ByteArray) (w : World) (hs : s.size ≤ 1048576) (hL : HasLib w) : Calls Tryd.prog 21 #[.string s] w (BellRet w s) := by
  obtain ⟨i0, hi, hz0, hz1, hz2⟩ := info_parts share_infoR
  have HAL := Lib.hid ((Below.refl w.heap.size w).alloc (Nat.le_refl _) (.cells #[.string ⟨#[]⟩, .int .i64 0, .int .i64 0, .int .i64 0, .slice none 0 0] 45))
  have HY := Lib.hid (Blk.new w 45 #[.string ⟨#[]⟩, .int .i64 0, .int .i64 0, .int .i64 0, .slice none 0 0])
  have HL := Lib.hid hL
  obtain ⟨l, hl⟩ : ∃ l, splC 32 (bl s) = l := ⟨_, rfl⟩
  have HS1 := Lib.hid (fun W (hb : Below w.heap.size w W) => isplit_ret s 32 l W hs (hL.keep hb) hl)
  by_cases h2 : l.length = 3
  · obtain ⟨a, b, c, rfl⟩ := len_3 h2
    clear h2
    obtain ⟨za, zb, zc⟩ := three_sizes hl
    have HSZ := Lib.hid (show (tx a).size ≤ maxLen by rw [tx_size]; unfold maxLen; omega)
    have hb : (tx b).size ≤ 1048575 := by rw [tx_size]; omega
    have hc : (tx c).size ≤ 1048576 := by rw [tx_size]; omega
    have HR := Lib.hid (fun W (hb' : Below w.heap.size w W) => ReadList_calls (tx b) W hb (hL.keep hb'))
    rw [bl_tx] at HR
    obtain ⟨o, ho⟩ : ∃ o, listO b = o := ⟨_, rfl⟩
    rw [ho] at HR
    obtain ⟨p, hp⟩ : ∃ p, splC 44 c = p := ⟨_, rfl⟩
    obtain ⟨n, hn⟩ : ∃ n, p.length = n := ⟨_, rfl⟩
    have HS2 := Lib.hid (fun W (hb' : Below w.heap.size w W) => isplit_ret (tx c) 44 p W hc (hL.keep hb') (by rw [bl_tx]; exact hp))
    have hn0 : 0 < n := by rw [← hn, ← hp]; exact List.length_pos_iff.2 (splC_ne _ _)
    have hn1 : n ≤ 1048576 := by
      have := sp_len (c := 44) (l := c)
      rw [hp, hn] at this
      omega
    have HSS := Lib.hid (show ∀ i, i < n → (cutS p i).size ≤ maxLen from fun i _ => by
      have := cutS_size (c := c) (i := i)
      rw [hp] at this
      unfold maxLen
      omega)
    have HP := Lib.hid (show ∀ k, k < n → ∃ x, p[k]? = some x ∧ x.length ≤ 1048576 from fun k hk => by
      have hk2 : k < p.length := by omega
      refine ⟨p[k], List.getElem?_eq_getElem hk2, ?_⟩
      have := sp_size (c := 44) (l := c) p[k] (by rw [hp]; exact List.getElem_mem hk2)
      omega)
    obtain ⟨na, hna⟩ : ∃ na, tx a = na := ⟨_, rfl⟩
    obtain ⟨nb, hnb⟩ : ∃ nb, tx b = nb := ⟨_, rfl⟩
    obtain ⟨nc, hnc⟩ : ∃ nc, tx c = nc := ⟨_, rfl⟩
    rw [hna] at HSZ
    rw [hnb] at HR
    rw [hnc] at HS2
    have hcase : (o = none ∧ Hid (noBell s)) ∨ (∃ xs, o = some xs ∧ xs.length ≠ 3 ∧ Hid (noBell s)) ∨ ∃ m r d, o = some [m, r, d] ∧ ((bellB na m r d n (cutS p) (cutM p) = false ∧ Hid (noBell s)) ∨ (bellB na m r d n (cutS p) (cutM p) = true ∧ Hid (bellT na m r d n (cutS p) (cutM p) = s)) ∨ (bellB na m r d n (cutS p) (cutM p) = true ∧ Hid (bellT na m r d n (cutS p) (cutM p) ≠ s) ∧ Hid (noBell s))) := by
      rcases e : o with _ | xs
      · exact Or.inl ⟨rfl, Lib.hid (bell_no2 hl (fun _ _ _ h => by rw [ho, e] at h; cases h))⟩
      · rw [e] at ho
        by_cases h3 : xs.length = 3
        · obtain ⟨m, r, d, rfl⟩ := len_3 h3
          refine Or.inr (Or.inr ⟨m, r, d, rfl, ?_⟩)
          have hno := fun h => bell_no3 (s := s) hl ho h
          rw [hp, hn, hna] at hno
          cases q1 : bellB na m r d n (cutS p) (cutM p)
          · exact Or.inl ⟨rfl, Lib.hid (hno (Or.inl q1))⟩
          · by_cases q2 : bellT na m r d n (cutS p) (cutM p) = s
            · exact Or.inr (Or.inl ⟨rfl, Lib.hid q2⟩)
            · exact Or.inr (Or.inr ⟨rfl, Lib.hid q2, Lib.hid (hno (Or.inr q2))⟩)
        · refine Or.inr (Or.inl ⟨xs, rfl, h3, Lib.hid (bell_no2 hl (fun _ _ _ h => ?_))⟩)
          rw [ho] at h
          obtain rfl := Option.some.inj h
          exact h3 rfl
    have HCASE := Lib.hid hcase
    have HN := Lib.hid hn
    clear hcase hl ho hb hc za zb zc hp hn hL
    go_enter Tryd.func21, Tryd.ntmps21
    go_wp2_with fail
    go_at_call 44
    refine (HS1.out _ HAL.out).mono ?_
    rintro e w1 ⟨g, cap, rfl, hg, htx, hb1⟩
    have c0 := htx.2 0 a rfl
    have c1 := htx.2 1 b rfl
    have c2 := htx.2 2 c rfl
    rw [hna] at c0
    rw [hnb] at c1
    rw [hnc] at c2
    have hg1 := htx.1
    have R1 := HY.out.keep hb1
    have hbr := HAL.out.trans (hb1.mono HAL.out.size)
    clear htx hb1
    go_wp2_with fail
    go_at_call 34
    refine (HR.out _ hbr).mono ?_
    rintro e w2 ⟨A, N, cp, rfl, hgot, hb2⟩
    have R2 := R1.keep hb2
    replace c0 := (hb2.cell (p := ⟨g, 0, none⟩) hg1).trans c0
    replace c2 := (hb2.cell (p := ⟨g, 2, none⟩) hg1).trans c2
    replace hbr := hbr.trans (hb2.mono hbr.size)
    have hgl : g < w2.heap.size := by have := hb2.size; omega
    have hrs := hbr.size
    clear hb2 c1 R1 hg hg1 hna hnb hnc HS1 HR
    rcases HCASE.out with ⟨rfl, HNO⟩ | ⟨xs, rfl, hx, HNO⟩ | ⟨m, r, d, rfl, hx⟩
    · obtain rfl : N = 0 := hgot
      have hbz := hbr
      have y0 := (R2.cell 0).trans rfl
      have y1 := (R2.cell 1).trans rfl
      have y2 := (R2.cell 2).trans rfl
      have y3 := (R2.cell 3).trans rfl
      have y4 := (R2.cell 4).trans rfl
      have f0 := R2.frozen 0
      have f1 := R2.frozen 1
      have f2 := R2.frozen 2
      have f3 := R2.frozen 3
      have f4 := R2.frozen 4
      have hl := R2.lt
      go_wp2
      refine bodyPost_ret (v := .tuple #[.agg #[.string ⟨#[]⟩, .int .i64 0, .int .i64 0, .int .i64 0, .slice none 0 0], .bool false]) (by simp [results, Tryd.results21, go_sem, y0, y1, y2, y3, y4, hl]) rfl ?_
      refine bell_badR HNO.out ?_
      (repeat refine Below.setCell ?_ (Nat.le_refl w.heap.size) _)
      with_reducible exact hbz
    · have hN := hgot.1
      have h3 : ((N : Int) != 3) = true := by simp; omega
      have h4 : ((N : Int) == 3) = false := by apply beq_eq_false_iff_ne.2; omega
      clear hgot hN hx
      have hbz := hbr
      have y0 := (R2.cell 0).trans rfl
      have y1 := (R2.cell 1).trans rfl
      have y2 := (R2.cell 2).trans rfl
      have y3 := (R2.cell 3).trans rfl
      have y4 := (R2.cell 4).trans rfl
      have f0 := R2.frozen 0
      have f1 := R2.frozen 1
      have f2 := R2.frozen 2
      have f3 := R2.frozen 3
      have f4 := R2.frozen 4
      have hl := R2.lt
      go_wp2
      refine bodyPost_ret (v := .tuple #[.agg #[.string ⟨#[]⟩, .int .i64 0, .int .i64 0, .int .i64 0, .slice none 0 0], .bool false]) (by simp [results, Tryd.results21, go_sem, y0, y1, y2, y3, y4, hl]) rfl ?_
      refine bell_badR HNO.out ?_
      (repeat refine Below.setCell ?_ (Nat.le_refl w.heap.size) _)
      with_reducible exact hbz
    · obtain rfl : N = 3 := hgot.1
      obtain ⟨bb, oo, rfl, hrow⟩ := hgot.2 (by omega)
      have d0 : w2.cell? ⟨bb, oo, none⟩ = some (.int .i64 m) := hrow 0 (by omega)
      have d1 : w2.cell? ⟨bb, oo + 1, none⟩ = some (.int .i64 r) := hrow 1 (by omega)
      have d2 : w2.cell? ⟨bb, oo + 2, none⟩ = some (.int .i64 d) := hrow 2 (by omega)
      clear hgot hrow
      have c0a := cell_arB c0
      have c2a := cell_arB c2
      have d0a := cell_arB d0
      have d1a := cell_arB d1
      have d2a := cell_arB d2
      have y0 := (R2.cell 0).trans rfl
      have y1 := (R2.cell 1).trans rfl
      have y2 := (R2.cell 2).trans rfl
      have y3 := (R2.cell 3).trans rfl
      have y4 := (R2.cell 4).trans rfl
      have f0 := R2.frozen 0
      have f1 := R2.frozen 1
      have f2 := R2.frozen 2
      have f3 := R2.frozen 3
      have f4 := R2.frozen 4
      have hl := R2.lt
      go_wp2_with fail
      go_cut [7] (fun p wx => ∃ G, p = .pointer (some ⟨G, 0, none⟩) ∧ Hid (w.heap.size < G ∧ wx.cell? ⟨g, 2, none⟩ = some (.string nc) ∧ Below w.heap.size w wx ∧ Blk wx w.heap.size 45 #[.string ⟨#[]⟩, .int .i64 0, .int .i64 0, .int .i64 0, .slice none 0 0] ∧ Blk wx G 45 #[.string na, .int .i64 m, .int .i64 r, .int .i64 d, .slice none 0 0]))
      case first =>
        go_region
        all_goals (go_wp2_with fail)
        all_goals go_meet
        all_goals refine ⟨_, rfl, Lib.hid ?_⟩
        all_goals first | exact ⟨R2.lt, c2a _, (hbr.alloc hrs _).drew, (R2.alloc _).drew, (Blk.new _ _ _).drew⟩ | exact ⟨R2.lt, c2a _, hbr.alloc hrs _, R2.alloc _, Blk.new _ _ _⟩
      case rest =>
        obtain ⟨G, rfl, hcc⟩ := hcut
        obtain ⟨hwG, c2x, hbr2, R3, X3⟩ := hcc.out
        clear hcc hbr hrs R2 y0 y1 y2 y3 y4 f0 f1 f2 f3 f4 hl c0 c2 d0 d1 d2 c0a c2a d0a d1a d2a hgl
        go_wp2_with fail
        go_at_call 44
        refine (HS2.out _ hbr2).mono ?_
        rintro e w4 ⟨g4, cap4, rfl, hg4, htx4, hb4⟩
        rw [HN.out]
        have hGl := X3.lt
        have hb4s := hb4.size
        have hGb : G < w4.heap.size := by omega
        have hgb : g4 < w4.heap.size := htx4.1
        have hgG : g4 ≠ G := by omega
        have hwb : w.heap.size < w4.heap.size := by omega
        have hgw : g4 ≠ w.heap.size := by omega
        have R4 := Lib.hid (R3.keep hb4)
        have X4 := Lib.hid (X3.keep hb4)
        have hbr4 := hbr2.trans (hb4.mono hbr2.size)
        have T4 := Lib.hid htx4
        clear hg4 htx4 hb4 R3 X3 hbr2 c2x hGl hb4s HS2
        go_wp2_with fail
        go_loopw [50] (fun i wr => ∃ (k : Nat) (v : Value), k ≤ n ∧ i = .int .i64 k ∧ Hid (wr.ownsRow w4.heap.size 75 2 v k (shsL (cutS p) (cutM p) k)) ∧ Hid (Blk wr G 45 #[.string na, .int .i64 m, .int .i64 r, .int .i64 d, v]) ∧ Hid (Blk wr w.heap.size 45 #[.string ⟨#[]⟩, .int .i64 0, .int .i64 0, .int .i64 0, .slice none 0 0]) ∧ Hid (TxAt wr g4 p) ∧ w4.heap.size ≤ wr.heap.size ∧ Below w.heap.size w wr) (fun i _ => n - (intOf i).toNat)
        case atStart => exact ⟨0, _, by omega, rfl, Lib.hid (World.ownsRow_nil _ _ _ _), X4, R4, T4, Nat.le_refl _, hbr4⟩
        case round =>
          clear X4 R4 T4 hbr4
          obtain ⟨k, v, hk, rfl, hown, hB, hZ, hT, hws, hbr⟩ := hrel
          by_cases hlt : k < n
          · obtain ⟨x, hx2, hxl⟩ := HP.out k hlt
            have e0 := hT.out.2 k x hx2
            obtain ⟨⟨u, v2, t⟩, huv⟩ : ∃ z, Lib.cut x [58] = z := ⟨_, rfl⟩
            have hS : tx u = cutS p k := by unfold cutS; rw [hx2, Option.getD_some, huv]
            have hM : numD v2 = cutM p k := by unfold cutM; rw [hx2, Option.getD_some, huv]
            have hzs := cut_size 58 x
            rw [huv] at hzs
            have hv2 : (tx v2).size ≤ 1048576 := by rw [tx_size]; exact Nat.le_trans hzs.2 hxl
            have hxs : (tx x).size ≤ 1048576 := by rw [tx_size]; exact hxl
            obtain ⟨su, hsu⟩ : ∃ su, tx u = su := ⟨_, rfl⟩
            obtain ⟨mk, hmk⟩ : ∃ mk, numD v2 = mk := ⟨_, rfl⟩
            obtain ⟨o2, ho2⟩ : ∃ o2, (numO v2).isSome = o2 := ⟨_, rfl⟩
            have HC := Lib.hid (fun W (hb : Below w.heap.size w W) => cut_ret (tx x) 58 u v2 t W hxs (HL.out.keep hb) (by rw [bl_tx]; exact huv))
            have HD := Lib.hid (fun W (hb : Below w.heap.size w W) => dec_ret (tx v2) mk o2 W hv2 (HL.out.keep hb) (by rw [bl_tx]; exact hmk) (by rw [bl_tx]; exact ho2))
            obtain ⟨nv, hnv⟩ : ∃ nv, tx v2 = nv := ⟨_, rfl⟩
            obtain ⟨nx, hnx⟩ : ∃ nx, tx x = nx := ⟨_, rfl⟩
            rw [hsu, hnv, hnx] at HC
            rw [hnv] at HD
            rw [hnx] at e0
            have HSU : Hid (su = cutS p k) := Lib.hid (hsu.symm.trans hS)
            have HMK : Hid (mk = cutM p k) := Lib.hid (hmk.symm.trans hM)
            clear hS hM hzs hsu hmk ho2 hnv hnx huv hx2 hxl hv2 hxs
            go_wp2_with fail
            go_at_call 28
            refine (HC.out _ hbr).mono ?_
            rintro e w5 ⟨rfl, hb5⟩
            have own5 := Lib.hid (own_keep hown.out hb5)
            have B5 := Lib.hid (hB.out.keep hb5)
            have Z5 := Lib.hid (hZ.out.keep hb5)
            have T5 := Lib.hid (hT.out.keep hb5 hT.out.1 hb5.size)
            have hbr5 := Lib.hid (hbr.trans (hb5.mono hbr.size))
            have hs5 := Nat.le_trans hws hb5.size
            clear hb5 hown hB hZ hT hbr hws e0 HC
            go_wp2_with fail
            go_at_call 29
            refine (HD.out _ hbr5.out).mono ?_
            rintro e w6 ⟨rfl, hb6⟩
            have own6 := Lib.hid (own_keep own5.out hb6)
            have B6 := Lib.hid (B5.out.keep hb6)
            have Z6 := Lib.hid (Z5.out.keep hb6)
            have T6 := Lib.hid (T5.out.keep hb6 T5.out.1 hb6.size)
            have hbr6 := Lib.hid (hbr5.out.trans (hb6.mono hbr5.out.size))
            have hs6 := Nat.le_trans hs5 hb6.size
            have HLT := Lib.hid (show ∀ z, v.ownBlock = some z → w4.heap.size ≤ z from fun z hz => (own6.out.lt z hz).1)
            have o6 := (B6.out.cell 4).trans rfl
            clear hb6 own5 B5 Z5 T5 hbr5 hs5 HD
            go_wp2_with (at_builtin; refine wpList_append_own _ rfl _ _ 43 rfl w4.heap.size 75 i0 (.agg #[.string ⟨#[]⟩, .int .i64 0]) 2 24 Tryd.underlying43 hi hz0 hz1 hz2 rfl (by decide) _ _ _ rfl (own6.out.alloc _) ⟨w6.heap.size, 0, none⟩ 1 1 [.string su, .int .i64 mk] rfl rfl (fun j u hj => by match j, hj with | 0, hj => simp at hj; subst hj; simp [Addr.add] | 1, hj => simp at hj; subst hj; simp [Addr.add]) (fun u hu => by simp at hu; rcases hu with rfl | rfl <;> rfl) (by unfold maxLen; omega) (by omega) (by simp; omega) ?_; intro v' w7 hown' hgrow _; rw [HSU.out, HMK.out, shsL_succ] at hown'; obtain ⟨g_, cap_, cur_, rfl, -⟩ := own_blk hown' (by omega); have HB7 := Lib.hid (app_blk hgrow HLT.out hGb B6.out); have HZ7 := Lib.hid (app_blk hgrow HLT.out hwb Z6.out); have HT7 := Lib.hid (app_tx hgrow HLT.out hgb T6.out); have hbr7 := Lib.hid ((hbr6.out.alloc hbr6.out.size _).grown hgrow (hbr6.out.alloc hbr6.out.size _).size (fun z hz => by have := HLT.out z hz; omega)); have hs7 := hgrow.size; (try simp only [World.alloc_size] at hs7); have hs7' : w4.heap.size ≤ w7.heap.size := Nat.le_trans (Nat.le_trans hs6 (Nat.le_succ _)) (by simpa using hs7); have o7 := (HB7.out.cell 4).trans rfl; have f7 := HB7.out.frozen 4; have l7 := HB7.out.lt; have HOWN := Lib.hid hown'; clear hown' hgrow hs7)
            go_roundw
            case rel => exact ⟨k + 1, .slice (some ⟨g_, 0, none⟩) (k + 1) cap_, by omega, by go_num, Lib.hid (own_storeR HOWN.out hGb _), Lib.hid (HB7.out.set_ 4 _), Lib.hid (HZ7.out.far (Nat.ne_of_lt hwG) _), Lib.hid (tx_far HT7.out hgG _), by simpa using hs7', hbr7.out.setCell (Nat.le_of_lt hwG) _⟩
            case measure => simp [intOf]; omega
          · obtain rfl : k = n := by omega
            obtain ⟨g7, c7, rfl, hg7, hrow7⟩ := shareRow_of hown.out (by omega)
            have HROW := Lib.hid hrow7
            have hne7 : g7 ≠ w.heap.size := by omega
            have HF7 := Lib.hid (show w.heap.size ≤ g7 by omega)
            clear hown hrow7 hT hg7 hgw hgG
            have x0 := (hB.out.cell 0).trans rfl
            have x1 := (hB.out.cell 1).trans rfl
            have x2 := (hB.out.cell 2).trans rfl
            have x3 := (hB.out.cell 3).trans rfl
            have x4 := (hB.out.cell 4).trans rfl
            rcases hx with ⟨q1, HNO⟩ | ⟨q1, HT⟩ | ⟨q1, HNE, HNO⟩
            all_goals
              go_wp2_with fail
              go_at_call 45
              refine (ValidBell_calls na m r d (some ⟨g7, 0, none⟩) k c7 (cutS p) (cutM p) _ HSZ.out HROW.out.row HSS.out (by omega)).mono ?_
              rintro e w8 ⟨rfl, hb8⟩
              rw [q1]
              have R8 := Lib.hid (hZ.out.keep hb8)
              have X8 := Lib.hid (hB.out.keep hb8)
              have HROW8 := Lib.hid (HROW.out.keep hb8)
              have HB8 := Lib.hid (hbr.trans (hb8.mono hbr.size))
              clear hb8 HROW x0 x1 x2 x3 x4
            · have hbz := HB8.out
              have y0 := (R8.out.cell 0).trans rfl
              have y1 := (R8.out.cell 1).trans rfl
              have y2 := (R8.out.cell 2).trans rfl
              have y3 := (R8.out.cell 3).trans rfl
              have y4 := (R8.out.cell 4).trans rfl
              have f0 := R8.out.frozen 0
              have f1 := R8.out.frozen 1
              have f2 := R8.out.frozen 2
              have f3 := R8.out.frozen 3
              have f4 := R8.out.frozen 4
              have hl := R8.out.lt
              go_wp2
              refine bodyPost_ret (v := .tuple #[.agg #[.string ⟨#[]⟩, .int .i64 0, .int .i64 0, .int .i64 0, .slice none 0 0], .bool false]) (by simp [results, Tryd.results21, go_sem, y0, y1, y2, y3, y4, hl]) rfl ?_
              refine bell_badR HNO.out ?_
              (repeat refine Below.setCell ?_ (Nat.le_refl w.heap.size) _)
              with_reducible exact hbz
            · have q3 : bellText na m r d k (cutS p) (cutM p) = s := by rw [bellText, if_pos q1]; exact HT.out
              have HTX := Lib.hid (BellText_calls na m r d (some ⟨g7, 0, none⟩) k c7 (cutS p) (cutM p) w8 HSZ.out HROW8.out.row HSS.out (by omega) (HL.out.keep HB8.out).1)
              rw [q3] at HTX
              clear q3
              have x0 := (X8.out.cell 0).trans rfl
              have x1 := (X8.out.cell 1).trans rfl
              have x2 := (X8.out.cell 2).trans rfl
              have x3 := (X8.out.cell 3).trans rfl
              have x4 := (X8.out.cell 4).trans rfl
              go_wp2_with fail
              go_at_call 46
              refine HTX.out.mono ?_
              rintro e w9 ⟨rfl, hb9⟩
              have R9 := R8.out.keep hb9
              have X9 := X8.out.keep hb9
              have HROW9 := HROW8.out.keep hb9
              have hbz := HB8.out.trans (hb9.mono HB8.out.size)
              clear hb9 R8 X8 HB8 x0 x1 x2 x3 x4 HTX
              have y0 := (R9.cell 0).trans rfl
              have y1 := (R9.cell 1).trans rfl
              have y2 := (R9.cell 2).trans rfl
              have y3 := (R9.cell 3).trans rfl
              have y4 := (R9.cell 4).trans rfl
              have f0 := R9.frozen 0
              have f1 := R9.frozen 1
              have f2 := R9.frozen 2
              have f3 := R9.frozen 3
              have f4 := R9.frozen 4
              have hl := R9.lt
              have x0 := (X9.cell 0).trans rfl
              have x1 := (X9.cell 1).trans rfl
              have x2 := (X9.cell 2).trans rfl
              have x3 := (X9.cell 3).trans rfl
              have x4 := (X9.cell 4).trans rfl
              go_wp2
              refine bodyPost_ret (v := .tuple #[.agg #[.string na, .int .i64 m, .int .i64 r, .int .i64 d, .slice (some ⟨g7, 0, none⟩) k c7], .bool true]) (by simp [results, Tryd.results21, go_sem, y0, y1, y2, y3, y4, hl]) rfl ?_
              refine bell_goodR (HROW9.same (by repeat rw [heap_far hne7])) HF7.out hn1 q1 HT.out ?_
              (repeat refine Below.setCell ?_ (Nat.le_refl w.heap.size) _)
              with_reducible exact hbz
            · obtain ⟨TT, hTT⟩ : ∃ TT, TT = bellT na m r d k (cutS p) (cutM p) := ⟨_, rfl⟩
              have q3 : bellText na m r d k (cutS p) (cutM p) = TT := by rw [bellText, if_pos q1, hTT]
              have HTX := Lib.hid (BellText_calls na m r d (some ⟨g7, 0, none⟩) k c7 (cutS p) (cutM p) w8 HSZ.out HROW8.out.row HSS.out (by omega) (HL.out.keep HB8.out).1)
              rw [q3] at HTX
              have q4 : (TT.toList == s.toList) = false := toList_ne (by rw [hTT]; exact HNE.out)
              clear q3 hTT HNE
              have x0 := (X8.out.cell 0).trans rfl
              have x1 := (X8.out.cell 1).trans rfl
              have x2 := (X8.out.cell 2).trans rfl
              have x3 := (X8.out.cell 3).trans rfl
              have x4 := (X8.out.cell 4).trans rfl
              go_wp2_with fail
              go_at_call 46
              refine HTX.out.mono ?_
              rintro e w9 ⟨rfl, hb9⟩
              have R9 := R8.out.keep hb9
              have hbz := HB8.out.trans (hb9.mono HB8.out.size)
              clear hb9 R8 X8 HB8 x0 x1 x2 x3 x4 HTX
              have y0 := (R9.cell 0).trans rfl
              have y1 := (R9.cell 1).trans rfl
              have y2 := (R9.cell 2).trans rfl
              have y3 := (R9.cell 3).trans rfl
              have y4 := (R9.cell 4).trans rfl
              have f0 := R9.frozen 0
              have f1 := R9.frozen 1
              have f2 := R9.frozen 2
              have f3 := R9.frozen 3
              have f4 := R9.frozen 4
              have hl := R9.lt
              go_wp2
              refine bodyPost_ret (v := .tuple #[.agg #[.string ⟨#[]⟩, .int .i64 0, .int .i64 0, .int .i64 0, .slice none 0 0], .bool false]) (by simp [results, Tryd.results21, go_sem, y0, y1, y2, y3, y4, hl]) rfl ?_
              refine bell_badR HNO.out ?_
              (repeat refine Below.setCell ?_ (Nat.le_refl w.heap.size) _)
              with_reducible exact hbz
  · have HNO := Lib.hid (bell_no1 (s := s) (by rw [hl]; exact h2))
    have h3 : ((l.length : Int) != 3) = true := by simp; omega
    have h4 : ((l.length : Int) == 3) = false := by apply beq_eq_false_iff_ne.2; omega
    clear hl
    go_enter Tryd.func21, Tryd.ntmps21
    go_wp2_with fail
    go_at_call 44
    refine (HS1.out _ HAL.out).mono ?_
    rintro e w1 ⟨g, cap, rfl, hg, htx, hb1⟩
    have R2 := HY.out.keep hb1
    have hbz := HAL.out.trans (hb1.mono HAL.out.size)
    clear htx hb1
    have y0 := (R2.cell 0).trans rfl
    have y1 := (R2.cell 1).trans rfl
    have y2 := (R2.cell 2).trans rfl
    have y3 := (R2.cell 3).trans rfl
    have y4 := (R2.cell 4).trans rfl
    have f0 := R2.frozen 0
    have f1 := R2.frozen 1
    have f2 := R2.frozen 2
    have f3 := R2.frozen 3
    have f4 := R2.frozen 4
    have hl := R2.lt
    go_wp2
    refine bodyPost_ret (v := .tuple #[.agg #[.string ⟨#[]⟩, .int .i64 0, .int .i64 0, .int .i64 0, .slice none 0 0], .bool false]) (by simp [results, Tryd.results21, go_sem, y0, y1, y2, y3, y4, hl]) rfl ?_
    refine bell_badR HNO.out ?_
    (repeat refine Below.setCell ?_ (Nat.le_refl w.heap.size) _)
    with_reducible exact hbz
end Go.Proofs.YtflhkldfhndafaaDoor
