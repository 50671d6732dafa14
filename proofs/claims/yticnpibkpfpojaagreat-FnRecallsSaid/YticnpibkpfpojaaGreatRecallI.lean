/- Bells with an ingot, in the program and in the reference. -/
import Derived.Test.YticnpibkpfpojaaGreatIngots2
import Derived.Deep.RegionHeld3
namespace Go.Proofs.YticnpibkpfpojaaGreat
set_option linter.unusedVariables false
set_option linter.unusedSimpArgs false
open Go.RowKit Go.Sort


/-- a bell's ingots, in order -/
def ingL (g : Nat → MeltV) (m : Nat) (x : BellV) : List (List UInt8) := putAll [] (catL (gsOf g m x) x.n)
def hasI (R : List (List UInt8)) (id : ByteArray) : Bool := anyB (fun i => id.toList == (sl R i).toList) R.length
theorem ingL_len {g : Nat → MeltV} {m : Nat} {x : BellV} (h : BellIn g m x) : (ingL g m x).length ≤ 64 := by
  have h3 := catL_len (gs := gsOf g m x) (n := x.n) (fun k hk => by unfold gsOf; rw [nmL_len]; exact (h.at_ k hk).2.2.2.2)
  have h4 := putAll_len (catL (gsOf g m x) x.n) []
  have := h.n4
  unfold ingL
  simp at h4
  omega
theorem ingL_one {g : Nat → MeltV} {m : Nat} {x : BellV} {i j : Nat} (hi : i < (ingL g m x).length) (hj : j < (ingL g m x).length) (h : (sl (ingL g m x) i).toList = (sl (ingL g m x) j).toList) : i = j := by
  have hs : (ingL g m x).Pairwise RB := putAll_sorted _ List.Pairwise.nil
  unfold sl at h
  rw [toL, toL, List.getElem?_eq_getElem hi, List.getElem?_eq_getElem hj] at h
  have h2 : (ingL g m x)[i] = (ingL g m x)[j] := by simpa using h
  rcases Nat.lt_trichotomy i j with h3 | h3 | h3
  · have := (List.pairwise_iff_getElem.1 hs) i j hi hj h3
    rw [h2] at this
    exact absurd this (rb_irrefl _)
  · exact h3
  · have := (List.pairwise_iff_getElem.1 hs) j i hj hi h3
    rw [h2] at this
    exact absurd this (rb_irrefl _)
set_option maxRecDepth 20000 in
set_option maxHeartbeats 4000000 in
theorem recallI1_calls (g1 g2 : Nat) (id : ByteArray) (B : Option Addr) (m d : Nat) (g : Nat → MeltV) (s : ByteArray) (no ma fe : Int) (A : Option Addr) (n c : Nat) (ss : Nat → ByteArray) (ms : Nat → Int) (w : World) (hx1 : w.cell? ⟨g1, 0, none⟩ = some (.slice B m d)) (hx2 : w.cell? ⟨g2, 0, none⟩ = some (.string id)) (h2 : MeltRow w B m g) (hm : m ≤ 1048576) (hs : Srt (fun q => (g q).id) m) (h : ShareRow w A n ss ms) (hin : BellIn g m ⟨s, no, ma, fe, n, ss, ms⟩) :
    Calls Tryz.prog 33 #[.agg #[.string s, .int .i64 no, .int .i64 ma, .int .i64 fe, .slice A n c], .pointer (some ⟨g1, 0, none⟩), .pointer (some ⟨g2, 0, none⟩)] w fun e w' => e = .returned (.bool (hasI (ingL g m ⟨s, no, ma, fe, n, ss, ms⟩) id)) ∧ Below w.heap.size w w' := by
  have hal := (Below.refl w.heap.size w).alloc (Nat.le_refl _) (.cells #[.string s, .int .i64 no, .int .i64 ma, .int .i64 fe, .slice A n c] 37)
  have HX := Lib.hid (Blk.new w 37 #[.string s, .int .i64 no, .int .i64 ma, .int .i64 fe, .slice A n c])
  have HAL := Lib.hid hal
  have H := Lib.hid h
  have HM := Lib.hid h2
  have HS := Lib.hid hs
  have HIN := Lib.hid hin
  have hlen := ingL_len hin
  have H1 := Lib.hid hx1
  have H2 := Lib.hid hx2
  have hg1 := cell_lt hx1
  have hg2 := cell_lt hx2
  clear hal h h2 hs hin
  go_enter Tryz.func33, Tryz.ntmps33
  go_wp2_with fail
  clear hx1 hx2
  refine wp_gen (fun W0 hW0 => ?_)
  have s0_ : Below w.heap.size w W0 := by rw [hW0]; exact HAL.out
  have s1_ : W0.cell? ⟨g1, 0, none⟩ = some (.slice B m d) := by rw [hW0]; exact cell_keep HAL.out H1.out
  have s2_ : W0.cell? ⟨g2, 0, none⟩ = some (.string id) := by rw [hW0]; exact cell_keep HAL.out H2.out
  have s3_ : Blk W0 w.heap.size 37 #[.string s, .int .i64 no, .int .i64 ma, .int .i64 fe, .slice A n c] := by rw [hW0]; exact HX.out
  have s4_ : W0.cell? ⟨w.heap.size, 0, none⟩ = some (.string s) := (s3_.cell 0).trans rfl
  have s5_ : W0.cell? ⟨w.heap.size, 1, none⟩ = some (.int .i64 no) := (s3_.cell 1).trans rfl
  have s6_ : W0.cell? ⟨w.heap.size, 2, none⟩ = some (.int .i64 ma) := (s3_.cell 2).trans rfl
  have s7_ : W0.cell? ⟨w.heap.size, 3, none⟩ = some (.int .i64 fe) := (s3_.cell 3).trans rfl
  have s8_ : W0.cell? ⟨w.heap.size, 4, none⟩ = some (.slice A n c) := (s3_.cell 4).trans rfl
  clear hW0
  refine wp_region_held_drew (S := fun w' => Below w.heap.size w w' ∧ w'.cell? ⟨g1, 0, none⟩ = some (.slice B m d) ∧ w'.cell? ⟨g2, 0, none⟩ = some (.string id) ∧ Blk w' w.heap.size 37 #[.string s, .int .i64 no, .int .i64 ma, .int .i64 fe, .slice A n c] ∧ w'.cell? ⟨w.heap.size, 0, none⟩ = some (.string s) ∧ w'.cell? ⟨w.heap.size, 1, none⟩ = some (.int .i64 no) ∧ w'.cell? ⟨w.heap.size, 2, none⟩ = some (.int .i64 ma) ∧ w'.cell? ⟨w.heap.size, 3, none⟩ = some (.int .i64 fe) ∧ w'.cell? ⟨w.heap.size, 4, none⟩ = some (.slice A n c)) (by kernel_rfl) ?_ (fun hHeld => ?_)
  · exact ⟨s0_.drew, s1_, s2_, s3_, s4_, s5_, s6_, s7_, s8_⟩
  clear s0_ s1_ s2_ s3_ s4_ s5_ s6_ s7_ s8_
  refine take_yes (i := 0) (d := 5) (v := ?_) _ rfl rfl (by kernel_rfl) (by kernel_rfl) (by kernel_rfl) (fun _ _ _ _ h => h) (by rfl) ?_ (by assumption) ?_
  rotate_left 1
  · ((intro w hSw; (try dsimp only at hSw); go_simp) <;> (try with_reducible rfl))
  (try simp only [Act.put, List.setIfInBounds_toArray, List.set_cons_zero, List.set_cons_succ])
  refine take_yes (i := 1) (d := 6) (v := ?_) _ rfl rfl (by kernel_rfl) (by kernel_rfl) (by kernel_rfl) (fun _ _ _ _ h => h) (by rfl) ?_ (by assumption) ?_
  rotate_left 1
  · ((intro w hSw; (try dsimp only at hSw); go_simp) <;> (try with_reducible rfl))
  (try simp only [Act.put, List.setIfInBounds_toArray, List.set_cons_zero, List.set_cons_succ])
  refine take_yes (i := 3) (d := 8) (v := ?_) _ rfl rfl (by kernel_rfl) (by kernel_rfl) (by kernel_rfl) (fun _ _ _ _ h => h) (by rfl) ?_ (by assumption) ?_
  rotate_left 1
  · ((intro w hSw; (try dsimp only at hSw); go_simp) <;> (try with_reducible rfl))
  (try simp only [Act.put, List.setIfInBounds_toArray, List.set_cons_zero, List.set_cons_succ])
  (refine wpAnyH_ready (rs := [2]) (by kernel_rfl) (by simp) ?_; refine AllReadyH.cons rfl (fun K hK => ?_) AllReadyH.nil; go_simp; go_at_call 26; refine (ingotsOf_calls B m d g s no ma fe A n c ss ms _ (HM.out.keep (And.left hHeld)) hm HS.out (ShareRow.keep H.out (And.left hHeld)) HIN.out).mono ?_; rintro e wd ⟨v, rfl, A', c', G, rfl, hio, hG, hb⟩; refine hK.out _ _ (by obtain ⟨x0_, x1_, x2_, x3_, x4_, x5_, x6_, x7_, x8_⟩ := hHeld; exact ⟨x0_.trans (hb.mono x0_.size), cell_keep hb x1_, cell_keep hb x2_, x3_.keep hb, cell_keep hb x4_, cell_keep hb x5_, cell_keep hb x6_, cell_keep hb x7_, cell_keep hb x8_⟩) (fun hHeld2 => ?_); clear hK K hHeld hb; have hHeld := hHeld2; clear hHeld2; (try simp only [Act.put, List.setIfInBounds_toArray, List.set_cons_zero, List.set_cons_succ]))
  (refine wpAnyH_ready (rs := [4]) (by kernel_rfl) (by simp) ?_; refine AllReadyH.cons rfl (fun K hK => ?_) AllReadyH.nil; go_simp; go_at_call 34; refine (containsS_calls _ _ _ _ _ _ hio.row (Nat.le_trans hlen (by omega))).mono ?_; rintro e wd ⟨rfl, rfl⟩; refine hK.out _ _ (by assumption) (fun hHeld2 => ?_); clear hK K hHeld; have hHeld := hHeld2; clear hHeld2; (try simp only [Act.put, List.setIfInBounds_toArray, List.set_cons_zero, List.set_cons_succ]))
  refine take_yes (i := 5) (d := 4) (v := ?_) _ rfl rfl (by kernel_rfl) (by kernel_rfl) (by kernel_rfl) (fun _ _ _ _ h => h) (by rfl) ?_ (by assumption) ?_
  rotate_left 1
  · ((intro w hSw; (try dsimp only at hSw); go_simp) <;> (try with_reducible rfl))
  (try simp only [Act.put, List.setIfInBounds_toArray, List.set_cons_zero, List.set_cons_succ])
  refine wpAnyH_done (by kernel_rfl) ?_ _
  obtain ⟨z0, z1, z2, z3, z4, z5, z6, z7, z8⟩ := hHeld
  go_wp2
  go_ret
  exact ⟨rfl, z0⟩
set_option maxRecDepth 20000 in
set_option maxHeartbeats 4000000 in
theorem recalledI (A : Option Addr) (n c : Nat) (f : Nat → BellV) (p : Nat → Bool) (g1 g2 : Nat) (w : World) (h : BellRow w A n f) (hn : n ≤ 1048576) (hp : ∀ k W AK CK, k < n → Below w.heap.size w W → ShareRow W AK (f k).n (f k).ss (f k).ms → Calls Tryz.prog 33 #[.agg #[.string (f k).id, .int .i64 (f k).no, .int .i64 (f k).ma, .int .i64 (f k).fe, .slice AK (f k).n CK], .pointer (some ⟨g1, 0, none⟩), .pointer (some ⟨g2, 0, none⟩)] W fun e w' => e = .returned (.bool (p k)) ∧ Below W.heap.size W w') :
    Calls Tryz.prog 21 #[.slice A n c, .func (.func 33) #[] #[.pointer (some ⟨g1, 0, none⟩), .pointer (some ⟨g2, 0, none⟩)]] w fun e w' => ∃ v, e = .returned v ∧ StrsOut w (selL p (fun i => (f i).id) n).length (selS p (fun i => (f i).id) n) v w' := by
  obtain ⟨i0, hi, hz0, hz1, hz2⟩ := info_parts Str_info
  have H := Lib.hid h
  have HP := Lib.hid hp
  clear h hp
  go_enter Tryz.func21, Tryz.ntmps21
  go_wp2
  go_loopw [5, 10] (fun v i wr => ∃ k : Nat, k ≤ n ∧ i = .int .i64 k ∧ Hid (wr.ownsRow w.heap.size 9 1 v (selL p (fun i => (f i).id) k).length (selV p (fun i => (f i).id) k)) ∧ Below w.heap.size w wr) (fun _ i _ => n - (intOf i).toNat)
  case atStart => exact ⟨0, by omega, rfl, Lib.hid (World.ownsRow_nil _ _ _ _), Below.refl _ _⟩
  case round =>
    obtain ⟨k, hk, rfl, hown, hbr⟩ := hrel
    have hll := selL_len p (fun i => (f i).id) k
    by_cases hlt : k < n
    · obtain ⟨b, o, rfl, hrow⟩ := H.out (by omega)
      obtain ⟨AK, CK, c0, c1, c2, c3, c4, c5⟩ := (hrow k hlt).keep hbr
      have HR := Lib.hid hrow
      have C5 := Lib.hid c5
      clear hrow c5
      go_wp2_with fail
      go_at_call 33
      have hal := (Below.refl wr.heap.size wr).alloc (Nat.le_refl _) (.cells #[.string (f k).id, .int .i64 (f k).no, .int .i64 (f k).ma, .int .i64 (f k).fe, .slice AK (f k).n CK] 37)
      refine (HP.out k _ AK CK hlt (hbr.trans (hal.mono hbr.size)) (C5.out.keep hal)).mono ?_
      rintro e w1 ⟨rfl, hb0⟩
      have hb := hal.trans (hb0.mono hal.size)
      have own1 := Lib.hid (own_keep hown.out hb)
      have br1 := Lib.hid (hbr.trans (hb.mono hbr.size))
      have x0 := (((Blk.new wr 37 #[.string (f k).id, .int .i64 (f k).no, .int .i64 (f k).ma, .int .i64 (f k).fe, .slice AK (f k).n CK]).keep hb0).cell 0).trans rfl
      have sz1 := hb.size
      clear hb hb0 hal c0 c1 c2 c3 c4 hbr hown
      cases q1 : p k
      · go_wp2
        go_roundw
        case rel => exact ⟨k + 1, by omega, by go_num, Lib.hid (by rw [selL_no q1, selV_no q1]; exact own1.out), br1.out⟩
        case measure => simp [intOf]; omega
      · go_wp2_with (at_builtin; refine wpList_append_own _ rfl _ _ 32 rfl w.heap.size 9 i0 (.string ⟨#[]⟩) 1 16 Tryz.underlying32 hi hz0 hz1 hz2 rfl (by decide) _ _ _ rfl (own1.out.alloc _) ⟨w1.heap.size, 0, none⟩ 1 1 [.string (f k).id] rfl rfl (fun j u hj => by match j, hj with | 0, hj => simp at hj; subst hj; simp [Addr.add]) (fun u hu => by simp at hu; subst hu; rfl) (by unfold maxLen; omega) (by omega) (by have := br1.out.size; simp; omega) ?_; intro v' w2 hown' hgrow _; have hb2 := below_append br1.out br1.out.size own1.out hgrow; rw [← selV_yes (s := (fun i => (f i).id)) q1] at hown'; have HOWN := Lib.hid hown'; have HB2 := Lib.hid hb2; clear hown' hgrow hb2)
        go_roundw
        case rel => exact ⟨k + 1, by omega, by go_num, Lib.hid (by rw [selL_yes q1, List.length_append]; exact HOWN.out), HB2.out⟩
        case measure => simp [intOf]; omega
    · obtain rfl : k = n := by omega
      obtain ⟨A', c', G, rfl, hio, hG⟩ := strOwn_of (s := selS p (fun i => (f i).id) k) (sel_strs p (fun i => (f i).id) k ▸ hown.out) hbr.size
      have HIO := Lib.hid hio
      clear hio
      go_wp2
      go_ret
      exact ⟨_, rfl, A', c', G, rfl, HIO.out, hG, hbr⟩
noncomputable def riN (g : Nat → MeltV) (m : Nat) (f : Nat → BellV) (n : Nat) (id : ByteArray) : Nat := if askC g m f n = 0 then (selL (fun i => hasI (ingL g m (f i)) id) (fun i => (f i).id) n).length else 0
def riS (g : Nat → MeltV) (m : Nat) (f : Nat → BellV) (n : Nat) (id : ByteArray) : Nat → ByteArray := selS (fun i => hasI (ingL g m (f i)) id) (fun i => (f i).id) n
theorem riN_le (g : Nat → MeltV) (m : Nat) (f : Nat → BellV) (n : Nat) (id : ByteArray) : riN g m f n id ≤ n := by
  unfold riN
  split
  · exact selL_len _ _ _
  · omega
theorem ask_all {g : Nat → MeltV} {m : Nat} {f : Nat → BellV} {n : Nat} (h : askC g m f n = 0) : okMelts g m = true ∧ okBells f n = true ∧ allKnown (fun q => (g q).id) m f n = true := by
  unfold askC at h
  split at h
  · rename_i h1
    simp only [Bool.and_eq_true] at h1
    split at h
    · rename_i h2; exact ⟨h1.1, h1.2, h2⟩
    · omega
  · omega
theorem ask_in {g : Nat → MeltV} {m : Nat} {f : Nat → BellV} {n : Nat} (h : askC g m f n = 0) : ∀ i, i < n → BellIn g m (f i) := fun i hi => by
  obtain ⟨h1, h2, h3⟩ := ask_all h
  unfold okBells bellsOk at h2
  simp only [Bool.and_eq_true] at h2
  have h4 := allB_of h2.1 i hi
  unfold goodAt at h4
  simp only [Bool.and_eq_true] at h4
  exact bellIn_of h1 h4.1 (allB_of h3 i hi)
theorem strsNone2 (w w' : World) (s : Nat → ByteArray) (hb : Below w.heap.size w w') : StrsOut w 0 s (.slice none 0 0) w' := strsNone w w' s hb
set_option maxRecDepth 20000 in
set_option maxHeartbeats 8000000 in
theorem RecallIngot_calls (B : Option Addr) (m d : Nat) (g : Nat → MeltV) (A : Option Addr) (n c : Nat) (f : Nat → BellV) (id : ByteArray) (w : World) (h2 : MeltRow w B m g) (hm : m ≤ 1048576) (hd : m ≤ d) (hg : ∀ i, i < m → FineM (g i)) (h : BellRow w A n f) (hn : n ≤ 1048576) (hf : ∀ i, i < n → Fine (f i)) :
    Calls Tryz.prog 12 #[.slice B m d, .slice A n c, .string id] w fun e w' => ∃ v, e = .returned (.tuple #[v, .int .i64 (askC g m f n)]) ∧ StrsOut w (riN g m f n id) (riS g m f n id) v w' := by
  have hal := ((Below.refl w.heap.size w).alloc (Nat.le_refl _) (.cells #[.slice B m d] 25)).alloc (by simp) (.cells #[.string id] 9)
  have KK := Lib.hid hal
  have HP := Lib.hid ((Blk.new w 25 #[.slice B m d]).alloc (.cells #[.string id] 9))
  have HQ := Lib.hid (Blk.new2 w (.cells #[.slice B m d] 25) 9 #[.string id])
  have H := Lib.hid h
  have HM := Lib.hid h2
  have HF := Lib.hid hf
  have HG := Lib.hid hg
  have HFN := Lib.hid (show ∀ i, i < n → (f i).n ≤ 1048576 from fun i hi => (hf i hi).2.2)
  have hn2 : n ≤ maxLen := by unfold maxLen; omega
  clear h h2 hg hf hal
  cases q1 : okMelts g m
  · have e1 : askC g m f n = 1 := by simp [askC, q1]
    rw [show riN g m f n id = 0 by simp [riN, e1], e1]
    go_enter Tryz.func12, Tryz.ntmps12
    go_wp2_with (first | (go_at_call 32; refine (ValidMelts_calls B m d g _ (HM.out.keep KK.out) HG.out hm hd).mono ?_; rw [q1]; rintro e w2 ⟨rfl, hb⟩; have K2 := Lib.hid (KK.out.trans (hb.mono KK.out.size)); have P2 := HP.out.keep hb; have Q2 := HQ.out.keep hb; (try clear y0); have y0 := (P2.cell 0).trans rfl; replace HP := Lib.hid P2; replace HQ := Lib.hid Q2; clear KK hb P2 Q2; have KK := K2; clear K2) | (go_at_call 16; refine (ValidBells_calls A n c f _ (H.out.keep KK.out) HF.out hn2).mono ?_; rw [show (bellsOk f n && decide ((n : Int) ≤ 24)) = _ from q2]; rintro e w3 ⟨rfl, hb⟩; have K2 := Lib.hid (KK.out.trans (hb.mono KK.out.size)); have P2 := HP.out.keep hb; have Q2 := HQ.out.keep hb; (try clear y0); have y0 := (P2.cell 0).trans rfl; replace HP := Lib.hid P2; replace HQ := Lib.hid Q2; clear KK hb P2 Q2; have KK := K2; clear K2) | (go_at_call 18; refine (haveMelts_calls B m d g A n c f _ (HM.out.keep KK.out) hm HS.out (H.out.keep KK.out) hn HFN.out).mono ?_; rw [q3]; rintro e w4 ⟨rfl, hb⟩; have K2 := Lib.hid (KK.out.trans (hb.mono KK.out.size)); have P2 := HP.out.keep hb; have Q2 := HQ.out.keep hb; (try clear y0); have y0 := (P2.cell 0).trans rfl; replace HP := Lib.hid P2; replace HQ := Lib.hid Q2; clear KK hb P2 Q2; have KK := K2; clear K2))
    refine bodyPost_ret (v := .tuple #[.slice none 0 0, .int .i64 1]) (by simp [results, Tryz.results12, go_sem]) rfl ?_
    exact ⟨_, rfl, strsNone _ _ _ KK.out⟩
  · cases q2 : okBells f n
    · have e1 : askC g m f n = 1 := by simp [askC, q2]
      rw [show riN g m f n id = 0 by simp [riN, e1], e1]
      go_enter Tryz.func12, Tryz.ntmps12
      go_wp2_with (first | (go_at_call 32; refine (ValidMelts_calls B m d g _ (HM.out.keep KK.out) HG.out hm hd).mono ?_; rw [q1]; rintro e w2 ⟨rfl, hb⟩; have K2 := Lib.hid (KK.out.trans (hb.mono KK.out.size)); have P2 := HP.out.keep hb; have Q2 := HQ.out.keep hb; (try clear y0); have y0 := (P2.cell 0).trans rfl; replace HP := Lib.hid P2; replace HQ := Lib.hid Q2; clear KK hb P2 Q2; have KK := K2; clear K2) | (go_at_call 16; refine (ValidBells_calls A n c f _ (H.out.keep KK.out) HF.out hn2).mono ?_; rw [show (bellsOk f n && decide ((n : Int) ≤ 24)) = _ from q2]; rintro e w3 ⟨rfl, hb⟩; have K2 := Lib.hid (KK.out.trans (hb.mono KK.out.size)); have P2 := HP.out.keep hb; have Q2 := HQ.out.keep hb; (try clear y0); have y0 := (P2.cell 0).trans rfl; replace HP := Lib.hid P2; replace HQ := Lib.hid Q2; clear KK hb P2 Q2; have KK := K2; clear K2) | (go_at_call 18; refine (haveMelts_calls B m d g A n c f _ (HM.out.keep KK.out) hm HS.out (H.out.keep KK.out) hn HFN.out).mono ?_; rw [q3]; rintro e w4 ⟨rfl, hb⟩; have K2 := Lib.hid (KK.out.trans (hb.mono KK.out.size)); have P2 := HP.out.keep hb; have Q2 := HQ.out.keep hb; (try clear y0); have y0 := (P2.cell 0).trans rfl; replace HP := Lib.hid P2; replace HQ := Lib.hid Q2; clear KK hb P2 Q2; have KK := K2; clear K2))
      refine bodyPost_ret (v := .tuple #[.slice none 0 0, .int .i64 1]) (by simp [results, Tryz.results12, go_sem]) rfl ?_
      exact ⟨_, rfl, strsNone _ _ _ KK.out⟩
    · have HS := Lib.hid (okM_srt q1)
      cases q3 : allKnown (fun q => (g q).id) m f n
      · have e1 : askC g m f n = 3 := by simp [askC, q1, q2, q3]
        rw [show riN g m f n id = 0 by simp [riN, e1], e1]
        go_enter Tryz.func12, Tryz.ntmps12
        go_wp2_with (first | (go_at_call 32; refine (ValidMelts_calls B m d g _ (HM.out.keep KK.out) HG.out hm hd).mono ?_; rw [q1]; rintro e w2 ⟨rfl, hb⟩; have K2 := Lib.hid (KK.out.trans (hb.mono KK.out.size)); have P2 := HP.out.keep hb; have Q2 := HQ.out.keep hb; (try clear y0); have y0 := (P2.cell 0).trans rfl; replace HP := Lib.hid P2; replace HQ := Lib.hid Q2; clear KK hb P2 Q2; have KK := K2; clear K2) | (go_at_call 16; refine (ValidBells_calls A n c f _ (H.out.keep KK.out) HF.out hn2).mono ?_; rw [show (bellsOk f n && decide ((n : Int) ≤ 24)) = _ from q2]; rintro e w3 ⟨rfl, hb⟩; have K2 := Lib.hid (KK.out.trans (hb.mono KK.out.size)); have P2 := HP.out.keep hb; have Q2 := HQ.out.keep hb; (try clear y0); have y0 := (P2.cell 0).trans rfl; replace HP := Lib.hid P2; replace HQ := Lib.hid Q2; clear KK hb P2 Q2; have KK := K2; clear K2) | (go_at_call 18; refine (haveMelts_calls B m d g A n c f _ (HM.out.keep KK.out) hm HS.out (H.out.keep KK.out) hn HFN.out).mono ?_; rw [q3]; rintro e w4 ⟨rfl, hb⟩; have K2 := Lib.hid (KK.out.trans (hb.mono KK.out.size)); have P2 := HP.out.keep hb; have Q2 := HQ.out.keep hb; (try clear y0); have y0 := (P2.cell 0).trans rfl; replace HP := Lib.hid P2; replace HQ := Lib.hid Q2; clear KK hb P2 Q2; have KK := K2; clear K2))
        refine bodyPost_ret (v := .tuple #[.slice none 0 0, .int .i64 3]) (by simp [results, Tryz.results12, go_sem]) rfl ?_
        exact ⟨_, rfl, strsNone _ _ _ KK.out⟩
      · have e1 : askC g m f n = 0 := by simp [askC, q1, q2, q3]
        have HIN := Lib.hid (ask_in e1)
        rw [show riN g m f n id = (selL (fun i => hasI (ingL g m (f i)) id) (fun i => (f i).id) n).length by simp [riN, e1], e1]
        clear e1
        go_enter Tryz.func12, Tryz.ntmps12
        go_wp2_with (first | (go_at_call 32; refine (ValidMelts_calls B m d g _ (HM.out.keep KK.out) HG.out hm hd).mono ?_; rw [q1]; rintro e w2 ⟨rfl, hb⟩; have K2 := Lib.hid (KK.out.trans (hb.mono KK.out.size)); have P2 := HP.out.keep hb; have Q2 := HQ.out.keep hb; (try clear y0); have y0 := (P2.cell 0).trans rfl; replace HP := Lib.hid P2; replace HQ := Lib.hid Q2; clear KK hb P2 Q2; have KK := K2; clear K2) | (go_at_call 16; refine (ValidBells_calls A n c f _ (H.out.keep KK.out) HF.out hn2).mono ?_; rw [show (bellsOk f n && decide ((n : Int) ≤ 24)) = _ from q2]; rintro e w3 ⟨rfl, hb⟩; have K2 := Lib.hid (KK.out.trans (hb.mono KK.out.size)); have P2 := HP.out.keep hb; have Q2 := HQ.out.keep hb; (try clear y0); have y0 := (P2.cell 0).trans rfl; replace HP := Lib.hid P2; replace HQ := Lib.hid Q2; clear KK hb P2 Q2; have KK := K2; clear K2) | (go_at_call 18; refine (haveMelts_calls B m d g A n c f _ (HM.out.keep KK.out) hm HS.out (H.out.keep KK.out) hn HFN.out).mono ?_; rw [q3]; rintro e w4 ⟨rfl, hb⟩; have K2 := Lib.hid (KK.out.trans (hb.mono KK.out.size)); have P2 := HP.out.keep hb; have Q2 := HQ.out.keep hb; (try clear y0); have y0 := (P2.cell 0).trans rfl; replace HP := Lib.hid P2; replace HQ := Lib.hid Q2; clear KK hb P2 Q2; have KK := K2; clear K2) | (go_at_call 21; have HYY := Lib.hid ((HP.out.cell 0).trans rfl); have HZZ := Lib.hid ((HQ.out.cell 0).trans rfl); refine (recalledI A n c f (fun i => hasI (ingL g m (f i)) id) w.heap.size (w.heap.size + 1) _ (H.out.keep KK.out) hn (fun k W AK CK hk hb hsr => recallI1_calls _ _ id B m d g _ _ _ _ AK _ CK _ _ W (cell_keep hb HYY.out) (cell_keep hb HZZ.out) ((HM.out.keep KK.out).keep hb) hm HS.out hsr (HIN.out k hk))).mono ?_; rintro e w5 ⟨v, rfl, AO, cO, GO, rfl, ho, hG, hb⟩; have HO := Lib.hid ho; have HB9 := Lib.hid (KK.out.trans (hb.mono KK.out.size)); have hG9 := Nat.le_trans KK.out.size hG; clear ho hb hG))
        refine bodyPost_ret (v := .tuple #[.slice AO (selL (fun i => hasI (ingL g m (f i)) id) (fun i => (f i).id) n).length cO, .int .i64 0]) (by simp [results, Tryz.results12, go_sem]) rfl ?_
        exact ⟨_, rfl, AO, cO, GO, rfl, HO.out, hG9, HB9.out⟩
theorem snocM {w : World} {base e : Nat} {v : Value} {L : List ByteArray} {y : ByteArray} (h : w.ownsRow base e 1 v (L.length + 1) (L.map Value.string ++ [.string y])) : w.ownsRow base e 1 v (L ++ [y]).length ((L ++ [y]).map Value.string) := by
  rw [List.map_append, List.length_append]
  exact h
def mjL (L : List ByteArray) (b : Bool) (y : ByteArray) : List ByteArray := bif b then L ++ [y] else L
end Go.Proofs.YticnpibkpfpojaaGreat
