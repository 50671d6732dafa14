/- IngotsOf, in the program and in the reference. -/
import Derived.Test.YticnpibkpfpojaaGreatIngots
namespace Go.Proofs.YticnpibkpfpojaaGreat
set_option linter.unusedVariables false
open Go.RowKit Go.Sort

noncomputable def ioC (g : Nat → MeltV) (m : Nat) (x : BellV) : Int := if (okMelts g m && bellV x) = true then (if knownB (fun q => (g q).id) m x = true then 0 else 3) else 1
noncomputable def ioL (g : Nat → MeltV) (m : Nat) (x : BellV) : List (List UInt8) := if ioC g m x = 0 then putAll [] (catL (gsOf g m x) x.n) else []
theorem ioL_len {g : Nat → MeltV} {m : Nat} {x : BellV} : (ioL g m x).length ≤ 64 := by
  unfold ioL
  split
  · rename_i h
    unfold ioC at h
    split at h
    · rename_i h1
      split at h
      · rename_i h2
        simp only [Bool.and_eq_true] at h1
        have hb := bellIn_of h1.1 h1.2 h2
        have h3 := catL_len (gs := gsOf g m x) (n := x.n) (fun k hk => by unfold gsOf; rw [nmL_len]; exact (hb.at_ k hk).2.2.2.2)
        have h4 := putAll_len (catL (gsOf g m x) x.n) []
        have := hb.n4
        simp at h4
        omega
      · omega
    · omega
  · simp
theorem one_row {w : World} {G : Nat} {T : TypeId} {s : ByteArray} {no ma fe : Int} {A : Option Addr} {n c : Nat} {ss : Nat → ByteArray} {ms : Nat → Int} (h : Blk w G T #[.string s, .int .i64 no, .int .i64 ma, .int .i64 fe, .slice A n c]) (hr : ShareRow w A n ss ms) : BellRow w (some ⟨G, 0, none⟩) 1 (fun _ => ⟨s, no, ma, fe, n, ss, ms⟩) := fun _ =>
  ⟨G, 0, rfl, fun i hi => by
    obtain rfl : i = 0 := by omega
    exact ⟨A, c, (h.cell 0).trans rfl, (h.cell 1).trans rfl, (h.cell 2).trans rfl, (h.cell 3).trans rfl, (h.cell 4).trans rfl, hr⟩⟩
set_option maxRecDepth 20000 in
set_option maxHeartbeats 8000000 in
theorem oneBell_calls (B : Option Addr) (m d : Nat) (g : Nat → MeltV) (s : ByteArray) (no ma fe : Int) (A : Option Addr) (n c : Nat) (ss : Nat → ByteArray) (ms : Nat → Int) (w : World) (h2 : MeltRow w B m g) (hm : m ≤ 1048576) (hd : m ≤ d) (hg : ∀ i, i < m → FineM (g i)) (hs : s.size ≤ maxLen) (h : ShareRow w A n ss ms) (hss : ∀ i, i < n → (ss i).size ≤ maxLen) (hn : n ≤ 1048576) :
    Calls Tryz.prog 25 #[.slice B m d, .agg #[.string s, .int .i64 no, .int .i64 ma, .int .i64 fe, .slice A n c]] w fun e w' => e = .returned (.int .i64 (ioC g m ⟨s, no, ma, fe, n, ss, ms⟩)) ∧ Below w.heap.size w w' := by
  have H := Lib.hid h
  have HM := Lib.hid h2
  have HG := Lib.hid hg
  have HSS := Lib.hid hss
  have KK := Lib.hid ((Below.refl w.heap.size w).alloc (Nat.le_refl _) (.cells #[.string s, .int .i64 no, .int .i64 ma, .int .i64 fe, .slice A n c] 37))
  have HXX := Lib.hid (Blk.new w 37 #[.string s, .int .i64 no, .int .i64 ma, .int .i64 fe, .slice A n c])
  clear h h2 hg hss
  cases q1 : okMelts g m
  · rw [show ioC g m ⟨s, no, ma, fe, n, ss, ms⟩ = 1 by simp [ioC, q1]]
    go_enter Tryz.func25, Tryz.ntmps25
    go_wp2_with (first | (go_at_call 32; refine (ValidMelts_calls B m d g _ (HM.out.keep KK.out) HG.out hm hd).mono ?_; rw [q1]; rintro e w2 ⟨rfl, hb⟩; have K2 := Lib.hid (KK.out.trans (hb.mono KK.out.size)); have G2 := HXX.out.keep hb; (try clear y0 y1 y2 y3 y4); have y0 := (G2.cell 0).trans rfl; have y1 := (G2.cell 1).trans rfl; have y2 := (G2.cell 2).trans rfl; have y3 := (G2.cell 3).trans rfl; have y4 := (G2.cell 4).trans rfl; replace HXX := Lib.hid G2; clear G2; clear KK hb; have KK := K2; clear K2) | (go_at_call 39; refine (ValidBell_calls s no ma fe A n c ss ms _ hs (H.out.keep KK.out) HSS.out hn).mono ?_; rw [show bellB s no ma fe n ss ms = _ from q2]; rintro e w3 ⟨rfl, hb⟩; have K2 := Lib.hid (KK.out.trans (hb.mono KK.out.size)); have G2 := HXX.out.keep hb; (try clear y0 y1 y2 y3 y4); have y0 := (G2.cell 0).trans rfl; have y1 := (G2.cell 1).trans rfl; have y2 := (G2.cell 2).trans rfl; have y3 := (G2.cell 3).trans rfl; have y4 := (G2.cell 4).trans rfl; replace HXX := Lib.hid G2; clear G2; clear KK hb; have KK := K2; clear K2))
    go_ret
    exact ⟨rfl, KK.out⟩
  · cases q2 : bellV ⟨s, no, ma, fe, n, ss, ms⟩
    · rw [show ioC g m ⟨s, no, ma, fe, n, ss, ms⟩ = 1 by simp [ioC, q2]]
      go_enter Tryz.func25, Tryz.ntmps25
      go_wp2_with (first | (go_at_call 32; refine (ValidMelts_calls B m d g _ (HM.out.keep KK.out) HG.out hm hd).mono ?_; rw [q1]; rintro e w2 ⟨rfl, hb⟩; have K2 := Lib.hid (KK.out.trans (hb.mono KK.out.size)); have G2 := HXX.out.keep hb; (try clear y0 y1 y2 y3 y4); have y0 := (G2.cell 0).trans rfl; have y1 := (G2.cell 1).trans rfl; have y2 := (G2.cell 2).trans rfl; have y3 := (G2.cell 3).trans rfl; have y4 := (G2.cell 4).trans rfl; replace HXX := Lib.hid G2; clear G2; clear KK hb; have KK := K2; clear K2) | (go_at_call 39; refine (ValidBell_calls s no ma fe A n c ss ms _ hs (H.out.keep KK.out) HSS.out hn).mono ?_; rw [show bellB s no ma fe n ss ms = _ from q2]; rintro e w3 ⟨rfl, hb⟩; have K2 := Lib.hid (KK.out.trans (hb.mono KK.out.size)); have G2 := HXX.out.keep hb; (try clear y0 y1 y2 y3 y4); have y0 := (G2.cell 0).trans rfl; have y1 := (G2.cell 1).trans rfl; have y2 := (G2.cell 2).trans rfl; have y3 := (G2.cell 3).trans rfl; have y4 := (G2.cell 4).trans rfl; replace HXX := Lib.hid G2; clear G2; clear KK hb; have KK := K2; clear K2))
      go_ret
      exact ⟨rfl, KK.out⟩
    · have HS := Lib.hid (okM_srt q1)
      have hio : ioC g m ⟨s, no, ma, fe, n, ss, ms⟩ = if knownB (fun q => (g q).id) m ⟨s, no, ma, fe, n, ss, ms⟩ = true then 0 else 3 := by simp [ioC, q1, q2]
      rw [hio]
      have hall : allKnown (fun q => (g q).id) m (fun _ => ⟨s, no, ma, fe, n, ss, ms⟩) 1 = knownB (fun q => (g q).id) m ⟨s, no, ma, fe, n, ss, ms⟩ := by simp [allKnown, allB]
      have HALL := Lib.hid hall
      clear hio hall
      cases q3 : knownB (fun q => (g q).id) m ⟨s, no, ma, fe, n, ss, ms⟩
      all_goals
        rw [q3] at HALL
        go_enter Tryz.func25, Tryz.ntmps25
        go_wp2_with (first | (go_at_call 32; refine (ValidMelts_calls B m d g _ (HM.out.keep KK.out) HG.out hm hd).mono ?_; rw [q1]; rintro e w2 ⟨rfl, hb⟩; have K2 := Lib.hid (KK.out.trans (hb.mono KK.out.size)); have G2 := HXX.out.keep hb; (try clear y0 y1 y2 y3 y4); have y0 := (G2.cell 0).trans rfl; have y1 := (G2.cell 1).trans rfl; have y2 := (G2.cell 2).trans rfl; have y3 := (G2.cell 3).trans rfl; have y4 := (G2.cell 4).trans rfl; replace HXX := Lib.hid G2; clear G2; clear KK hb; have KK := K2; clear K2) | (go_at_call 39; refine (ValidBell_calls s no ma fe A n c ss ms _ hs (H.out.keep KK.out) HSS.out hn).mono ?_; rw [show bellB s no ma fe n ss ms = _ from q2]; rintro e w3 ⟨rfl, hb⟩; have K2 := Lib.hid (KK.out.trans (hb.mono KK.out.size)); have G2 := HXX.out.keep hb; (try clear y0 y1 y2 y3 y4); have y0 := (G2.cell 0).trans rfl; have y1 := (G2.cell 1).trans rfl; have y2 := (G2.cell 2).trans rfl; have y3 := (G2.cell 3).trans rfl; have y4 := (G2.cell 4).trans rfl; replace HXX := Lib.hid G2; clear G2; clear KK hb; have KK := K2; clear K2) | (go_at_call 18; have hal := KK.out.alloc KK.out.size (.cells #[.string s, .int .i64 no, .int .i64 ma, .int .i64 fe, .slice A n c] 37); refine (haveMelts_calls B m d g _ 1 1 (fun _ => ⟨s, no, ma, fe, n, ss, ms⟩) _ (HM.out.keep hal) hm HS.out (one_row (Blk.new _ _ _) (ShareRow.keep H.out hal)) (by omega) (fun _ _ => hn)).mono ?_; rw [HALL.out]; rintro e w4 ⟨rfl, hb⟩; have K2 := Lib.hid (hal.trans (hb.mono hal.size)); clear KK hb hal; have KK := K2; clear K2))
        go_ret
        exact ⟨rfl, KK.out⟩
theorem txtNone (w w' : World) (hb : Below w.heap.size w w') : TxtOut w [] (.slice none 0 0) w' := ⟨none, 0, w.heap.size, rfl, fun h => absurd h (Nat.lt_irrefl _), Nat.le_refl _, hb⟩
set_option maxRecDepth 20000 in
set_option maxHeartbeats 8000000 in
theorem IngotsOf_calls (B : Option Addr) (m d : Nat) (g : Nat → MeltV) (s : ByteArray) (no ma fe : Int) (A : Option Addr) (n c : Nat) (ss : Nat → ByteArray) (ms : Nat → Int) (w : World) (h2 : MeltRow w B m g) (hm : m ≤ 1048576) (hd : m ≤ d) (hg : ∀ i, i < m → FineM (g i)) (hs : s.size ≤ maxLen) (h : ShareRow w A n ss ms) (hss : ∀ i, i < n → (ss i).size ≤ maxLen) (hn : n ≤ 1048576) :
    Calls Tryz.prog 9 #[.slice B m d, .agg #[.string s, .int .i64 no, .int .i64 ma, .int .i64 fe, .slice A n c]] w fun e w' => ∃ v, e = .returned (.tuple #[v, .int .i64 (ioC g m ⟨s, no, ma, fe, n, ss, ms⟩)]) ∧ TxtOut w (ioL g m ⟨s, no, ma, fe, n, ss, ms⟩) v w' := by
  have H := Lib.hid h
  have HM := Lib.hid h2
  have HG := Lib.hid hg
  have HSS := Lib.hid hss
  have KK := Lib.hid ((Below.refl w.heap.size w).alloc (Nat.le_refl _) (.cells #[.string s, .int .i64 no, .int .i64 ma, .int .i64 fe, .slice A n c] 37))
  have HXX := Lib.hid (Blk.new w 37 #[.string s, .int .i64 no, .int .i64 ma, .int .i64 fe, .slice A n c])
  clear h h2 hg hss
  by_cases h0 : ioC g m ⟨s, no, ma, fe, n, ss, ms⟩ = 0
  · have hl : ioL g m ⟨s, no, ma, fe, n, ss, ms⟩ = putAll [] (catL (gsOf g m ⟨s, no, ma, fe, n, ss, ms⟩) n) := by simp [ioL, h0]
    rw [hl, h0]
    have hio := h0
    have hk : okMelts g m = true ∧ bellV ⟨s, no, ma, fe, n, ss, ms⟩ = true ∧ knownB (fun q => (g q).id) m ⟨s, no, ma, fe, n, ss, ms⟩ = true := by
      unfold ioC at h0
      split at h0
      · rename_i h1
        simp only [Bool.and_eq_true] at h1
        split at h0
        · rename_i h3; exact ⟨h1.1, h1.2, h3⟩
        · omega
      · omega
    have HIN := Lib.hid (bellIn_of hk.1 hk.2.1 hk.2.2)
    have HS := Lib.hid (okM_srt hk.1)
    obtain ⟨R, hR⟩ : ∃ R, R = putAll [] (catL (gsOf g m ⟨s, no, ma, fe, n, ss, ms⟩) n) := ⟨_, rfl⟩
    rw [← hR]
    have HRR := Lib.hid hR
    clear hR hl h0 hk
    go_enter Tryz.func9, Tryz.ntmps9
    go_wp2_with (first | (go_at_call 25; refine (oneBell_calls B m d g s no ma fe A n c ss ms _ (HM.out.keep KK.out) hm hd HG.out hs (H.out.keep KK.out) HSS.out hn).mono ?_; rw [hio]; rintro e w2 ⟨rfl, hb⟩; have K2 := Lib.hid (KK.out.trans (hb.mono KK.out.size)); have G2 := HXX.out.keep hb; (try clear y0 y1 y2 y3 y4); have y0 := (G2.cell 0).trans rfl; have y1 := (G2.cell 1).trans rfl; have y2 := (G2.cell 2).trans rfl; have y3 := (G2.cell 3).trans rfl; have y4 := (G2.cell 4).trans rfl; replace HXX := Lib.hid G2; clear G2; clear KK hb; have KK := K2; clear K2) | (go_at_call 26; refine (ingotsOf_calls B m d g s no ma fe A n c ss ms _ (HM.out.keep KK.out) hm HS.out (H.out.keep KK.out) HIN.out).mono ?_; rw [← HRR.out]; rintro e w4 ⟨v, rfl, A', c', G, rfl, hio2, hG, hb⟩; have HO := Lib.hid hio2; have K2 := Lib.hid (KK.out.trans (hb.mono KK.out.size)); have hG2 := Nat.le_trans KK.out.size hG; clear hio2 hb hG))
    refine bodyPost_ret (v := .tuple #[.slice A' R.length c', .int .i64 0]) (by simp [results, Tryz.results9, go_sem]) rfl ?_
    exact ⟨_, rfl, A', c', G, rfl, HO.out, hG2, K2.out⟩
  · rw [show ioL g m ⟨s, no, ma, fe, n, ss, ms⟩ = [] by simp [ioL, h0]]
    obtain ⟨C, hio⟩ : ∃ C, ioC g m ⟨s, no, ma, fe, n, ss, ms⟩ = C := ⟨_, rfl⟩
    rw [hio] at h0 ⊢
    have hne : (C == 0) = false := by simpa using h0
    have HIO := Lib.hid hio
    clear hio
    go_enter Tryz.func9, Tryz.ntmps9
    go_wp2_with (go_at_call 25; refine (oneBell_calls B m d g s no ma fe A n c ss ms _ (HM.out.keep KK.out) hm hd HG.out hs (H.out.keep KK.out) HSS.out hn).mono ?_; rw [HIO.out]; rintro e w2 ⟨rfl, hb⟩; have K2 := Lib.hid (KK.out.trans (hb.mono KK.out.size)); have G2 := HXX.out.keep hb; (try clear y0 y1 y2 y3 y4); have y0 := (G2.cell 0).trans rfl; have y1 := (G2.cell 1).trans rfl; have y2 := (G2.cell 2).trans rfl; have y3 := (G2.cell 3).trans rfl; have y4 := (G2.cell 4).trans rfl; replace HXX := Lib.hid G2; clear G2; clear KK hb; have KK := K2; clear K2)
    refine bodyPost_ret (v := .tuple #[.slice none 0 0, .int .i64 C]) (by simp [results, Tryz.results9, go_sem]) rfl ?_
    exact ⟨_, rfl, txtNone _ _ KK.out⟩
end Go.Proofs.YticnpibkpfpojaaGreat
