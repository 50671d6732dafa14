/- IngotsOf, in the program and in the reference. -/
import Derived.Test.YtccjgeoebbnkoaaIngots
namespace Go.Proofs.Ytccjgeoebbnkoaa
set_option linter.unusedVariables false
open Go.RowKit Go.Sort

noncomputable def ioC (g : Nat → MeltV) (m : Nat) (x : BellV) : Int := if (okMelts g m && bellV x) = true then (if knownB (fun q => (g q).id) m x = true then 0 else 3) else 1
noncomputable def ioL (g : Nat → MeltV) (m : Nat) (x : BellV) : List (List UInt8) := if ioC g m x = 0 then putAll [] (catL (gsOf g m x) x.n) else []
theorem ioL_len {g : Nat → MeltV} {m : Nat} {x : BellV} : (ioL g m x).length ≤ 64 := by
  unfold ioL
  split
  · rename_i h
    unfold ioC at h
    split at h
    · rename_i h1
      split at h
      · rename_i h2
        simp only [Bool.and_eq_true] at h1
        have hb := bellIn_of h1.1 h1.2 h2
        have h3 := catL_len (gs := gsOf g m x) (n := x.n) (fun k hk => by unfold gsOf; rw [nmL_len]; exact (hb.at_ k hk).2.2.2.2)
        have h4 := putAll_len (catL (gsOf g m x) x.n) []
        have := hb.n4
        simp at h4
        omega
      · omega
    · omega
  · simp
theorem one_row {w : World} {G : Nat} {T : TypeId} {s : ByteArray} {no ma fe : Int} {A : Option Addr} {n c : Nat} {ss : Nat → ByteArray} {ms : Nat → Int} (h : Blk w G T #[.string s, .int .i64 no, .int .i64 ma, .int .i64 fe, .slice A n c]) (hr : ShareRow w A n ss ms) : BellRow w (some ⟨G, 0, none⟩) 1 (fun _ => ⟨s, no, ma, fe, n, ss, ms⟩) := fun _ =>
  ⟨G, 0, rfl, fun i hi => by
    obtain rfl : i = 0 := by omega
    exact ⟨A, c, (h.cell 0).trans rfl, (h.cell 1).trans rfl, (h.cell 2).trans rfl, (h.cell 3).trans rfl, (h.cell 4).trans rfl, hr⟩⟩
set_option maxRecDepth 20000 in
set_option maxHeartbeats 8000000 in
theorem oneBell_calls (B : Option Addr) (m d : Nat) (g : Nat → MeltV) (s : ByteArray) (no ma fe : Int) (A : Option Addr) (n c : Nat) (ss : Nat → ByteArray) (ms : Nat → Int) (w : World) (h2 : MeltRow w B m g) (hm : m ≤ 1048576) (hd : m ≤ d) (hg : ∀ i, i < m → FineM (g i)) (hs : s.size ≤ maxLen) (h : ShareRow w A n ss ms) (hss : ∀ i, i < n → (ss i).size ≤ maxLen) (hn : n ≤ 1048576) :
    Calls Try.prog 82 #[.slice B m d, .agg #[.string s, .int .i64 no, .int .i64 ma, .int .i64 fe, .slice A n c]] w fun e w' => e = .returned (.int .i64 (ioC g m ⟨s, no, ma, fe, n, ss, ms⟩)) ∧ Below w.heap.size w w' := by
  have H := Lib.hid h
  have HM := Lib.hid h2
  have HG := Lib.hid hg
  have HSS := Lib.hid hss
  have KK := Lib.hid ((Below.refl w.heap.size w).alloc (Nat.le_refl _) (.cells #[.string s, .int .i64 no, .int .i64 ma, .int .i64 fe, .slice A n c] 62))
  have HXX := Lib.hid (Blk.new w 62 #[.string s, .int .i64 no, .int .i64 ma, .int .i64 fe, .slice A n c])
  clear h h2 hg hss
  cases q1 : okMelts g m
  · rw [show ioC g m ⟨s, no, ma, fe, n, ss, ms⟩ = 1 by simp [ioC, q1]]
    go_enter Try.func82, Try.ntmps82
    go_wp2_with (first | (go_at_call 65; refine (ValidMelts_calls B m d g _ (HM.out.keep KK.out) HG.out hm hd).mono ?_; rw [q1]; rintro e w2 ⟨rfl, hb⟩; have K2 := Lib.hid (KK.out.trans (hb.mono KK.out.size)); have G2 := HXX.out.keep hb; (try clear y0 y1 y2 y3 y4); have y0 := (G2.cell 0).trans rfl; have y1 := (G2.cell 1).trans rfl; have y2 := (G2.cell 2).trans rfl; have y3 := (G2.cell 3).trans rfl; have y4 := (G2.cell 4).trans rfl; replace HXX := Lib.hid G2; clear G2; clear KK hb; have KK := K2; clear K2) | (go_at_call 96; refine (ValidBell_calls s no ma fe A n c ss ms _ hs (H.out.keep KK.out) HSS.out hn).mono ?_; rw [show bellB s no ma fe n ss ms = _ from q2]; rintro e w3 ⟨rfl, hb⟩; have K2 := Lib.hid (KK.out.trans (hb.mono KK.out.size)); have G2 := HXX.out.keep hb; (try clear y0 y1 y2 y3 y4); have y0 := (G2.cell 0).trans rfl; have y1 := (G2.cell 1).trans rfl; have y2 := (G2.cell 2).trans rfl; have y3 := (G2.cell 3).trans rfl; have y4 := (G2.cell 4).trans rfl; replace HXX := Lib.hid G2; clear G2; clear KK hb; have KK := K2; clear K2))
    go_ret
    exact ⟨rfl, KK.out⟩
  · cases q2 : bellV ⟨s, no, ma, fe, n, ss, ms⟩
    · rw [show ioC g m ⟨s, no, ma, fe, n, ss, ms⟩ = 1 by simp [ioC, q2]]
      go_enter Try.func82, Try.ntmps82
      go_wp2_with (first | (go_at_call 65; refine (ValidMelts_calls B m d g _ (HM.out.keep KK.out) HG.out hm hd).mono ?_; rw [q1]; rintro e w2 ⟨rfl, hb⟩; have K2 := Lib.hid (KK.out.trans (hb.mono KK.out.size)); have G2 := HXX.out.keep hb; (try clear y0 y1 y2 y3 y4); have y0 := (G2.cell 0).trans rfl; have y1 := (G2.cell 1).trans rfl; have y2 := (G2.cell 2).trans rfl; have y3 := (G2.cell 3).trans rfl; have y4 := (G2.cell 4).trans rfl; replace HXX := Lib.hid G2; clear G2; clear KK hb; have KK := K2; clear K2) | (go_at_call 96; refine (ValidBell_calls s no ma fe A n c ss ms _ hs (H.out.keep KK.out) HSS.out hn).mono ?_; rw [show bellB s no ma fe n ss ms = _ from q2]; rintro e w3 ⟨rfl, hb⟩; have K2 := Lib.hid (KK.out.trans (hb.mono KK.out.size)); have G2 := HXX.out.keep hb; (try clear y0 y1 y2 y3 y4); have y0 := (G2.cell 0).trans rfl; have y1 := (G2.cell 1).trans rfl; have y2 := (G2.cell 2).trans rfl; have y3 := (G2.cell 3).trans rfl; have y4 := (G2.cell 4).trans rfl; replace HXX := Lib.hid G2; clear G2; clear KK hb; have KK := K2; clear K2))
      go_ret
      exact ⟨rfl, KK.out⟩
    · have HS := Lib.hid (okM_srt q1)
      have hio : ioC g m ⟨s, no, ma, fe, n, ss, ms⟩ = if knownB (fun q => (g q).id) m ⟨s, no, ma, fe, n, ss, ms⟩ = true then 0 else 3 := by simp [ioC, q1, q2]
      rw [hio]
      have hall : allKnown (fun q => (g q).id) m (fun _ => ⟨s, no, ma, fe, n, ss, ms⟩) 1 = knownB (fun q => (g q).id) m ⟨s, no, ma, fe, n, ss, ms⟩ := by simp [allKnown, allB]
      have HALL := Lib.hid hall
      clear hio hall
      cases q3 : knownB (fun q => (g q).id) m ⟨s, no, ma, fe, n, ss, ms⟩
      all_goals
        rw [q3] at HALL
        go_enter Try.func82, Try.ntmps82
        go_wp2_with (first | (go_at_call 65; refine (ValidMelts_calls B m d g _ (HM.out.keep KK.out) HG.out hm hd).mono ?_; rw [q1]; rintro e w2 ⟨rfl, hb⟩; have K2 := Lib.hid (KK.out.trans (hb.mono KK.out.size)); have G2 := HXX.out.keep hb; (try clear y0 y1 y2 y3 y4); have y0 := (G2.cell 0).trans rfl; have y1 := (G2.cell 1).trans rfl; have y2 := (G2.cell 2).trans rfl; have y3 := (G2.cell 3).trans rfl; have y4 := (G2.cell 4).trans rfl; replace HXX := Lib.hid G2; clear G2; clear KK hb; have KK := K2; clear K2) | (go_at_call 96; refine (ValidBell_calls s no ma fe A n c ss ms _ hs (H.out.keep KK.out) HSS.out hn).mono ?_; rw [show bellB s no ma fe n ss ms = _ from q2]; rintro e w3 ⟨rfl, hb⟩; have K2 := Lib.hid (KK.out.trans (hb.mono KK.out.size)); have G2 := HXX.out.keep hb; (try clear y0 y1 y2 y3 y4); have y0 := (G2.cell 0).trans rfl; have y1 := (G2.cell 1).trans rfl; have y2 := (G2.cell 2).trans rfl; have y3 := (G2.cell 3).trans rfl; have y4 := (G2.cell 4).trans rfl; replace HXX := Lib.hid G2; clear G2; clear KK hb; have KK := K2; clear K2) | (go_at_call 66; have hal := KK.out.alloc KK.out.size (.cells #[.string s, .int .i64 no, .int .i64 ma, .int .i64 fe, .slice A n c] 62); refine (haveMelts_calls B m d g _ 1 1 (fun _ => ⟨s, no, ma, fe, n, ss, ms⟩) _ (HM.out.keep hal) hm HS.out (one_row (Blk.new _ _ _) (ShareRow.keep H.out hal)) (by omega) (fun _ _ => hn)).mono ?_; rw [HALL.out]; rintro e w4 ⟨rfl, hb⟩; have K2 := Lib.hid (hal.trans (hb.mono hal.size)); clear KK hb hal; have KK := K2; clear K2))
        go_ret
        exact ⟨rfl, KK.out⟩
theorem txtNone (w w' : World) (hb : Below w.heap.size w w') : TxtOut w [] (.slice none 0 0) w' := ⟨none, 0, w.heap.size, rfl, fun h => absurd h (Nat.lt_irrefl _), Nat.le_refl _, hb⟩
set_option maxRecDepth 20000 in
set_option maxHeartbeats 8000000 in
theorem IngotsOf_calls (B : Option Addr) (m d : Nat) (g : Nat → MeltV) (s : ByteArray) (no ma fe : Int) (A : Option Addr) (n c : Nat) (ss : Nat → ByteArray) (ms : Nat → Int) (w : World) (h2 : MeltRow w B m g) (hm : m ≤ 1048576) (hd : m ≤ d) (hg : ∀ i, i < m → FineM (g i)) (hs : s.size ≤ maxLen) (h : ShareRow w A n ss ms) (hss : ∀ i, i < n → (ss i).size ≤ maxLen) (hn : n ≤ 1048576) :
    Calls Try.prog 47 #[.slice B m d, .agg #[.string s, .int .i64 no, .int .i64 ma, .int .i64 fe, .slice A n c]] w fun e w' => ∃ v, e = .returned (.tuple #[v, .int .i64 (ioC g m ⟨s, no, ma, fe, n, ss, ms⟩)]) ∧ TxtOut w (ioL g m ⟨s, no, ma, fe, n, ss, ms⟩) v w' := by
  have H := Lib.hid h
  have HM := Lib.hid h2
  have HG := Lib.hid hg
  have HSS := Lib.hid hss
  have KK := Lib.hid ((Below.refl w.heap.size w).alloc (Nat.le_refl _) (.cells #[.string s, .int .i64 no, .int .i64 ma, .int .i64 fe, .slice A n c] 62))
  have HXX := Lib.hid (Blk.new w 62 #[.string s, .int .i64 no, .int .i64 ma, .int .i64 fe, .slice A n c])
  clear h h2 hg hss
  by_cases h0 : ioC g m ⟨s, no, ma, fe, n, ss, ms⟩ = 0
  · have hl : ioL g m ⟨s, no, ma, fe, n, ss, ms⟩ = putAll [] (catL (gsOf g m ⟨s, no, ma, fe, n, ss, ms⟩) n) := by simp [ioL, h0]
    rw [hl, h0]
    have hio := h0
    have hk : okMelts g m = true ∧ bellV ⟨s, no, ma, fe, n, ss, ms⟩ = true ∧ knownB (fun q => (g q).id) m ⟨s, no, ma, fe, n, ss, ms⟩ = true := by
      unfold ioC at h0
      split at h0
      · rename_i h1
        simp only [Bool.and_eq_true] at h1
        split at h0
        · rename_i h3; exact ⟨h1.1, h1.2, h3⟩
        · omega
      · omega
    have HIN := Lib.hid (bellIn_of hk.1 hk.2.1 hk.2.2)
    have HS := Lib.hid (okM_srt hk.1)
    obtain ⟨R, hR⟩ : ∃ R, R = putAll [] (catL (gsOf g m ⟨s, no, ma, fe, n, ss, ms⟩) n) := ⟨_, rfl⟩
    rw [← hR]
    have HRR := Lib.hid hR
    clear hR hl h0 hk
    go_enter Try.func47, Try.ntmps47
    go_wp2_with (first | (go_at_call 82; refine (oneBell_calls B m d g s no ma fe A n c ss ms _ (HM.out.keep KK.out) hm hd HG.out hs (H.out.keep KK.out) HSS.out hn).mono ?_; rw [hio]; rintro e w2 ⟨rfl, hb⟩; have K2 := Lib.hid (KK.out.trans (hb.mono KK.out.size)); have G2 := HXX.out.keep hb; (try clear y0 y1 y2 y3 y4); have y0 := (G2.cell 0).trans rfl; have y1 := (G2.cell 1).trans rfl; have y2 := (G2.cell 2).trans rfl; have y3 := (G2.cell 3).trans rfl; have y4 := (G2.cell 4).trans rfl; replace HXX := Lib.hid G2; clear G2; clear KK hb; have KK := K2; clear K2) | (go_at_call 101; refine (ingotsOf_calls B m d g s no ma fe A n c ss ms _ (HM.out.keep KK.out) hm HS.out (H.out.keep KK.out) HIN.out).mono ?_; rw [← HRR.out]; rintro e w4 ⟨v, rfl, A', c', G, rfl, hio2, hG, hb⟩; have HO := Lib.hid hio2; have K2 := Lib.hid (KK.out.trans (hb.mono KK.out.size)); have hG2 := Nat.le_trans KK.out.size hG; clear hio2 hb hG))
    refine bodyPost_ret (v := .tuple #[.slice A' R.length c', .int .i64 0]) (by simp [results, Try.results47, go_sem]) rfl ?_
    exact ⟨_, rfl, A', c', G, rfl, HO.out, hG2, K2.out⟩
  · rw [show ioL g m ⟨s, no, ma, fe, n, ss, ms⟩ = [] by simp [ioL, h0]]
    obtain ⟨C, hio⟩ : ∃ C, ioC g m ⟨s, no, ma, fe, n, ss, ms⟩ = C := ⟨_, rfl⟩
    rw [hio] at h0 ⊢
    have hne : (C == 0) = false := by simpa using h0
    have HIO := Lib.hid hio
    clear hio
    go_enter Try.func47, Try.ntmps47
    go_wp2_with (go_at_call 82; refine (oneBell_calls B m d g s no ma fe A n c ss ms _ (HM.out.keep KK.out) hm hd HG.out hs (H.out.keep KK.out) HSS.out hn).mono ?_; rw [HIO.out]; rintro e w2 ⟨rfl, hb⟩; have K2 := Lib.hid (KK.out.trans (hb.mono KK.out.size)); have G2 := HXX.out.keep hb; (try clear y0 y1 y2 y3 y4); have y0 := (G2.cell 0).trans rfl; have y1 := (G2.cell 1).trans rfl; have y2 := (G2.cell 2).trans rfl; have y3 := (G2.cell 3).trans rfl; have y4 := (G2.cell 4).trans rfl; replace HXX := Lib.hid G2; clear G2; clear KK hb; have KK := K2; clear K2)
    refine bodyPost_ret (v := .tuple #[.slice none 0 0, .int .i64 C]) (by simp [results, Try.results47, go_sem]) rfl ?_
    exact ⟨_, rfl, txtNone _ _ KK.out⟩
set_option maxRecDepth 20000 in
set_option maxHeartbeats 8000000 in
theorem sIngotsOf_calls (B : Option Addr) (m d : Nat) (g : Nat → MeltV) (s : ByteArray) (no ma fe : Int) (A : Option Addr) (n c : Nat) (ss : Nat → ByteArray) (ms : Nat → Int) (w : World) (h2 : MeltRow w B m g) (hm : m ≤ 1048576) (hg : ∀ i, i < m → FineM (g i)) (hs : s.size ≤ maxLen) (h : ShareRow w A n ss ms) (hss : ∀ i, i < n → (ss i).size ≤ maxLen) (hn : n ≤ 1048576) :
    Calls Try.prog 46 #[.slice B m d, .agg #[.string s, .int .i64 no, .int .i64 ma, .int .i64 fe, .slice A n c]] w fun e w' => ∃ v, e = .returned (.tuple #[v, .int .i64 (ioC g m ⟨s, no, ma, fe, n, ss, ms⟩)]) ∧ TxtOut w (ioL g m ⟨s, no, ma, fe, n, ss, ms⟩) v w' := by
  have hal := (Below.refl w.heap.size w).alloc (Nat.le_refl _) (.cells #[.string s, .int .i64 no, .int .i64 ma, .int .i64 fe, .slice A n c] 62)
  have HX := Blk.new w 62 #[.string s, .int .i64 no, .int .i64 ma, .int .i64 fe, .slice A n c]
  have hsr := ShareRow.keep h hal
  have HV1 := Lib.hid (l14Ok_calls B m d g (w.alloc (.cells #[.string s, .int .i64 no, .int .i64 ma, .int .i64 fe, .slice A n c] 62)) (h2.keep hal) hg hm)
  have HV2 := Lib.hid (fun q => sbell_calls w.heap.size 0 s no ma fe A n c ss ms ((w.alloc (.cells #[.string s, .int .i64 no, .int .i64 ma, .int .i64 fe, .slice A n c] 62)).drewN q) hs hsr hss hn ((HX.cell 0).trans rfl) ((HX.cell 1).trans rfl) ((HX.cell 2).trans rfl) ((HX.cell 3).trans rfl) ((HX.cell 4).trans rfl))
  have hat : BellAt (w.alloc (.cells #[.string s, .int .i64 no, .int .i64 ma, .int .i64 fe, .slice A n c] 62)) w.heap.size 0 ⟨s, no, ma, fe, n, ss, ms⟩ := ⟨A, c, (HX.cell 0).trans rfl, (HX.cell 1).trans rfl, (HX.cell 2).trans rfl, (HX.cell 3).trans rfl, (HX.cell 4).trans rfl, hsr⟩
  have HV3 := Lib.hid (fun q => l18Known_calls B m d g w.heap.size 0 ⟨s, no, ma, fe, n, ss, ms⟩ ((w.alloc (.cells #[.string s, .int .i64 no, .int .i64 ma, .int .i64 fe, .slice A n c] 62)).drewN q) (show MeltRow ((w.alloc (.cells #[.string s, .int .i64 no, .int .i64 ma, .int .i64 fe, .slice A n c] 62)).drewN q) B m g from (h2.keep hal : MeltRow (w.alloc (.cells #[.string s, .int .i64 no, .int .i64 ma, .int .i64 fe, .slice A n c] 62)) B m g)) hm (hat.drewN q) hn)
  have HAL := Lib.hid hal
  have H := Lib.hid h
  have HM := Lib.hid h2
  have HXX := Lib.hid HX
  clear h h2 hg hss hal HX hsr hat
  cases q1 : okMelts g m
  · have e1 : ioC g m ⟨s, no, ma, fe, n, ss, ms⟩ = 1 := by simp [ioC, q1]
    rw [show ioL g m ⟨s, no, ma, fe, n, ss, ms⟩ = [] by simp [ioL, e1], e1]
    rw [q1] at HV1
    go_enter Try.func46, Try.ntmps46
    go_wp2_with (first | (go_at_call 75; with_reducible refine HV1.out.mono ?_; rintro e w1 ⟨rfl, nd, rfl⟩) | (go_at_call 76; with_reducible refine (HV2.out _).mono ?_; rintro e w2 ⟨rfl, nd2, rfl⟩) | (go_at_call 77; with_reducible refine (HV3.out _).mono ?_; rintro e w3 ⟨rfl, rfl⟩))
    refine bodyPost_ret (v := .tuple #[.slice none 0 0, .int .i64 1]) (by simp [results, Try.results46, go_sem]) rfl ?_
    exact ⟨_, rfl, txtNone _ _ (below_drewN HAL.out _)⟩
  · rw [q1] at HV1
    cases q2 : bellV ⟨s, no, ma, fe, n, ss, ms⟩
    · have e1 : ioC g m ⟨s, no, ma, fe, n, ss, ms⟩ = 1 := by simp [ioC, q2]
      rw [show ioL g m ⟨s, no, ma, fe, n, ss, ms⟩ = [] by simp [ioL, e1], e1]
      rw [show bellB s no ma fe n ss ms = false from q2] at HV2
      go_enter Try.func46, Try.ntmps46
      go_wp2_with (first | (go_at_call 75; with_reducible refine HV1.out.mono ?_; rintro e w1 ⟨rfl, nd, rfl⟩) | (go_at_call 76; with_reducible refine (HV2.out _).mono ?_; rintro e w2 ⟨rfl, nd2, rfl⟩) | (go_at_call 77; with_reducible refine (HV3.out _).mono ?_; rintro e w3 ⟨rfl, rfl⟩))
      refine bodyPost_ret (v := .tuple #[.slice none 0 0, .int .i64 1]) (by simp [results, Try.results46, go_sem]) rfl ?_
      exact ⟨_, rfl, txtNone _ _ (below_drewN HAL.out _)⟩
    · rw [show bellB s no ma fe n ss ms = true from q2] at HV2
      cases q3 : knownB (fun q => (g q).id) m ⟨s, no, ma, fe, n, ss, ms⟩
      · have e1 : ioC g m ⟨s, no, ma, fe, n, ss, ms⟩ = 3 := by simp [ioC, q1, q2, q3]
        rw [show ioL g m ⟨s, no, ma, fe, n, ss, ms⟩ = [] by simp [ioL, e1], e1]
        rw [q3] at HV3
        go_enter Try.func46, Try.ntmps46
        go_wp2_with (first | (go_at_call 75; with_reducible refine HV1.out.mono ?_; rintro e w1 ⟨rfl, nd, rfl⟩) | (go_at_call 76; with_reducible refine (HV2.out _).mono ?_; rintro e w2 ⟨rfl, nd2, rfl⟩) | (go_at_call 77; with_reducible refine (HV3.out _).mono ?_; rintro e w3 ⟨rfl, rfl⟩))
        refine bodyPost_ret (v := .tuple #[.slice none 0 0, .int .i64 3]) (by simp [results, Try.results46, go_sem]) rfl ?_
        exact ⟨_, rfl, txtNone _ _ (below_drewN HAL.out _)⟩
      · have e1 : ioC g m ⟨s, no, ma, fe, n, ss, ms⟩ = 0 := by simp [ioC, q1, q2, q3]
        have hin := bellIn_of q1 q2 q3
        obtain ⟨gs, hgs⟩ : ∃ gs, gs = gsOf g m ⟨s, no, ma, fe, n, ss, ms⟩ := ⟨_, rfl⟩
        rw [show ioL g m ⟨s, no, ma, fe, n, ss, ms⟩ = putAll [] (catL gs n) by simp [ioL, e1, hgs], e1]
        rw [q3] at HV3
        have HGL : Hid (∀ k, k < n → (gs k).length ≤ 16) := Lib.hid fun k hk => by rw [hgs]; unfold gsOf; rw [nmL_len]; exact (hin.at_ k hk).2.2.2.2
        have hn4 : n ≤ 4 := hin.n4
        have HGS := Lib.hid hgs
        have HIN := Lib.hid hin
        clear e1 hin hgs q1 q2 q3
        go_enter Try.func46, Try.ntmps46
        go_wp2_with (first | (go_at_call 75; with_reducible refine HV1.out.mono ?_; rintro e w1 ⟨rfl, nd, rfl⟩) | (go_at_call 76; with_reducible refine (HV2.out _).mono ?_; rintro e w2 ⟨rfl, nd2, rfl⟩) | (go_at_call 77; with_reducible refine (HV3.out _).mono ?_; rintro e w3 ⟨rfl, rfl⟩))
        go_loopw [6, 7] (fun v i wr => ∃ (k : Nat) (A' : Option Addr) (c' G : Nat), k ≤ n ∧ i = .int .i64 k ∧ v = .slice A' (putAll [] (catL gs k)).length c' ∧ w.heap.size ≤ G ∧ Hid (StrOwn wr A' (putAll [] (catL gs k)).length (sl (putAll [] (catL gs k))) G) ∧ Hid (Blk wr w.heap.size 62 #[.string s, .int .i64 no, .int .i64 ma, .int .i64 fe, .slice A n c]) ∧ w.heap.size < wr.heap.size ∧ Below w.heap.size w wr) (fun _ i _ => n - (intOf i).toNat)
        case atStart => exact ⟨0, _, _, w.heap.size, by omega, rfl, rfl, Nat.le_refl _, Lib.hid (fun h0 => absurd h0 (by simp [catL, putAll])), Lib.hid ((HXX.out.drewN _).alloc _), by simp; omega, (below_drewN HAL.out _).alloc (by simp) _⟩
        case round =>
          obtain ⟨k, A', c', G, hk, rfl, rfl, hG, hown, hx, hgt, hbr⟩ := hrel
          have hcl := catL_len (n := k) (fun j hj => HGL.out j (by omega))
          have hpl := putAll_len (catL gs k) []
          simp only [List.length_nil, Nat.zero_add] at hpl
          have y4 := (hx.out.cell 4).trans rfl
          by_cases hlt : k < n
          · obtain ⟨b2, o2, rfl, hrow2⟩ := H.out (by omega)
            obtain ⟨e0, -⟩ := (hrow2 k hlt).below hbr (Nat.le_refl _)
            have HR2 := Lib.hid hrow2
            obtain ⟨a1, -, a3, a4, a5⟩ := HIN.out.at_ k hlt
            obtain ⟨-, a6, -⟩ := mIx_of a3
            obtain ⟨q, hq⟩ : ∃ q, q = mIx (fun q => (g q).id) m (ss k) := ⟨_, rfl⟩
            have HC := l18Melt_calls B m d g (ss k) wr (HM.out.keep hbr) hm
            have a6' : fno (fun q => !eqS (g q).id (ss k)) m = (q : Int) := by rw [hq]; exact a6
            rw [a6'] at HC
            have HCC := Lib.hid HC
            have hgk : Hid (gs k = nmL (g q)) := Lib.hid (by rw [HGS.out, hq]; rfl)
            have a1' : q < m := by rw [hq]; exact a1
            have a5' : (g q).n ≤ 16 := by rw [hq]; exact a5
            obtain ⟨b3, o3, rfl, hrow3⟩ := HM.out (by omega)
            obtain ⟨AQ, CQ, d0, d1, d2, d3⟩ := hrow3 q a1'
            have D3 := Lib.hid d3
            have u0 := cell_keep hbr d0
            have u1 := cell_keep hbr d1
            have u2 := cell_keep hbr d2
            have HR3 := Lib.hid hrow3
            have HX2 := Lib.hid (hx.out.alloc (.cells #[.string (g q).id, .slice AQ (g q).n CQ, .int .i64 (g q).ma] 94))
            have HO2 := Lib.hid (hown.out.keep ((Below.refl wr.heap.size wr).alloc (Nat.le_refl _) (.cells #[.string (g q).id, .slice AQ (g q).n CQ, .int .i64 (g q).ma] 94)))
            have HB2 := Lib.hid (hbr.alloc hbr.size (.cells #[.string (g q).id, .slice AQ (g q).n CQ, .int .i64 (g q).ma] 94))
            have HY2 := Lib.hid (Blk.new wr 94 #[.string (g q).id, .slice AQ (g q).n CQ, .int .i64 (g q).ma])
            clear hrow2 hrow3 HC a1 a3 a4 a5 a6 a6' d0 d1 d2 d3 hq
            go_wp2_with (go_at_call 61; with_reducible refine HCC.out.mono ?_; rintro e w4 ⟨rfl, rfl⟩)
            clear hown hx hbr y4 e0 u0 u1 u2
            obtain ⟨g8, hg8⟩ : ∃ g8, g8 = wr.heap.size := ⟨_, rfl⟩
            rw [← hg8] at HY2 ⊢
            have hg8l : w.heap.size < g8 := by omega
            clear hg8
            go_loopw [6, 9] (fun v i wr => ∃ (j : Nat) (A' : Option Addr) (c' G : Nat), j ≤ (g q).n ∧ i = .int .i64 j ∧ v = .slice A' (putAll [] (catL gs k ++ (nmL (g q)).take j)).length c' ∧ w.heap.size ≤ G ∧ Hid (StrOwn wr A' (putAll [] (catL gs k ++ (nmL (g q)).take j)).length (sl (putAll [] (catL gs k ++ (nmL (g q)).take j))) G) ∧ Hid (Blk wr w.heap.size 62 #[.string s, .int .i64 no, .int .i64 ma, .int .i64 fe, .slice (some ⟨b2, o2, none⟩) n c]) ∧ Hid (Blk wr g8 94 #[.string (g q).id, .slice AQ (g q).n CQ, .int .i64 (g q).ma]) ∧ w.heap.size < wr.heap.size ∧ Below w.heap.size w wr) (fun _ i _ => (g q).n - (intOf i).toNat)
            case atStart => exact ⟨0, A', c', G, by omega, rfl, by simp, hG, by simpa using HO2, HX2, HY2, by simp; omega, HB2.out⟩
            case round =>
              clear HO2 HX2 HY2 HB2 hG hgt
              obtain ⟨j, A', c', G, hj, rfl, rfl, hG, hown, hx, hy, hgt, hbr⟩ := hrel
              have z1 := (hy.out.cell 1).trans rfl
              by_cases hlt2 : j < (g q).n
              · obtain ⟨b4, o4, rfl, hrow4⟩ := D3.out (by omega)
                have e4 := cell_keep hbr (hrow4 j hlt2)
                have HR4 := Lib.hid hrow4
                have hnext : putS (putAll [] (catL gs k ++ (nmL (g q)).take j)) ((g q).ss j).toList = putAll [] (catL gs k ++ (nmL (g q)).take (j + 1)) := by
                  rw [List.take_add_one, nmL_at _ hlt2, ← List.append_assoc]
                  exact (putAll_snoc _ _ _).symm
                have hpl2 := putAll_len (catL gs k ++ (nmL (g q)).take j) []
                simp only [List.length_nil, Nat.zero_add, List.length_append, List.length_take] at hpl2
                have HC2 := l18Put_calls A' c' (putAll [] (catL gs k ++ (nmL (g q)).take j)) ((g q).ss j) wr hown.out.row (by omega)
                rw [hnext] at HC2
                have HCC2 := Lib.hid HC2
                clear hrow4 hnext HC2 hpl2
                go_wp2_with fail
                go_at_call 100
                refine HCC2.out.mono ?_
                rintro e w5 ⟨v2, rfl, A2, cc2, G2, rfl, hio, hG2, hb⟩
                have HIO := Lib.hid hio
                have HBB := Lib.hid (hbr.trans (hb.mono hbr.size))
                have hG3 := Nat.le_trans hbr.size hG2
                have hx2 := Lib.hid (hx.out.keep hb)
                have hy2 := Lib.hid (hy.out.keep hb)
                have hgt2 := Nat.lt_of_lt_of_le hgt hb.size
                clear hio hb hbr hx hy hown hgt z1 e4
                go_wp2
                go_roundw
                case rel => exact ⟨j + 1, A2, cc2, G2, by omega, by go_num, rfl, hG3, HIO, hx2, hy2, hgt2, HBB.out⟩
                case measure => simp [intOf]; omega
              · have hjn : j = (g q).n := by omega
                have hfin : catL gs k ++ (nmL (g q)).take j = catL gs (k + 1) := by
                  rw [show catL gs (k + 1) = catL gs k ++ gs k from rfl, hgk.out, List.take_of_length_le (by rw [nmL_len]; omega)]
                rw [hfin] at hown ⊢
                have hge : ((g q).n : Int) ≤ j := by omega
                have hge2 : (g q).n ≤ j := by omega
                clear hjn hfin
                go_wp2
                go_roundw
                case rel => exact ⟨k + 1, A', c', G, by omega, by go_num, rfl, hG, hown, hx, hgt, hbr⟩
                case measure => simp [intOf]; omega
          · obtain rfl : k = n := by omega
            go_wp2
            refine bodyPost_ret (v := .tuple #[.slice A' (putAll [] (catL gs k)).length c', .int .i64 0]) (by simp [results, Try.results46, go_sem]) rfl ?_
            exact ⟨_, rfl, A', c', G, rfl, hown.out, hG, hbr⟩
end Go.Proofs.Ytccjgeoebbnkoaa
