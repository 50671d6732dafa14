/- IngotsOf, in the program and in the reference. -/
import Derived.Test.YtkilfapknemjhaaIngots
namespace Go.Proofs.Ytkilfapknemjhaa
set_option linter.unusedVariables false
open Go.RowKit Go.Sort

noncomputable def ioC (g : Nat → MeltV) (m : Nat) (x : BellV) : Int := if (okMelts g m && bellV x) = true then (if knownB (fun q => (g q).id) m x = true then 0 else 3) else 1
noncomputable def ioL (g : Nat → MeltV) (m : Nat) (x : BellV) : List (List UInt8) := if ioC g m x = 0 then putAll [] (catL (gsOf g m x) x.n) else []
theorem ioL_len {g : Nat → MeltV} {m : Nat} {x : BellV} : (ioL g m x).length ≤ 64 := by
  unfold ioL
  split
  · rename_i h
    unfold ioC at h
    split at h
    · rename_i h1
      split at h
      · rename_i h2
        simp only [Bool.and_eq_true] at h1
        have hb := bellIn_of h1.1 h1.2 h2
        have h3 := catL_len (gs := gsOf g m x) (n := x.n) (fun k hk => by unfold gsOf; rw [nmL_len]; exact (hb.at_ k hk).2.2.2.2)
        have h4 := putAll_len (catL (gsOf g m x) x.n) []
        have := hb.n4
        simp at h4
        omega
      · omega
    · omega
  · simp
theorem one_row {w : World} {G : Nat} {T : TypeId} {s : ByteArray} {no ma fe : Int} {A : Option Addr} {n c : Nat} {ss : Nat → ByteArray} {ms : Nat → Int} (h : Blk w G T #[.string s, .int .i64 no, .int .i64 ma, .int .i64 fe, .slice A n c]) (hr : ShareRow w A n ss ms) : BellRow w (some ⟨G, 0, none⟩) 1 (fun _ => ⟨s, no, ma, fe, n, ss, ms⟩) := fun _ =>
  ⟨G, 0, rfl, fun i hi => by
    obtain rfl : i = 0 := by omega
    exact ⟨A, c, (h.cell 0).trans rfl, (h.cell 1).trans rfl, (h.cell 2).trans rfl, (h.cell 3).trans rfl, (h.cell 4).trans rfl, hr⟩⟩
set_option maxRecDepth 20000 in
set_option maxHeartbeats 8000000 in
theorem oneBell_calls (B : Option Addr) (m d : Nat) (g : Nat → MeltV) (s : ByteArray) (no ma fe : Int) (A : Option Addr) (n c : Nat) (ss : Nat → ByteArray) (ms : Nat → Int) (w : World) (h2 : MeltRow w B m g) (hm : m ≤ 1048576) (hd : m ≤ d) (hg : ∀ i, i < m → FineM (g i)) (hs : s.size ≤ maxLen) (h : ShareRow w A n ss ms) (hss : ∀ i, i < n → (ss i).size ≤ maxLen) (hn : n ≤ 1048576) :
    Calls Try.prog 108 #[.slice B m d, .agg #[.string s, .int .i64 no, .int .i64 ma, .int .i64 fe, .slice A n c]] w fun e w' => e = .returned (.int .i64 (ioC g m ⟨s, no, ma, fe, n, ss, ms⟩)) ∧ Below w.heap.size w w' := by
  have H := Lib.hid h
  have HM := Lib.hid h2
  have HG := Lib.hid hg
  have HSS := Lib.hid hss
  have KK := Lib.hid ((Below.refl w.heap.size w).alloc (Nat.le_refl _) (.cells #[.string s, .int .i64 no, .int .i64 ma, .int .i64 fe, .slice A n c] 76))
  have HXX := Lib.hid (Blk.new w 76 #[.string s, .int .i64 no, .int .i64 ma, .int .i64 fe, .slice A n c])
  clear h h2 hg hss
  cases q1 : okMelts g m
  · rw [show ioC g m ⟨s, no, ma, fe, n, ss, ms⟩ = 1 by simp [ioC, q1]]
    go_enter Try.func108, Try.ntmps108
    go_wp2_with (first | (go_at_call 122; refine (ValidMelts_calls B m d g _ (HM.out.keep KK.out) HG.out hm hd).mono ?_; rw [q1]; rintro e w2 ⟨rfl, hb⟩; have K2 := Lib.hid (KK.out.trans (hb.mono KK.out.size)); have G2 := HXX.out.keep hb; (try clear y0 y1 y2 y3 y4); have y0 := (G2.cell 0).trans rfl; have y1 := (G2.cell 1).trans rfl; have y2 := (G2.cell 2).trans rfl; have y3 := (G2.cell 3).trans rfl; have y4 := (G2.cell 4).trans rfl; replace HXX := Lib.hid G2; clear G2; clear KK hb; have KK := K2; clear K2) | (go_at_call 124; refine (ValidBell_calls s no ma fe A n c ss ms _ hs (H.out.keep KK.out) HSS.out hn).mono ?_; rw [show bellB s no ma fe n ss ms = _ from q2]; rintro e w3 ⟨rfl, hb⟩; have K2 := Lib.hid (KK.out.trans (hb.mono KK.out.size)); have G2 := HXX.out.keep hb; (try clear y0 y1 y2 y3 y4); have y0 := (G2.cell 0).trans rfl; have y1 := (G2.cell 1).trans rfl; have y2 := (G2.cell 2).trans rfl; have y3 := (G2.cell 3).trans rfl; have y4 := (G2.cell 4).trans rfl; replace HXX := Lib.hid G2; clear G2; clear KK hb; have KK := K2; clear K2))
    go_ret
    exact ⟨rfl, KK.out⟩
  · cases q2 : bellV ⟨s, no, ma, fe, n, ss, ms⟩
    · rw [show ioC g m ⟨s, no, ma, fe, n, ss, ms⟩ = 1 by simp [ioC, q2]]
      go_enter Try.func108, Try.ntmps108
      go_wp2_with (first | (go_at_call 122; refine (ValidMelts_calls B m d g _ (HM.out.keep KK.out) HG.out hm hd).mono ?_; rw [q1]; rintro e w2 ⟨rfl, hb⟩; have K2 := Lib.hid (KK.out.trans (hb.mono KK.out.size)); have G2 := HXX.out.keep hb; (try clear y0 y1 y2 y3 y4); have y0 := (G2.cell 0).trans rfl; have y1 := (G2.cell 1).trans rfl; have y2 := (G2.cell 2).trans rfl; have y3 := (G2.cell 3).trans rfl; have y4 := (G2.cell 4).trans rfl; replace HXX := Lib.hid G2; clear G2; clear KK hb; have KK := K2; clear K2) | (go_at_call 124; refine (ValidBell_calls s no ma fe A n c ss ms _ hs (H.out.keep KK.out) HSS.out hn).mono ?_; rw [show bellB s no ma fe n ss ms = _ from q2]; rintro e w3 ⟨rfl, hb⟩; have K2 := Lib.hid (KK.out.trans (hb.mono KK.out.size)); have G2 := HXX.out.keep hb; (try clear y0 y1 y2 y3 y4); have y0 := (G2.cell 0).trans rfl; have y1 := (G2.cell 1).trans rfl; have y2 := (G2.cell 2).trans rfl; have y3 := (G2.cell 3).trans rfl; have y4 := (G2.cell 4).trans rfl; replace HXX := Lib.hid G2; clear G2; clear KK hb; have KK := K2; clear K2))
      go_ret
      exact ⟨rfl, KK.out⟩
    · have HS := Lib.hid (okM_srt q1)
      have hio : ioC g m ⟨s, no, ma, fe, n, ss, ms⟩ = if knownB (fun q => (g q).id) m ⟨s, no, ma, fe, n, ss, ms⟩ = true then 0 else 3 := by simp [ioC, q1, q2]
      rw [hio]
      have hall : allKnown (fun q => (g q).id) m (fun _ => ⟨s, no, ma, fe, n, ss, ms⟩) 1 = knownB (fun q => (g q).id) m ⟨s, no, ma, fe, n, ss, ms⟩ := by simp [allKnown, allB]
      have HALL := Lib.hid hall
      clear hio hall
      cases q3 : knownB (fun q => (g q).id) m ⟨s, no, ma, fe, n, ss, ms⟩
      all_goals
        rw [q3] at HALL
        go_enter Try.func108, Try.ntmps108
        go_wp2_with (first | (go_at_call 122; refine (ValidMelts_calls B m d g _ (HM.out.keep KK.out) HG.out hm hd).mono ?_; rw [q1]; rintro e w2 ⟨rfl, hb⟩; have K2 := Lib.hid (KK.out.trans (hb.mono KK.out.size)); have G2 := HXX.out.keep hb; (try clear y0 y1 y2 y3 y4); have y0 := (G2.cell 0).trans rfl; have y1 := (G2.cell 1).trans rfl; have y2 := (G2.cell 2).trans rfl; have y3 := (G2.cell 3).trans rfl; have y4 := (G2.cell 4).trans rfl; replace HXX := Lib.hid G2; clear G2; clear KK hb; have KK := K2; clear K2) | (go_at_call 124; refine (ValidBell_calls s no ma fe A n c ss ms _ hs (H.out.keep KK.out) HSS.out hn).mono ?_; rw [show bellB s no ma fe n ss ms = _ from q2]; rintro e w3 ⟨rfl, hb⟩; have K2 := Lib.hid (KK.out.trans (hb.mono KK.out.size)); have G2 := HXX.out.keep hb; (try clear y0 y1 y2 y3 y4); have y0 := (G2.cell 0).trans rfl; have y1 := (G2.cell 1).trans rfl; have y2 := (G2.cell 2).trans rfl; have y3 := (G2.cell 3).trans rfl; have y4 := (G2.cell 4).trans rfl; replace HXX := Lib.hid G2; clear G2; clear KK hb; have KK := K2; clear K2) | (go_at_call 125; have hal := KK.out.alloc KK.out.size (.cells #[.string s, .int .i64 no, .int .i64 ma, .int .i64 fe, .slice A n c] 76); refine (haveMelts_calls B m d g _ 1 1 (fun _ => ⟨s, no, ma, fe, n, ss, ms⟩) _ (HM.out.keep hal) hm HS.out (one_row (Blk.new _ _ _) (ShareRow.keep H.out hal)) (by omega) (fun _ _ => hn)).mono ?_; rw [HALL.out]; rintro e w4 ⟨rfl, hb⟩; have K2 := Lib.hid (hal.trans (hb.mono hal.size)); clear KK hb hal; have KK := K2; clear K2))
        go_ret
        exact ⟨rfl, KK.out⟩
end Go.Proofs.Ytkilfapknemjhaa
