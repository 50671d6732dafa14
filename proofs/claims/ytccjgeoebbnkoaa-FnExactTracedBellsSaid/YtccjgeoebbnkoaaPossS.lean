/- Whether melts are possible with ingots: in the reference, and both whole. -/
import Derived.Test.YtccjgeoebbnkoaaPossM
namespace Go.Proofs.Ytccjgeoebbnkoaa
set_option linter.unusedVariables false
set_option linter.unusedSimpArgs false
open Go.RowKit

noncomputable def okIngs (s0 : Nat → ByteArray) (a1 a2 a3 a4 : Nat → Int) (n : Nat) : Bool := allB (goodAt (fun i => ingB (s0 i) (a1 i) (a2 i) (a3 i) (a4 i)) s0) n && decide ((n : Int) ≤ 16)
theorem okIngs_srt {s0 : Nat → ByteArray} {a1 a2 a3 a4 : Nat → Int} {n : Nat} (h : okIngs s0 a1 a2 a3 a4 n = true) : Srt s0 n := srt_of fun k hk => by
  unfold okIngs at h
  simp only [Bool.and_eq_true] at h
  have h1 := allB_of h.1 (k + 1) hk
  unfold goodAt at h1
  simp only [Bool.and_eq_true] at h1
  have h2 := h1.2
  show Op.bytesLess (s0 k).toList (s0 (k + 1)).toList = true
  simpa using h2
theorem okIngs_bd {s0 : Nat → ByteArray} {a1 a2 a3 a4 : Nat → Int} {n : Nat} (h : okIngs s0 a1 a2 a3 a4 n = true) : IngB n a1 a3 a4 ∧ n ≤ 16 := by
  unfold okIngs at h
  simp only [Bool.and_eq_true, decide_eq_true_eq] at h
  refine ⟨fun i hi => ?_, by omega⟩
  have h1 := allB_of h.1 i hi
  unfold goodAt at h1
  simp only [Bool.and_eq_true] at h1
  obtain ⟨b1, b2, b3, b4, b5⟩ := ingB_of h1.1
  exact ⟨⟨by omega, by omega⟩, b3, b4⟩
theorem okIngs_pos {s0 : Nat → ByteArray} {a1 a2 a3 a4 : Nat → Int} {n : Nat} (h : okIngs s0 a1 a2 a3 a4 n = true) : ∀ i, i < n → 1 ≤ a1 i := fun i hi => by
  unfold okIngs at h
  simp only [Bool.and_eq_true, decide_eq_true_eq] at h
  have h1 := allB_of h.1 i hi
  unfold goodAt at h1
  simp only [Bool.and_eq_true] at h1
  obtain ⟨b1, b2, b3, b4, b5⟩ := ingB_of h1.1
  exact b1.1
theorem okM_q {g : Nat → MeltV} {m : Nat} (h : okMelts g m = true) : ∀ i, i < m → (g i).n ≤ 16 := fun i hi => by
  unfold okMelts meltsOk at h
  simp only [Bool.and_eq_true] at h
  have h2 := allB_of h.1 i hi
  unfold meltAt' goodAt meltV at h2
  simp only [Bool.and_eq_true, decide_eq_true_eq] at h2
  have := h2.1.1.2.2.1
  omega
theorem allB_and (p q : Nat → Bool) : ∀ m, (allB p m && allB q m) = allB (fun i => p i && q i) m
  | 0 => rfl
  | m + 1 => by
    have ih := allB_and p q m
    simp only [allB]
    rw [← ih]
    cases allB p m <;> cases allB q m <;> cases p m <;> cases q m <;> rfl
def posOne (s0 : Nat → ByteArray) (n : Nat) (a1 : Nat → Int) (x : MeltV) : Bool := allHave s0 n x.ss x.n && !decide (mostV s0 n a1 x.ss x.n < x.ma)
theorem possB_all (s0 : Nat → ByteArray) (n : Nat) (a1 : Nat → Int) (g : Nat → MeltV) (m : Nat) : possB s0 n a1 g m = allB (fun i => posOne s0 n a1 (g i)) m := by
  unfold possB existB anyB
  rw [Bool.not_not, allB_and]
  rfl
noncomputable def posB (s0 : Nat → ByteArray) (a1 a2 a3 a4 : Nat → Int) (n : Nat) (g : Nat → MeltV) (m : Nat) : Bool := okIngs s0 a1 a2 a3 a4 n && (okMelts g m && possB s0 n a1 g m)
set_option maxHeartbeats 4000000 in
theorem PossibleMelts_calls (A : Option Addr) (n c : Nat) (s0 : Nat → ByteArray) (a1 a2 a3 a4 : Nat → Int) (B : Option Addr) (m d : Nat) (g : Nat → MeltV) (w : World) (h : IngotRow w A n s0 a1 a2 a3 a4) (hsz : ∀ i, i < n → (s0 i).size ≤ maxLen) (hn : n ≤ 1048576) (h2 : MeltRow w B m g) (hm : m ≤ 1048576) (hd : m ≤ d) (hg : ∀ i, i < m → FineM (g i)) :
    Calls Try.prog 89 #[.slice A n c, .slice B m d] w fun e w' => e = .returned (.bool (posB s0 a1 a2 a3 a4 n g m)) ∧ Below w.heap.size w w' := by
  have hn2 : n ≤ maxLen := by unfold maxLen; omega
  have KK := Lib.hid (Below.refl w.heap.size w)
  have H := Lib.hid h
  have HZ := Lib.hid hsz
  have HM := Lib.hid h2
  have HG := Lib.hid hg
  clear h hsz h2 hg
  cases q1 : okIngs s0 a1 a2 a3 a4 n
  · rw [show posB s0 a1 a2 a3 a4 n g m = false by simp [posB, q1]]
    go_enter Try.func89, Try.ntmps89
    go_wp2_with (go_at_call 81; refine (impl_ValidIngots_calls A n c s0 a1 a2 a3 a4 _ (H.out.below KK.out (Nat.le_refl _)) HZ.out hn2).mono ?_; rw [show (allB (goodAt (fun i => ingB (s0 i) (a1 i) (a2 i) (a3 i) (a4 i)) s0) n && decide ((n : Int) ≤ 16)) = _ from q1]; rintro e w2 ⟨rfl, hb⟩; have K2 := Lib.hid (KK.out.trans (hb.mono KK.out.size)); clear KK hb; have KK := K2; clear K2)
    go_ret
    exact ⟨rfl, KK.out⟩
  · cases q2 : okMelts g m
    · rw [show posB s0 a1 a2 a3 a4 n g m = false by simp [posB, q2]]
      go_enter Try.func89, Try.ntmps89
      go_wp2_with (first | (go_at_call 81; refine (impl_ValidIngots_calls A n c s0 a1 a2 a3 a4 _ (H.out.below KK.out (Nat.le_refl _)) HZ.out hn2).mono ?_; rw [show (allB (goodAt (fun i => ingB (s0 i) (a1 i) (a2 i) (a3 i) (a4 i)) s0) n && decide ((n : Int) ≤ 16)) = _ from q1]; rintro e w2 ⟨rfl, hb⟩; have K2 := Lib.hid (KK.out.trans (hb.mono KK.out.size)); clear KK hb; have KK := K2; clear K2) | (go_at_call 65; refine (ValidMelts_calls B m d g _ (HM.out.keep KK.out) HG.out hm hd).mono ?_; rw [q2]; rintro e w3 ⟨rfl, hb⟩; have K2 := Lib.hid (KK.out.trans (hb.mono KK.out.size)); clear KK hb; have KK := K2; clear K2))
      go_ret
      exact ⟨rfl, KK.out⟩
    · obtain ⟨R, hR⟩ : ∃ R, R = possB s0 n a1 g m := ⟨_, rfl⟩
      rw [show posB s0 a1 a2 a3 a4 n g m = R by simp [posB, q1, q2, hR]]
      have HR := Lib.hid hR
      have HS := Lib.hid (okIngs_srt q1)
      have HI := Lib.hid (okIngs_bd q1).1
      have HQ := Lib.hid (okM_q q2)
      clear hR
      cases R
      all_goals
        go_enter Try.func89, Try.ntmps89
        go_wp2_with (first | (go_at_call 81; refine (impl_ValidIngots_calls A n c s0 a1 a2 a3 a4 _ (H.out.below KK.out (Nat.le_refl _)) HZ.out hn2).mono ?_; rw [show (allB (goodAt (fun i => ingB (s0 i) (a1 i) (a2 i) (a3 i) (a4 i)) s0) n && decide ((n : Int) ≤ 16)) = _ from q1]; rintro e w2 ⟨rfl, hb⟩; have K2 := Lib.hid (KK.out.trans (hb.mono KK.out.size)); clear KK hb; have KK := K2; clear K2) | (go_at_call 65; refine (ValidMelts_calls B m d g _ (HM.out.keep KK.out) HG.out hm hd).mono ?_; rw [q2]; rintro e w3 ⟨rfl, hb⟩; have K2 := Lib.hid (KK.out.trans (hb.mono KK.out.size)); clear KK hb; have KK := K2; clear K2) | (go_at_call 131; refine (possible_calls A n c s0 a1 a2 a3 a4 B m d g _ (H.out.below KK.out (Nat.le_refl _)) hn HS.out (HM.out.keep KK.out) hm HQ.out HI.out).mono ?_; rw [← HR.out]; rintro e w4 ⟨rfl, hb⟩; have K2 := Lib.hid (KK.out.trans (hb.mono KK.out.size)); clear KK hb; have KK := K2; clear K2))
        go_ret
        exact ⟨rfl, KK.out⟩
set_option maxRecDepth 20000 in
set_option maxHeartbeats 8000000 in
theorem sPossible_calls (A : Option Addr) (n c : Nat) (s0 : Nat → ByteArray) (a1 a2 a3 a4 : Nat → Int) (B : Option Addr) (m d : Nat) (g : Nat → MeltV) (w : World) (h : IngotRow w A n s0 a1 a2 a3 a4) (hn : n ≤ 1048576) (hs : Srt s0 n) (h2 : MeltRow w B m g) (hm : m ≤ 1048576) (hq : ∀ i, i < m → (g i).n ≤ 16) (hb : IngB n a1 a3 a4) :
    Calls Try.prog 130 #[.slice A n c, .slice B m d] w fun e w' => e = .returned (.bool (possB s0 n a1 g m)) ∧ Below w.heap.size w w' := by
  rw [possB_all]
  generalize hres : allB (fun i => posOne s0 n a1 (g i)) m = R
  have HRES := Lib.hid hres
  have H := Lib.hid h
  have HM := Lib.hid h2
  have HS := Lib.hid hs
  have HQ := Lib.hid hq
  have HB := Lib.hid hb
  clear h h2 hs hq hb hres
  go_enter Try.func130, Try.ntmps130
  go_wp2
  go_loopw [5] (fun i wr => ∃ k : Nat, k ≤ m ∧ i = .int .i64 k ∧ Hid (allB (fun i => posOne s0 n a1 (g i)) k = true) ∧ Below w.heap.size w wr) (fun i _ => m - (intOf i).toNat)
  case atStart => exact ⟨0, by omega, rfl, rfl, Below.refl _ _⟩
  case round =>
    obtain ⟨k, hk, rfl, hgood, hbr⟩ := hrel
    by_cases hlt : k < m
    · obtain ⟨b, o, rfl, hrow⟩ := HM.out (by omega)
      have hat := (hrow k hlt).keep hbr
      have HAT := Lib.hid hat
      have hblt : b < wr.heap.size := by obtain ⟨_, _, q, -⟩ := hat; exact cell_lt q
      have HRW := Lib.hid hrow
      have hqk := HQ.out k hlt
      have HC := Lib.hid (sChosen_calls A n c s0 a1 a2 a3 a4 b (o + k * 3) (g k) wr (H.out.below hbr (Nat.le_refl _)) hn HS.out hat (by omega))
      clear hrow hat
      cases q1 : allHave s0 n (g k).ss (g k).n
      · have HF := Lib.hid (show posOne s0 n a1 (g k) = false by simp [posOne, q1])
        go_wp2_with fail
        go_at_call 121
        with_reducible refine HC.out.mono ?_
        rintro e w1 ⟨v, rfl, -, hb1⟩
        rw [q1]
        have hbr1 := hbr.trans (hb1.mono hbr.size)
        clear HC hb1 hbr HAT
        go_wp2_with fail
        refine wp_gen (fun W0 hW0 => ?_)
        have s0_ : Below w.heap.size w W0 := by rw [hW0]; exact hbr1
        clear hW0
        refine wp_region_held_drew (S := fun w' => Below w.heap.size w w') (by kernel_rfl) ?_ (fun hHeld => ?_)
        · exact s0_.drew
        clear s0_
        refine take_yes (i := 0) (d := 22) (v := ?_) _ rfl rfl (by kernel_rfl) (by kernel_rfl) (by kernel_rfl) (fun _ _ _ _ h => h) (by rfl) ?_ (by assumption) ?_
        rotate_left 1
        · ((intro w hSw; (try dsimp only at hSw); go_simp) <;> (try with_reducible rfl))
        (try simp only [Act.put, List.setIfInBounds_toArray, List.set_cons_zero, List.set_cons_succ])
        refine take_yes (i := 1) (d := 23) (v := ?_) _ rfl rfl (by kernel_rfl) (by kernel_rfl) (by kernel_rfl) (fun _ _ _ _ h => h) (by rfl) ?_ (by assumption) ?_
        rotate_left 1
        · ((intro w hSw; (try dsimp only at hSw); go_simp) <;> (try with_reducible rfl))
        (try simp only [Act.put, List.setIfInBounds_toArray, List.set_cons_zero, List.set_cons_succ])
        refine take_yes (i := 2) (d := 24) (v := ?_) _ rfl rfl (by kernel_rfl) (by kernel_rfl) (by kernel_rfl) (fun _ _ _ _ h => h) (by rfl) ?_ (by assumption) ?_
        rotate_left 1
        · ((intro w hSw; (try dsimp only at hSw); go_simp) <;> (try with_reducible rfl))
        (try simp only [Act.put, List.setIfInBounds_toArray, List.set_cons_zero, List.set_cons_succ])
        (refine take_no (i := 3) (d := 25) _ rfl rfl (by kernel_rfl) (by kernel_rfl) (by kernel_rfl) (fun _ _ _ _ h => h) (by rfl) (by assumption) ?_; (try simp only [Act.put, List.setIfInBounds_toArray, List.set_cons_zero, List.set_cons_succ]))
        (refine take_no (i := 4) (d := 26) _ rfl rfl (by kernel_rfl) (by kernel_rfl) (by kernel_rfl) (fun _ _ _ _ h => h) (by rfl) (by assumption) ?_; (try simp only [Act.put, List.setIfInBounds_toArray, List.set_cons_zero, List.set_cons_succ]))
        (refine take_no (i := 5) (d := 27) _ rfl rfl (by kernel_rfl) (by kernel_rfl) (by kernel_rfl) (fun _ _ _ _ h => h) (by rfl) (by assumption) ?_; (try simp only [Act.put, List.setIfInBounds_toArray, List.set_cons_zero, List.set_cons_succ]))
        (refine take_no (i := 6) (d := 28) _ rfl rfl (by kernel_rfl) (by kernel_rfl) (by kernel_rfl) (fun _ _ _ _ h => h) (by rfl) (by assumption) ?_; (try simp only [Act.put, List.setIfInBounds_toArray, List.set_cons_zero, List.set_cons_succ]))
        (refine take_no (i := 7) (d := 29) _ rfl rfl (by kernel_rfl) (by kernel_rfl) (by kernel_rfl) (fun _ _ _ _ h => h) (by rfl) (by assumption) ?_; (try simp only [Act.put, List.setIfInBounds_toArray, List.set_cons_zero, List.set_cons_succ]))
        (refine take_no (i := 8) (d := 30) _ rfl rfl (by kernel_rfl) (by kernel_rfl) (by kernel_rfl) (fun _ _ _ _ h => h) (by rfl) (by assumption) ?_; (try simp only [Act.put, List.setIfInBounds_toArray, List.set_cons_zero, List.set_cons_succ]))
        (refine take_no (i := 9) (d := 31) _ rfl rfl (by kernel_rfl) (by kernel_rfl) (by kernel_rfl) (fun _ _ _ _ h => h) (by rfl) (by assumption) ?_; (try simp only [Act.put, List.setIfInBounds_toArray, List.set_cons_zero, List.set_cons_succ]))
        (refine take_no (i := 10) (d := 32) _ rfl rfl (by kernel_rfl) (by kernel_rfl) (by kernel_rfl) (fun _ _ _ _ h => h) (by rfl) (by assumption) ?_; (try simp only [Act.put, List.setIfInBounds_toArray, List.set_cons_zero, List.set_cons_succ]))
        (refine take_no (i := 11) (d := 33) _ rfl rfl (by kernel_rfl) (by kernel_rfl) (by kernel_rfl) (fun _ _ _ _ h => h) (by rfl) (by assumption) ?_; (try simp only [Act.put, List.setIfInBounds_toArray, List.set_cons_zero, List.set_cons_succ]))
        (refine take_no (i := 12) (d := 34) _ rfl rfl (by kernel_rfl) (by kernel_rfl) (by kernel_rfl) (fun _ _ _ _ h => h) (by rfl) (by assumption) ?_; (try simp only [Act.put, List.setIfInBounds_toArray, List.set_cons_zero, List.set_cons_succ]))
        (refine take_no (i := 13) (d := 35) _ rfl rfl (by kernel_rfl) (by kernel_rfl) (by kernel_rfl) (fun _ _ _ _ h => h) (by rfl) (by assumption) ?_; (try simp only [Act.put, List.setIfInBounds_toArray, List.set_cons_zero, List.set_cons_succ]))
        refine take_yes (i := 14) (d := 36) (v := ?_) _ rfl rfl (by kernel_rfl) (by kernel_rfl) (by kernel_rfl) (fun _ _ _ _ h => h) (by rfl) ?_ (by assumption) ?_
        rotate_left 1
        · ((intro w hSw; (try dsimp only at hSw); go_simp) <;> (try with_reducible rfl))
        (try simp only [Act.put, List.setIfInBounds_toArray, List.set_cons_zero, List.set_cons_succ])
        refine wpAnyH_done (by kernel_rfl) ?_ _
        obtain z0 := hHeld
        go_wp2
        go_ret
        exact ⟨ret_bool (by rw [← HRES.out]; exact (allB_no hlt HF.out).symm), by first | exact z0 | exact hHeld | assumption⟩
      · obtain ⟨T, hT⟩ : ∃ T, T = mostV s0 n a1 (g k).ss (g k).n := ⟨_, rfl⟩
        have HMO := Lib.hid (fun (W : World) (hb1 : Below w.heap.size w W) (hb2 : MeltAt W b (o + k * 3) (g k)) => sMost_calls A n c s0 a1 a2 a3 a4 b (o + k * 3) (g k) W (H.out.below hb1 (Nat.le_refl _)) hn HS.out hb2 hqk q1 HB.out)
        rw [← hT] at HMO
        have HPO := Lib.hid (show posOne s0 n a1 (g k) = !decide (T < (g k).ma) by simp [posOne, q1, hT])
        have m2 : wr.cell? ⟨b, o + k * 3 + 2, none⟩ = some (.int .i64 (g k).ma) := by obtain ⟨_, _, _, _, q, -⟩ := HAT.out; exact q
        have M2 := Lib.hid m2
        obtain ⟨ma, hma⟩ : ∃ ma, ma = (g k).ma := ⟨_, rfl⟩
        rw [← hma] at HPO M2
        clear hT m2 hma
        by_cases q2 : T < ma
        all_goals
          go_wp2_with fail
          go_at_call 121
          with_reducible refine HC.out.mono ?_
          rintro e w1 ⟨v, rfl, -, hb1⟩
          rw [q1]
          have hbr1 := hbr.trans (hb1.mono hbr.size)
          clear HC
          go_wp2_with fail
          refine wp_gen (fun W0 hW0 => ?_)
          have s0_ : Below w.heap.size w W0 := by rw [hW0]; exact hbr1
          have s1_ : MeltAt W0 b (o + k * 3) (g k) := by rw [hW0]; exact HAT.out.keep hb1
          have s2_ : W0.cell? ⟨b, o + k * 3 + 2, none⟩ = some (.int .i64 ma) := by rw [hW0]; exact cell_keep hb1 M2.out
          clear hW0
          refine wp_region_held_drew (S := fun w' => Below w.heap.size w w' ∧ MeltAt w' b (o + k * 3) (g k) ∧ w'.cell? ⟨b, o + k * 3 + 2, none⟩ = some (.int .i64 ma)) (by kernel_rfl) ?_ (fun hHeld => ?_)
          · exact ⟨s0_.drew, s1_, s2_⟩
          clear s0_ s1_ s2_
          refine take_yes (i := 0) (d := 22) (v := ?_) _ rfl rfl (by kernel_rfl) (by kernel_rfl) (by kernel_rfl) (fun _ _ _ _ h => h) (by rfl) ?_ (by assumption) ?_
          rotate_left 1
          · ((intro w hSw; (try dsimp only at hSw); go_simp) <;> (try with_reducible rfl))
          (try simp only [Act.put, List.setIfInBounds_toArray, List.set_cons_zero, List.set_cons_succ])
          refine take_yes (i := 1) (d := 23) (v := ?_) _ rfl rfl (by kernel_rfl) (by kernel_rfl) (by kernel_rfl) (fun _ _ _ _ h => h) (by rfl) ?_ (by assumption) ?_
          rotate_left 1
          · ((intro w hSw; (try dsimp only at hSw); go_simp) <;> (try with_reducible rfl))
          (try simp only [Act.put, List.setIfInBounds_toArray, List.set_cons_zero, List.set_cons_succ])
          refine take_yes (i := 2) (d := 24) (v := ?_) _ rfl rfl (by kernel_rfl) (by kernel_rfl) (by kernel_rfl) (fun _ _ _ _ h => h) (by rfl) ?_ (by assumption) ?_
          rotate_left 1
          · ((intro w hSw; (try dsimp only at hSw); go_simp) <;> (try with_reducible rfl))
          (try simp only [Act.put, List.setIfInBounds_toArray, List.set_cons_zero, List.set_cons_succ])
          refine take_yes (i := 3) (d := 25) (v := ?_) _ rfl rfl (by kernel_rfl) (by kernel_rfl) (by kernel_rfl) (fun _ _ _ _ h => h) (by rfl) ?_ (by assumption) ?_
          rotate_left 1
          · ((intro w hSw; (try dsimp only at hSw); go_simp) <;> (try with_reducible rfl))
          (try simp only [Act.put, List.setIfInBounds_toArray, List.set_cons_zero, List.set_cons_succ])
          refine take_yes (i := 4) (d := 26) (v := ?_) _ rfl rfl (by kernel_rfl) (by kernel_rfl) (by kernel_rfl) (fun _ _ _ _ h => h) (by rfl) ?_ (by assumption) ?_
          rotate_left 1
          · ((intro w hSw; (try dsimp only at hSw); go_simp) <;> (try with_reducible rfl))
          (try simp only [Act.put, List.setIfInBounds_toArray, List.set_cons_zero, List.set_cons_succ])
          refine take_yes (i := 5) (d := 27) (v := ?_) _ rfl rfl (by kernel_rfl) (by kernel_rfl) (by kernel_rfl) (fun _ _ _ _ h => h) (by rfl) ?_ (by assumption) ?_
          rotate_left 1
          · ((intro w hSw; (try dsimp only at hSw); go_simp) <;> (try with_reducible rfl))
          (try simp only [Act.put, List.setIfInBounds_toArray, List.set_cons_zero, List.set_cons_succ])
          refine take_yes (i := 6) (d := 28) (v := ?_) _ rfl rfl (by kernel_rfl) (by kernel_rfl) (by kernel_rfl) (fun _ _ _ _ h => h) (by rfl) ?_ (by assumption) ?_
          rotate_left 1
          · ((intro w hSw; (try dsimp only at hSw); go_simp) <;> (try with_reducible rfl))
          (try simp only [Act.put, List.setIfInBounds_toArray, List.set_cons_zero, List.set_cons_succ])
          refine take_yes (i := 7) (d := 29) (v := ?_) _ rfl rfl (by kernel_rfl) (by kernel_rfl) (by kernel_rfl) (fun _ _ _ _ h => h) (by rfl) ?_ (by assumption) ?_
          rotate_left 1
          · ((intro w hSw; (try dsimp only at hSw); go_simp) <;> (try with_reducible rfl))
          (try simp only [Act.put, List.setIfInBounds_toArray, List.set_cons_zero, List.set_cons_succ])
          refine take_yes (i := 8) (d := 30) (v := ?_) _ rfl rfl (by kernel_rfl) (by kernel_rfl) (by kernel_rfl) (fun _ _ _ _ h => h) (by rfl) ?_ (by assumption) ?_
          rotate_left 1
          · ((intro w hSw; (try dsimp only at hSw); go_simp) <;> (try with_reducible rfl))
          (try simp only [Act.put, List.setIfInBounds_toArray, List.set_cons_zero, List.set_cons_succ])
          refine take_yes (i := 9) (d := 31) (v := ?_) _ rfl rfl (by kernel_rfl) (by kernel_rfl) (by kernel_rfl) (fun _ _ _ _ h => h) (by rfl) ?_ (by assumption) ?_
          rotate_left 1
          · ((intro w hSw; (try dsimp only at hSw); go_simp) <;> (try with_reducible rfl))
          (try simp only [Act.put, List.setIfInBounds_toArray, List.set_cons_zero, List.set_cons_succ])
          refine take_yes (i := 10) (d := 32) (v := ?_) _ rfl rfl (by kernel_rfl) (by kernel_rfl) (by kernel_rfl) (fun _ _ _ _ h => h) (by rfl) ?_ (by assumption) ?_
          rotate_left 1
          · ((intro w hSw; (try dsimp only at hSw); go_simp) <;> (try with_reducible rfl))
          (try simp only [Act.put, List.setIfInBounds_toArray, List.set_cons_zero, List.set_cons_succ])
          refine take_yes (i := 11) (d := 33) (v := ?_) _ rfl rfl (by kernel_rfl) (by kernel_rfl) (by kernel_rfl) (fun _ _ _ _ h => h) (by rfl) ?_ (by assumption) ?_
          rotate_left 1
          · ((intro w hSw; (try dsimp only at hSw); go_simp) <;> (try with_reducible rfl))
          (try simp only [Act.put, List.setIfInBounds_toArray, List.set_cons_zero, List.set_cons_succ])
          (refine wpAnyH_ready (rs := [12]) (by kernel_rfl) (by simp) ?_; refine AllReadyH.cons rfl (fun K hK => ?_) AllReadyH.nil; go_simp; go_at_call 168; refine (HMO.out _ (And.left hHeld) (And.left (And.right hHeld))).mono ?_; rintro e wd ⟨rfl, hb⟩; refine hK.out _ _ (by obtain ⟨x0_, x1_, x2_⟩ := hHeld; exact ⟨x0_.trans (hb.mono x0_.size), x1_.keep hb, cell_keep hb x2_⟩) (fun hHeld2 => ?_); clear hK K hHeld hb; have hHeld := hHeld2; clear hHeld2; (try simp only [Act.put, List.setIfInBounds_toArray, List.set_cons_zero, List.set_cons_succ]))
          refine take_yes (i := 13) (d := 35) (v := ?_) _ rfl rfl (by kernel_rfl) (by kernel_rfl) (by kernel_rfl) (fun _ _ _ _ h => h) (by rfl) ?_ (by assumption) ?_
          rotate_left 1
          · ((intro w hSw; (try dsimp only at hSw); go_simp) <;> (try with_reducible rfl))
          (try simp only [Act.put, List.setIfInBounds_toArray, List.set_cons_zero, List.set_cons_succ])
          refine take_yes (i := 14) (d := 36) (v := ?_) _ rfl rfl (by kernel_rfl) (by kernel_rfl) (by kernel_rfl) (fun _ _ _ _ h => h) (by rfl) ?_ (by assumption) ?_
          rotate_left 1
          · ((intro w hSw; (try dsimp only at hSw); go_simp) <;> (try with_reducible rfl))
          (try simp only [Act.put, List.setIfInBounds_toArray, List.set_cons_zero, List.set_cons_succ])
          refine wpAnyH_done (by kernel_rfl) ?_ _
          obtain ⟨z0, z1, z2⟩ := hHeld
          go_wp2
        · go_ret
          exact ⟨ret_bool (by rw [← HRES.out]; exact (allB_no hlt (by rw [HPO.out, decide_eq_true q2]; rfl)).symm), z0⟩
        · go_roundw
          case rel => exact ⟨k + 1, by omega, by go_num, Lib.hid (by rw [show allB (fun i => posOne s0 n a1 (g i)) (k + 1) = (allB (fun i => posOne s0 n a1 (g i)) k && posOne s0 n a1 (g k)) from rfl, hgood.out, HPO.out, decide_eq_false (by omega)]; rfl), z0⟩
          case measure => simp [intOf]; omega
    · obtain rfl : k = m := by omega
      go_wp2
      go_ret
      exact ⟨ret_bool (by rw [← HRES.out, hgood.out]), hbr⟩
end Go.Proofs.Ytccjgeoebbnkoaa
