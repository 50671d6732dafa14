/- GreedyHeats (the program's). -/
import Derived.Test.YtonoeohmpaegdaaGreedyO
import Derived.Test.YtonoeohmpaegdaaPours
import Derived.Test.YtonoeohmpaegdaaCrucs
namespace Go.Proofs.Ytonoeohmpaegdaa
set_option linter.unusedVariables false
set_option linter.unusedSimpArgs false
open Go.RowKit Go.Sort

set_option maxRecDepth 20000 in
set_option maxHeartbeats 8000000 in
theorem GreedyHeats_calls (A : Option Addr) (n c : Nat) (ps : Nat → ByteArray) (pm pr pd : Nat → Int) (B : Option Addr) (m c2 : Nat) (cs : Nat → ByteArray) (cc ch cf : Nat → Int) (w : World) (hps : ∀ i, i < n → (ps i).size ≤ maxLen) (hcs : ∀ i, i < m → (cs i).size ≤ maxLen) (h : PourRow w A n ps pm pr pd) (h2 : CrucibleRow w B m cs cc ch cf) (hn : n ≤ 1048576) (hm : m ≤ 1048576) :
    Calls Try.prog 23 #[.slice A n c, .slice B m c2] w fun e w' => GhOut w n ps pm pr pd m cs cc ch cf e w' := by
  have H := Lib.hid h
  have H2 := Lib.hid h2
  have HAL := Lib.hid ((Below.refl w.heap.size w).alloc (Nat.le_refl _) (.cells #[.slice A n c] 47))
  clear h h2
  cases q1 : poursB n ps pm pr pd
  · go_enter Try.func23, Try.ntmps23
    go_wp2_with (go_at_call 61; refine (impl_ValidPours_calls A n c ps pm pr pd _ (H.out.below HAL.out (Nat.le_refl _)) hps (by unfold maxLen; omega)).mono ?_; rintro e w1 ⟨rfl, hb⟩; rw [show (allB (goodAt (fun i => pourB (ps i) (pm i) (pr i) (pd i)) ps) n && decide ((n : Int) ≤ 12)) = _ from q1]; have R1 := Lib.hid ((Blk.new w 47 #[.slice A n c]).keep hb); have HB := Lib.hid (HAL.out.trans (hb.mono HAL.out.size)); clear hb)
    exact bodyPost_ret (v := .tuple #[.slice none 0 0, .int .i64 1]) (by simp [results, Try.results23, go_sem]) rfl (GhOut.none HB.out (by simp only [ghL, q1]; rfl) (by simp only [ghC, q1]; rfl))
  · cases q2 : crucsB m cs cc ch cf
    · go_enter Try.func23, Try.ntmps23
      go_wp2_with (first | (go_at_call 61; refine (impl_ValidPours_calls A n c ps pm pr pd _ (H.out.below HAL.out (Nat.le_refl _)) hps (by unfold maxLen; omega)).mono ?_; rintro e w1 ⟨rfl, hb⟩; rw [show (allB (goodAt (fun i => pourB (ps i) (pm i) (pr i) (pd i)) ps) n && decide ((n : Int) ≤ 12)) = _ from q1]; have R1 := Lib.hid ((Blk.new w 47 #[.slice A n c]).keep hb); have HB := Lib.hid (HAL.out.trans (hb.mono HAL.out.size)); clear hb) | (have x0 := (R1.out.cell 0).trans rfl; (go_at_call 62; refine (impl_ValidCrucibles_calls B m c2 cs cc ch cf _ (H2.out.below HB.out (Nat.le_refl _)) hcs (by unfold maxLen; omega)).mono ?_; rintro e w2 ⟨rfl, hb⟩; rw [show (allB (goodAt (fun i => crucB (cs i) (cc i) (ch i) (cf i)) cs) m && (decide ((1 : Int) ≤ m) && decide ((m : Int) ≤ 4))) = _ from q2]; have R2 := Lib.hid (R1.out.keep hb); have HB2 := Lib.hid (HB.out.trans (hb.mono HB.out.size)); clear hb)))
      exact bodyPost_ret (v := .tuple #[.slice none 0 0, .int .i64 1]) (by simp [results, Try.results23, go_sem]) rfl (GhOut.none HB2.out (by simp only [ghL, q1, q2]; rfl) (by simp only [ghC, q1, q2]; rfl))
    · obtain ⟨hn12, hpo⟩ := poursB_of q1
      obtain ⟨hm0, hm4, hcr⟩ := crucsB_of q2
      have HPO := Lib.hid hpo
      have HCR := Lib.hid hcr
      have HFT := Lib.hid (fit_of q1 q2)
      obtain ⟨i0, hi, hz0, hz1, hz2⟩ := info_parts i64_info
      obtain ⟨i1, hj, hy0, hy1, hy2⟩ := info_parts Heat_info
      have ghc : ∀ b, allB (⟨n, m, pm, pr, pd, cc, ch, cf⟩ : GP).got n = b → ghC n ps pm pr pd m cs cc ch cf = (bif b then 0 else 3) := fun b hb => by simp only [ghC, q1, q2, hb]; rfl
      have ghl : ∀ b, allB (⟨n, m, pm, pr, pd, cc, ch, cf⟩ : GP).got n = b → ghL n ps pm pr pd m cs cc ch cf = (bif b then (⟨n, m, pm, pr, pd, cc, ch, cf⟩ : GP).hs n else []) := fun b hb => by simp only [ghL, q1, q2, hb]; rfl
      have GHC := Lib.hid ghc
      have GHL := Lib.hid ghl
      clear hpo hcr ghc ghl
      go_enter Try.func23, Try.ntmps23
      go_wp2_with (first | (go_at_call 61; refine (impl_ValidPours_calls A n c ps pm pr pd _ (H.out.below HAL.out (Nat.le_refl _)) hps (by unfold maxLen; omega)).mono ?_; rintro e w1 ⟨rfl, hb⟩; rw [show (allB (goodAt (fun i => pourB (ps i) (pm i) (pr i) (pd i)) ps) n && decide ((n : Int) ≤ 12)) = _ from q1]; have R1 := Lib.hid ((Blk.new w 47 #[.slice A n c]).keep hb); have HB := Lib.hid (HAL.out.trans (hb.mono HAL.out.size)); clear hb) | (have x0 := (R1.out.cell 0).trans rfl; (go_at_call 62; refine (impl_ValidCrucibles_calls B m c2 cs cc ch cf _ (H2.out.below HB.out (Nat.le_refl _)) hcs (by unfold maxLen; omega)).mono ?_; rintro e w2 ⟨rfl, hb⟩; rw [show (allB (goodAt (fun i => crucB (cs i) (cc i) (ch i) (cf i)) cs) m && (decide ((1 : Int) ≤ m) && decide ((m : Int) ≤ 4))) = _ from q2]; have R2 := Lib.hid (R1.out.keep hb); have HB2 := Lib.hid (HB.out.trans (hb.mono HB.out.size)); clear hb); have x1 : w2.cell? ⟨w.heap.size, 0, none⟩ = some (.slice A n c) := (R2.out.cell 0).trans rfl))
      clear x0 q1 q2
      go_loopw [6, 26] (fun v i wr => ∃ k : Nat, k ≤ n ∧ i = .int .i64 k ∧ Hid (wr.ownsRow w2.heap.size 2 1 v k (intsL (fun i => (i : Int)) k)) ∧ Below w2.heap.size w2 wr) (fun _ i _ => n - (intOf i).toNat)
      case atStart => exact ⟨0, by omega, rfl, Lib.hid (World.ownsRow_nil _ _ _ _), Below.refl _ _⟩
      case round =>
        obtain ⟨k, hk, rfl, hown, hbr⟩ := hrel
        by_cases hlt : k < n
        · have hbs := hbr.size
          go_wp2_with (at_builtin; refine wpList_append_own _ rfl _ _ 26 rfl w2.heap.size 2 i0 (.int .i64 0) 1 8 Try.underlying26 hi hz0 hz1 hz2 rfl (by decide) _ _ _ rfl (hown.out.alloc _) ⟨wr.heap.size, 0, none⟩ 1 1 [.int .i64 (k : Int)] rfl rfl (fun j u hj => by match j, hj with | 0, hj => simp at hj; subst hj; simp [Addr.add]) (fun u hu => by simp at hu; subst hu; rfl) (by unfold maxLen; omega) (by omega) (by simp; omega) ?_; intro v' w1 hown' hgrow _; have hb2 := below_append hbr hbs hown.out hgrow; rw [show intsL (fun i => (i : Int)) k ++ [.int .i64 (k : Int)] = intsL (fun i => (i : Int)) (k + 1) from intsL_succ (fun i => (i : Int)) k] at hown'; have HOWN := Lib.hid hown'; clear hown' hgrow)
          go_roundw
          case rel => exact ⟨k + 1, by omega, by go_num, HOWN, hb2⟩
          case measure => simp [intOf]; omega
        · obtain rfl : n = k := by omega
          obtain ⟨A1, c1, rfl⟩ := own_slice hown.out
          have HS := Lib.hid (sortAny w2.heap.size n A1 c1 pd w.heap.size wr hn12 hbr.size hown.out (fun W hW x y hx hy => due1_calls A n c ps pm pr pd w.heap.size x y W (H.out.below (HB2.out.trans ((hbr.trans hW).mono HB2.out.size)) (Nat.le_refl _)) hn (((R2.out.keep (hbr.trans hW)).cell 0).trans rfl) hx hy))
          go_wp2_with (go_at_call 63; refine HS.out.mono ?_; rintro e w3 ⟨rfl, hb3, hor⟩; have OR := Lib.hid hor; have B3 := Lib.hid (hbr.trans hb3); have B30 := Lib.hid (HB2.out.trans (B3.out.mono HB2.out.size)); have P3 := Lib.hid (H.out.below B30.out (Nat.le_refl _)); have C3 := Lib.hid (H2.out.below B30.out (Nat.le_refl _)); have R3 := Lib.hid (R2.out.keep B3.out); clear hor hb3)
          clear HS hown hbr x1
          go_loopw [39, 8] (fun i v wo => ∃ k : Nat, k ≤ n ∧ i = .int .i64 k ∧ Hid (allB (⟨n, m, pm, pr, pd, cc, ch, cf⟩ : GP).got k = true) ∧ Hid (wo.ownsRow w3.heap.size 105 4 v ((⟨n, m, pm, pr, pd, cc, ch, cf⟩ : GP).hs k).length (heatsL ((⟨n, m, pm, pr, pd, cc, ch, cf⟩ : GP).hs k))) ∧ Below w3.heap.size w3 wo) (fun i _ _ => n - (intOf i).toNat)
          case atStart => exact ⟨0, by omega, rfl, rfl, Lib.hid (World.ownsRow_nil _ _ _ _), Below.refl _ _⟩
          case round =>
            obtain ⟨wo, hwo⟩ : ∃ wo, wo = wr := ⟨_, rfl⟩
            subst hwo
            obtain ⟨k, hk, rfl, hgood, hown, hbr⟩ := hrel
            by_cases hlt : k < n
            · have hX0 : ((⟨n, m, pm, pr, pd, cc, ch, cf⟩ : GP)).o k < n := GP.o_lt (D := (⟨n, m, pm, pr, pd, cc, ch, cf⟩ : GP)) hlt
              have hfr0 := GP.fr_bd HFT.out k (by show k ≤ n; omega)
              have hgk : (⟨n, m, pm, pr, pd, cc, ch, cf⟩ : GP).got k = ((⟨n, m, pm, pr, pd, cc, ch, cf⟩ : GP).best ((⟨n, m, pm, pr, pd, cc, ch, cf⟩ : GP).hs k) ((⟨n, m, pm, pr, pd, cc, ch, cf⟩ : GP).o k) m).isSome := rfl
              have hsk : (⟨n, m, pm, pr, pd, cc, ch, cf⟩ : GP).hs (k + 1) = (⟨n, m, pm, pr, pd, cc, ch, cf⟩ : GP).hs k ++ ((⟨n, m, pm, pr, pd, cc, ch, cf⟩ : GP).best ((⟨n, m, pm, pr, pd, cc, ch, cf⟩ : GP).hs k) ((⟨n, m, pm, pr, pd, cc, ch, cf⟩ : GP).o k) m).toList := rfl
              obtain ⟨bo, oo, rfl, hro⟩ := OR.out (by omega)
              have co : wo.cell? ⟨bo, oo + k, none⟩ = some (.int .i64 ((⟨n, m, pm, pr, pd, cc, ch, cf⟩ : GP).o k : Nat)) := (hbr.cell (p := ⟨bo, oo + k, none⟩) (cell_lt (hro k hlt))).trans (hro k hlt)
              have HRO := Lib.hid hro
              generalize hXe : (⟨n, m, pm, pr, pd, cc, ch, cf⟩ : GP).o k = X at hX0 hgk hsk co
              generalize hLe : (⟨n, m, pm, pr, pd, cc, ch, cf⟩ : GP).hs k = L at hfr0 hgk hsk hown
              have HGK := Lib.hid hgk
              have HSK := Lib.hid hsk
              have HFR := Lib.hid hfr0
              obtain ⟨Ah, chp, rfl⟩ := own_slice hown.out
              have HLEN : Hid (L.length ≤ 1048576) := Lib.hid (by rw [← hLe, GP.hs_len k hgood.out]; omega)
              clear hro hXe hLe hgk hsk hfr0
              go_wp2_with (go_at_call 66; refine (sizeCrucs_calls _ _ _ _ hm).mono ?_; rintro e w5 ⟨rfl, rfl⟩)
              clear co
              go_loopw [46] (fun i wi => ∃ q : Nat, q ≤ m ∧ i = .int .i64 q ∧ Hid (Blk wi wo.heap.size 105 (bestA ((⟨n, m, pm, pr, pd, cc, ch, cf⟩ : GP).best L X q))) ∧ Below wo.heap.size wo wi) (fun i _ => m - (intOf i).toNat)
              case atStart => exact ⟨0, by omega, rfl, Lib.hid (Blk.new wo _ _), (Below.refl _ _).alloc (Nat.le_refl _) _⟩
              case round =>
                obtain ⟨wi, hwi⟩ : ∃ wi, wi = wr := ⟨_, rfl⟩
                subst hwi
                obtain ⟨q, hq, rfl, hbk, hbi⟩ := hrel
                have HBI := Lib.hid hbi
                have HB3 := Lib.hid (hbr.trans (hbi.mono hbr.size))
                by_cases hqm : q < m
                · obtain ⟨b, o, rfl, hrow⟩ := P3.out (by omega)
                  obtain ⟨b2, o2, rfl, hrow2⟩ := C3.out (by omega)
                  obtain ⟨u0, u1, u2, u3⟩ := (hrow X hX0).below HB3.out (Nat.le_refl _)
                  obtain ⟨v0, v1, v2, v3⟩ := (hrow2 q hqm).below HB3.out (Nat.le_refl _)
                  have xb := ((R3.out.keep HB3.out).cell 0).trans rfl
                  obtain ⟨Ah', ch', Gh, hv, hho, -⟩ := heatOwn_of (own_keep hown.out hbi)
                  simp only [Value.slice.injEq, true_and] at hv
                  obtain ⟨rfl, rfl⟩ := hv
                  have hho2 := Lib.hid hho
                  have HR := Lib.hid hrow
                  have HR2 := Lib.hid hrow2
                  have hnx := next_is (s := ps X) (s2 := cs q) (D := (⟨n, m, pm, pr, pd, cc, ch, cf⟩ : GP)) (L := L) (p := X) (c := q) (HPO.out X hX0) (HCR.out q hqm) (HFR.out q hqm)
                  obtain ⟨va, vb, vc, e1, e2, e3, hcase⟩ : ∃ va vb vc : Int, nhA (ps X) (pm X) (pr X) (pd X) (cs q) (cc q) (ch q) (cf q) (fa (ha1 L) (ha3 L) (cf q) q L.length) = va ∧ nhB (ps X) (pm X) (pr X) (pd X) (cs q) (cc q) (ch q) (cf q) (fa (ha1 L) (ha3 L) (cf q) q L.length) = vb ∧ nhC (ps X) (pm X) (pr X) (pd X) (cs q) (cc q) (ch q) (cf q) (fa (ha1 L) (ha3 L) (cf q) q L.length) = vc ∧ (((⟨n, m, pm, pr, pd, cc, ch, cf⟩ : GP).ok L X q = true ∧ va = (⟨n, m, pm, pr, pd, cc, ch, cf⟩ : GP).st L X q ∧ vb = (⟨n, m, pm, pr, pd, cc, ch, cf⟩ : GP).st L X q + ch q ∧ vc = 0) ∨ ((⟨n, m, pm, pr, pd, cc, ch, cf⟩ : GP).ok L X q = false ∧ (vc = 5 ∨ vc = 6))) := by
                    refine ⟨_, _, _, rfl, rfl, rfl, ?_⟩
                    rcases hnx with ⟨k1, k2, k3, k4⟩ | ⟨k1, z, -, kz, -, -, k4⟩
                    · exact Or.inl ⟨k1, k2, k3, k4⟩
                    · exact Or.inr ⟨k1, by rw [← k4] at kz; exact kz⟩
                  have HCASE := Lib.hid hcase
                  have hps1 := hps X hX0
                  have hcs1 := hcs q hqm
                  clear hnx hcase hho hrow hrow2
                  go_wp2_with fail
                  refine wp_gen (fun W0 hW0 => ?_)
                  have s0_ : Below wo.heap.size wo W0 := by rw [hW0]; exact HBI.out
                  have s1_ : W0.cell? ⟨w.heap.size, 0, none⟩ = some (.slice (some ⟨b, o, none⟩) n c) := by rw [hW0]; exact xb
                  have s2_ : W0.cell? ⟨b, o + X * 4, none⟩ = some (.string (ps X)) := by rw [hW0]; exact u0
                  have s3_ : W0.cell? ⟨b, o + X * 4 + 1, none⟩ = some (.int .i64 (pm X)) := by rw [hW0]; exact u1
                  have s4_ : W0.cell? ⟨b, o + X * 4 + 2, none⟩ = some (.int .i64 (pr X)) := by rw [hW0]; exact u2
                  have s5_ : W0.cell? ⟨b, o + X * 4 + 3, none⟩ = some (.int .i64 (pd X)) := by rw [hW0]; exact u3
                  have s6_ : W0.cell? ⟨b2, o2 + q * 4, none⟩ = some (.string (cs q)) := by rw [hW0]; exact v0
                  have s7_ : W0.cell? ⟨b2, o2 + q * 4 + 1, none⟩ = some (.int .i64 (cc q)) := by rw [hW0]; exact v1
                  have s8_ : W0.cell? ⟨b2, o2 + q * 4 + 2, none⟩ = some (.int .i64 (ch q)) := by rw [hW0]; exact v2
                  have s9_ : W0.cell? ⟨b2, o2 + q * 4 + 3, none⟩ = some (.int .i64 (cf q)) := by rw [hW0]; exact v3
                  have s10_ : Blk W0 wo.heap.size 105 (bestA ((⟨n, m, pm, pr, pd, cc, ch, cf⟩ : GP).best L X q)) := by rw [hW0]; exact hbk.out
                  have s11_ : HeatOwn W0 Ah L.length (ha0 L) (ha1 L) (ha2 L) (ha3 L) Gh := by rw [hW0]; exact hho2.out
                  clear xb u0 u1 u2 u3 v0 v1 v2 v3 hbk hbi
                  clear hW0
                  refine wp_region_held_drew (S := fun w' => Below wo.heap.size wo w' ∧ w'.cell? ⟨w.heap.size, 0, none⟩ = some (.slice (some ⟨b, o, none⟩) n c) ∧ w'.cell? ⟨b, o + X * 4, none⟩ = some (.string (ps X)) ∧ w'.cell? ⟨b, o + X * 4 + 1, none⟩ = some (.int .i64 (pm X)) ∧ w'.cell? ⟨b, o + X * 4 + 2, none⟩ = some (.int .i64 (pr X)) ∧ w'.cell? ⟨b, o + X * 4 + 3, none⟩ = some (.int .i64 (pd X)) ∧ w'.cell? ⟨b2, o2 + q * 4, none⟩ = some (.string (cs q)) ∧ w'.cell? ⟨b2, o2 + q * 4 + 1, none⟩ = some (.int .i64 (cc q)) ∧ w'.cell? ⟨b2, o2 + q * 4 + 2, none⟩ = some (.int .i64 (ch q)) ∧ w'.cell? ⟨b2, o2 + q * 4 + 3, none⟩ = some (.int .i64 (cf q)) ∧ Blk w' wo.heap.size 105 (bestA ((⟨n, m, pm, pr, pd, cc, ch, cf⟩ : GP).best L X q)) ∧ HeatOwn w' Ah L.length (ha0 L) (ha1 L) (ha2 L) (ha3 L) Gh) (by kernel_rfl) ?_ (fun hHeld => ?_)
                  · exact ⟨s0_.drew, s1_, s2_, s3_, s4_, s5_, s6_, s7_, s8_, s9_, s10_, s11_⟩
                  clear s0_ s1_ s2_ s3_ s4_ s5_ s6_ s7_ s8_ s9_ s10_ s11_
                  refine take_yes (i := 0) (d := 50) (v := ?_) _ rfl rfl (by kernel_rfl) (by kernel_rfl) (by kernel_rfl) (fun _ _ _ _ h => h) (by rfl) ?_ (by assumption) ?_
                  rotate_left 1
                  · ((intro w hSw; (try dsimp only at hSw); go_simp) <;> (try with_reducible rfl))
                  (try simp only [Act.put, List.setIfInBounds_toArray, List.set_cons_zero, List.set_cons_succ])
                  refine take_yes (i := 1) (d := 51) (v := ?_) _ rfl rfl (by kernel_rfl) (by kernel_rfl) (by kernel_rfl) (fun _ _ _ _ h => h) (by rfl) ?_ (by assumption) ?_
                  rotate_left 1
                  · ((intro w hSw; (try dsimp only at hSw); go_simp) <;> (try with_reducible rfl))
                  (try simp only [Act.put, List.setIfInBounds_toArray, List.set_cons_zero, List.set_cons_succ])
                  refine take_yes (i := 2) (d := 52) (v := ?_) _ rfl rfl (by kernel_rfl) (by kernel_rfl) (by kernel_rfl) (fun _ _ _ _ h => h) (by rfl) ?_ (by assumption) ?_
                  rotate_left 1
                  · ((intro w hSw; (try dsimp only at hSw); go_simp) <;> (try with_reducible rfl))
                  (try simp only [Act.put, List.setIfInBounds_toArray, List.set_cons_zero, List.set_cons_succ])
                  refine take_yes (i := 3) (d := 53) (v := ?_) _ rfl rfl (by kernel_rfl) (by kernel_rfl) (by kernel_rfl) (fun _ _ _ _ h => h) (by rfl) ?_ (by assumption) ?_
                  rotate_left 1
                  · ((intro w hSw; (try dsimp only at hSw); go_simp) <;> (try with_reducible rfl))
                  (try simp only [Act.put, List.setIfInBounds_toArray, List.set_cons_zero, List.set_cons_succ])
                  refine take_yes (i := 4) (d := 54) (v := ?_) _ rfl rfl (by kernel_rfl) (by kernel_rfl) (by kernel_rfl) (fun _ _ _ _ h => h) (by rfl) ?_ (by assumption) ?_
                  rotate_left 1
                  · ((intro w hSw; (try dsimp only at hSw); go_simp) <;> (try with_reducible rfl))
                  (try simp only [Act.put, List.setIfInBounds_toArray, List.set_cons_zero, List.set_cons_succ])
                  refine take_yes (i := 5) (d := 55) (v := ?_) _ rfl rfl (by kernel_rfl) (by kernel_rfl) (by kernel_rfl) (fun _ _ _ _ h => h) (by rfl) ?_ (by assumption) ?_
                  rotate_left 1
                  · ((intro w hSw; (try dsimp only at hSw); go_simp) <;> (try with_reducible rfl))
                  (try simp only [Act.put, List.setIfInBounds_toArray, List.set_cons_zero, List.set_cons_succ])
                  refine take_yes (i := 6) (d := 56) (v := ?_) _ rfl rfl (by kernel_rfl) (by kernel_rfl) (by kernel_rfl) (fun _ _ _ _ h => h) (by rfl) ?_ (by assumption) ?_
                  rotate_left 1
                  · ((intro w hSw; (try dsimp only at hSw); go_simp) <;> (try with_reducible rfl))
                  (try simp only [Act.put, List.setIfInBounds_toArray, List.set_cons_zero, List.set_cons_succ])
                  refine take_yes (i := 7) (d := 57) (v := ?_) _ rfl rfl (by kernel_rfl) (by kernel_rfl) (by kernel_rfl) (fun _ _ _ _ h => h) (by rfl) ?_ (by assumption) ?_
                  rotate_left 1
                  · ((intro w hSw; (try dsimp only at hSw); go_simp) <;> (try with_reducible rfl))
                  (try simp only [Act.put, List.setIfInBounds_toArray, List.set_cons_zero, List.set_cons_succ])
                  refine take_yes (i := 8) (d := 58) (v := ?_) _ rfl rfl (by kernel_rfl) (by kernel_rfl) (by kernel_rfl) (fun _ _ _ _ h => h) (by rfl) ?_ (by assumption) ?_
                  rotate_left 1
                  · ((intro w hSw; (try dsimp only at hSw); go_simp) <;> (try with_reducible rfl))
                  (try simp only [Act.put, List.setIfInBounds_toArray, List.set_cons_zero, List.set_cons_succ])
                  refine take_yes (i := 9) (d := 59) (v := ?_) _ rfl rfl (by kernel_rfl) (by kernel_rfl) (by kernel_rfl) (fun _ _ _ _ h => h) (by rfl) ?_ (by assumption) ?_
                  rotate_left 1
                  · ((intro w hSw; (try dsimp only at hSw); go_simp) <;> (try with_reducible rfl))
                  (try simp only [Act.put, List.setIfInBounds_toArray, List.set_cons_zero, List.set_cons_succ])
                  refine take_yes (i := 10) (d := 60) (v := ?_) _ rfl rfl (by kernel_rfl) (by kernel_rfl) (by kernel_rfl) (fun _ _ _ _ h => h) (by rfl) ?_ (by assumption) ?_
                  rotate_left 1
                  · ((intro w hSw; (try dsimp only at hSw); go_simp) <;> (try with_reducible rfl))
                  (try simp only [Act.put, List.setIfInBounds_toArray, List.set_cons_zero, List.set_cons_succ])
                  (refine wpAnyH_ready (rs := [11]) (by kernel_rfl) (by simp) ?_; refine AllReadyH.cons rfl (fun K hK => ?_) AllReadyH.nil; go_simp; go_at_call 68; refine (freeAfter_calls (some ⟨b2, o2, none⟩) m c2 cs cc ch cf Ah L.length chp (ha0 L) (ha1 L) (ha2 L) (ha3 L) q _ (C3.out.below (hbr.trans ((And.left hHeld).mono hbr.size)) (Nat.le_refl _)) hHeld.2.2.2.2.2.2.2.2.2.2.2.row hqm hm HLEN.out).mono ?_; rintro e wd ⟨rfl, hb⟩; refine hK.out _ _ (by obtain ⟨x0_, x1_, x2_, x3_, x4_, x5_, x6_, x7_, x8_, x9_, x10_, x11_⟩ := hHeld; exact ⟨x0_.trans (hb.mono x0_.size), cell_keep hb x1_, cell_keep hb x2_, cell_keep hb x3_, cell_keep hb x4_, cell_keep hb x5_, cell_keep hb x6_, cell_keep hb x7_, cell_keep hb x8_, cell_keep hb x9_, x10_.keep hb, x11_.keep hb⟩) (fun hHeld2 => ?_); clear hK K hHeld hb; have hHeld := hHeld2; clear hHeld2; (try simp only [Act.put, List.setIfInBounds_toArray, List.set_cons_zero, List.set_cons_succ]))
                  (refine wpAnyH_ready (rs := [12]) (by kernel_rfl) (by simp) ?_; refine AllReadyH.cons rfl (fun K hK => ?_) AllReadyH.nil; go_simp; go_at_call 67; refine (NextHeat_calls (ps X) (pm X) (pr X) (pd X) (cs q) (cc q) (ch q) (cf q) _ _ hps1 hcs1).mono ?_; simp only [e1, e2, e3]; rintro e wd ⟨rfl, hb⟩; refine hK.out _ _ (by obtain ⟨x0_, x1_, x2_, x3_, x4_, x5_, x6_, x7_, x8_, x9_, x10_, x11_⟩ := hHeld; exact ⟨x0_.trans (hb.mono x0_.size), cell_keep hb x1_, cell_keep hb x2_, cell_keep hb x3_, cell_keep hb x4_, cell_keep hb x5_, cell_keep hb x6_, cell_keep hb x7_, cell_keep hb x8_, cell_keep hb x9_, x10_.keep hb, x11_.keep hb⟩) (fun hHeld2 => ?_); clear hK K hHeld hb; have hHeld := hHeld2; clear hHeld2; (try simp only [Act.put, List.setIfInBounds_toArray, List.set_cons_zero, List.set_cons_succ]))
                  refine take_yes (i := 13) (d := 49) (v := ?_) _ rfl rfl (by kernel_rfl) (by kernel_rfl) (by kernel_rfl) (fun _ _ _ _ h => h) (by rfl) ?_ (by assumption) ?_
                  rotate_left 1
                  · ((intro w hSw; (try dsimp only at hSw); go_simp) <;> (try with_reducible rfl))
                  (try simp only [Act.put, List.setIfInBounds_toArray, List.set_cons_zero, List.set_cons_succ])
                  refine take_yes (i := 14) (d := 63) (v := ?_) _ rfl rfl (by kernel_rfl) (by kernel_rfl) (by kernel_rfl) (fun _ _ _ _ h => h) (by rfl) ?_ (by assumption) ?_
                  rotate_left 1
                  · ((intro w hSw; (try dsimp only at hSw); go_simp) <;> (try with_reducible rfl))
                  (try simp only [Act.put, List.setIfInBounds_toArray, List.set_cons_zero, List.set_cons_succ])
                  refine take_yes (i := 15) (d := 64) (v := ?_) _ rfl rfl (by kernel_rfl) (by kernel_rfl) (by kernel_rfl) (fun _ _ _ _ h => h) (by rfl) ?_ (by assumption) ?_
                  rotate_left 1
                  · ((intro w hSw; (try dsimp only at hSw); go_simp) <;> (try with_reducible rfl))
                  (try simp only [Act.put, List.setIfInBounds_toArray, List.set_cons_zero, List.set_cons_succ])
                  refine take_yes (i := 16) (d := 65) (v := ?_) _ rfl rfl (by kernel_rfl) (by kernel_rfl) (by kernel_rfl) (fun _ _ _ _ h => h) (by rfl) ?_ (by assumption) ?_
                  rotate_left 1
                  · ((intro w hSw; (try dsimp only at hSw); go_simp) <;> (try with_reducible rfl))
                  (try simp only [Act.put, List.setIfInBounds_toArray, List.set_cons_zero, List.set_cons_succ])
                  refine take_yes (i := 17) (d := 13) (v := ?_) _ rfl rfl (by kernel_rfl) (by kernel_rfl) (by kernel_rfl) (fun _ _ _ _ h => h) (by rfl) ?_ (by assumption) ?_
                  rotate_left 1
                  · ((intro w hSw; (try dsimp only at hSw); go_simp) <;> (try with_reducible rfl))
                  (try simp only [Act.put, List.setIfInBounds_toArray, List.set_cons_zero, List.set_cons_succ])
                  refine take_yes (i := 18) (d := 14) (v := ?_) _ rfl rfl (by kernel_rfl) (by kernel_rfl) (by kernel_rfl) (fun _ _ _ _ h => h) (by rfl) ?_ (by assumption) ?_
                  rotate_left 1
                  · ((intro w hSw; (try dsimp only at hSw); go_simp) <;> (try with_reducible rfl))
                  (try simp only [Act.put, List.setIfInBounds_toArray, List.set_cons_zero, List.set_cons_succ])
                  refine take_yes (i := 19) (d := 15) (v := ?_) _ rfl rfl (by kernel_rfl) (by kernel_rfl) (by kernel_rfl) (fun _ _ _ _ h => h) (by rfl) ?_ (by assumption) ?_
                  rotate_left 1
                  · ((intro w hSw; (try dsimp only at hSw); go_simp) <;> (try with_reducible rfl))
                  (try simp only [Act.put, List.setIfInBounds_toArray, List.set_cons_zero, List.set_cons_succ])
                  refine wpAnyH_done (by kernel_rfl) ?_ _
                  obtain ⟨z0, z1, z2, z3, z4, z5, z6, z7, z8, z9, z10, z11⟩ := hHeld
                  have HB4 := Lib.hid z0
                  have HK4 := Lib.hid z10
                  have y0 := z10.frozen
                  clear z0 z1 z2 z3 z4 z5 z6 z7 z8 z9 z11 e1 e2 e3
                  rcases HCASE.out with ⟨k1, rfl, rfl, rfl⟩ | ⟨k1, kz⟩
                  · have hbd : ∀ h, (⟨n, m, pm, pr, pd, cc, ch, cf⟩ : GP).best L X q = some h → 1 ≤ h.e := fun h hh => (GP.best_bd HFT.out HFR.out hX0 (show q ≤ m by omega) hh).2.2.1
                    generalize hS : (⟨n, m, pm, pr, pd, cc, ch, cf⟩ : GP).st L X q = S
                    cases hb : (⟨n, m, pm, pr, pd, cc, ch, cf⟩ : GP).best L X q with
                    | none =>
                      have hyes := best_yes (D := (⟨n, m, pm, pr, pd, cc, ch, cf⟩ : GP)) k1 (by rw [hb]; rfl)
                      rw [hb] at z10
                      have x0 : wd.cell? ⟨wo.heap.size, 0, none⟩ = some (.int .i64 0) := (z10.cell 0).trans rfl
                      have x1 : wd.cell? ⟨wo.heap.size, 1, none⟩ = some (.int .i64 0) := (z10.cell 1).trans rfl
                      have x2 : wd.cell? ⟨wo.heap.size, 2, none⟩ = some (.int .i64 0) := (z10.cell 2).trans rfl
                      have x3 : wd.cell? ⟨wo.heap.size, 3, none⟩ = some (.int .i64 (-1)) := (z10.cell 3).trans rfl
                      rw [hS] at hyes
                      have HY := Lib.hid hyes
                      clear hyes hbd z10
                      go_wp2
                      go_roundw
                      case rel =>
                        refine ⟨q + 1, by omega, by go_num, Lib.hid ?_, ?_⟩
                        · rw [HY.out]
                          rw [hb] at HK4
                          exact ((((HK4.out.set_ 0 _).set_ 1 _).set_ 2 _).set_ 3 _)
                        · exact (((HB4.out.setCell (Nat.le_refl _) _).setCell (Nat.le_refl _) _).setCell (Nat.le_refl _) _).setCell (Nat.le_refl _) _
                      case measure => simp [intOf]; omega
                    | some h =>
                      rw [hb] at z10
                      have h1 := hbd h hb
                      have h2 : ¬ h.e < 0 := by omega
                      have x0 : wd.cell? ⟨wo.heap.size, 0, none⟩ = some (.int .i64 h.p) := (z10.cell 0).trans rfl
                      have x1 : wd.cell? ⟨wo.heap.size, 1, none⟩ = some (.int .i64 h.c) := (z10.cell 1).trans rfl
                      have x2 : wd.cell? ⟨wo.heap.size, 2, none⟩ = some (.int .i64 h.s) := (z10.cell 2).trans rfl
                      have x3 : wd.cell? ⟨wo.heap.size, 3, none⟩ = some (.int .i64 h.e) := (z10.cell 3).trans rfl
                      by_cases hl : S + ch q < h.e
                      · have hyes := best_yes (D := (⟨n, m, pm, pr, pd, cc, ch, cf⟩ : GP)) k1 (by rw [hb, hS]; exact decide_eq_true hl)
                        rw [hS] at hyes
                        have HY := Lib.hid hyes
                        clear hyes hbd z10
                        go_wp2
                        go_roundw
                        case rel =>
                          refine ⟨q + 1, by omega, by go_num, Lib.hid ?_, ?_⟩
                          · rw [HY.out]
                            rw [hb] at HK4
                            exact ((((HK4.out.set_ 0 _).set_ 1 _).set_ 2 _).set_ 3 _)
                          · exact (((HB4.out.setCell (Nat.le_refl _) _).setCell (Nat.le_refl _) _).setCell (Nat.le_refl _) _).setCell (Nat.le_refl _) _
                        case measure => simp [intOf]; omega
                      · have hno := best_no (D := (⟨n, m, pm, pr, pd, cc, ch, cf⟩ : GP)) (L := L) (p := X) (c := q) (by rw [k1, hb, hS]; exact decide_eq_false hl)
                        have HN := Lib.hid hno
                        clear hno hbd z10
                        go_wp2
                        go_roundw
                        case rel => exact ⟨q + 1, by omega, by go_num, Lib.hid (by rw [HN.out]; exact HK4.out), HB4.out⟩
                        case measure => simp [intOf]; omega
                  · have hno := best_no (D := (⟨n, m, pm, pr, pd, cc, ch, cf⟩ : GP)) (L := L) (p := X) (c := q) (by rw [k1]; rfl)
                    have HN := Lib.hid hno
                    clear hno z10
                    rcases kz with rfl | rfl
                    all_goals
                      go_wp2
                      go_roundw
                    all_goals first
                      | exact ⟨q + 1, by omega, by go_num, Lib.hid (by rw [HN.out]; exact HK4.out), HB4.out⟩
                      | (simp [intOf]; omega)
                · obtain rfl : m = q := by omega
                  have hown2 := own_keep hown.out hbi
                  have HOW := Lib.hid hown2
                  have hll := HLEN.out
                  obtain ⟨wd, hwd⟩ : ∃ wd, wd = wi := ⟨_, rfl⟩
                  subst hwd
                  have z10 := hbk.out
                  cases hb : (⟨n, m, pm, pr, pd, cc, ch, cf⟩ : GP).best L X m with
                  | none =>
                    rw [hb] at z10
                    have x0 : wd.cell? ⟨wo.heap.size, 0, none⟩ = some (.int .i64 0) := (z10.cell 0).trans rfl
                    have x1 : wd.cell? ⟨wo.heap.size, 1, none⟩ = some (.int .i64 0) := (z10.cell 1).trans rfl
                    have x2 : wd.cell? ⟨wo.heap.size, 2, none⟩ = some (.int .i64 0) := (z10.cell 2).trans rfl
                    have x3 : wd.cell? ⟨wo.heap.size, 3, none⟩ = some (.int .i64 (-1)) := (z10.cell 3).trans rfl
                    have hgn : allB (⟨n, m, pm, pr, pd, cc, ch, cf⟩ : GP).got n = false := got_no hlt (by rw [HGK.out, hb]; rfl)
                    have HGN := Lib.hid hgn
                    clear hgn z10 hown2
                    go_wp2
                    exact bodyPost_ret (v := .tuple #[.slice none 0 0, .int .i64 3]) (by simp [results, Try.results23, go_sem]) rfl (GhOut.none (B30.out.trans (HB3.out.mono B30.out.size)) (GHL.out _ HGN.out) (GHC.out _ HGN.out))
                  | some h =>
                    rw [hb] at z10
                    have h2 : ¬ h.e < 0 := by have := (GP.best_bd HFT.out HFR.out hX0 (Nat.le_refl m) hb).2.2.1; omega
                    have x0 : wd.cell? ⟨wo.heap.size, 0, none⟩ = some (.int .i64 h.p) := (z10.cell 0).trans rfl
                    have x1 : wd.cell? ⟨wo.heap.size, 1, none⟩ = some (.int .i64 h.c) := (z10.cell 1).trans rfl
                    have x2 : wd.cell? ⟨wo.heap.size, 2, none⟩ = some (.int .i64 h.s) := (z10.cell 2).trans rfl
                    have x3 : wd.cell? ⟨wo.heap.size, 3, none⟩ = some (.int .i64 h.e) := (z10.cell 3).trans rfl
                    have hsn : (⟨n, m, pm, pr, pd, cc, ch, cf⟩ : GP).hs (k + 1) = L ++ [h] := by rw [HSK.out, hb]; rfl
                    have hgn : (⟨n, m, pm, pr, pd, cc, ch, cf⟩ : GP).got k = true := by rw [HGK.out, hb]; rfl
                    have HSN := Lib.hid hsn
                    have HGN := Lib.hid hgn
                    have hbs := HB3.out.size
                    clear hsn hgn z10 hown2
                    go_wp2_with (at_builtin; refine wpList_append_own _ rfl _ _ 44 rfl w3.heap.size 105 i1 (.agg #[.int .i64 0, .int .i64 0, .int .i64 0, .int .i64 0]) 4 32 Try.underlying44 hj hy0 hy1 hy2 rfl (by decide) _ _ _ rfl (HOW.out.alloc _) ⟨wd.heap.size, 0, none⟩ 1 1 (heatC h) rfl rfl (fun j u hj => by match j, hj with | 0, hj => simp [heatC] at hj; subst hj; simp [Addr.add] | 1, hj => simp [heatC] at hj; subst hj; simp [Addr.add] | 2, hj => simp [heatC] at hj; subst hj; simp [Addr.add] | 3, hj => simp [heatC] at hj; subst hj; simp [Addr.add]) (fun u hu => by simp [heatC] at hu; rcases hu with rfl | rfl | rfl | rfl <;> rfl) (by unfold maxLen; omega) (by omega) (by simp; omega) ?_; intro v' w9 hown' hgrow _; have hb2 := below_append HB3.out hbs HOW.out hgrow; rw [heatsL_snoc] at hown'; have HOWN := Lib.hid hown'; clear hown' hgrow)
                    go_roundw
                    case rel => exact ⟨k + 1, by omega, by go_num, Lib.hid (by rw [show allB (⟨n, m, pm, pr, pd, cc, ch, cf⟩ : GP).got (k + 1) = (allB (⟨n, m, pm, pr, pd, cc, ch, cf⟩ : GP).got k && (⟨n, m, pm, pr, pd, cc, ch, cf⟩ : GP).got k) from rfl, hgood.out, HGN.out]; rfl), Lib.hid (by rw [HSN.out, List.length_append]; exact HOWN.out), hb2⟩
                    case measure => simp [intOf]; omega
            · obtain rfl : n = k := by omega
              obtain ⟨Ar, cr_, Gr, hv, hho, hgb⟩ := heatOwn_of hown.out
              subst hv
              have HHO := Lib.hid hho
              have hz := B30.out.size
              clear hho
              go_wp2
              refine bodyPost_ret (v := .tuple #[.slice Ar ((⟨n, m, pm, pr, pd, cc, ch, cf⟩ : GP).hs n).length cr_, .int .i64 0]) (by simp [results, Try.results23, go_sem]) rfl ?_
              unfold GhOut
              rw [GHC.out _ hgood.out, GHL.out _ hgood.out]
              exact ⟨_, rfl, Ar, cr_, Gr, rfl, HHO.out, by omega, B30.out.trans (hbr.mono B30.out.size)⟩
end Go.Proofs.Ytonoeohmpaegdaa
