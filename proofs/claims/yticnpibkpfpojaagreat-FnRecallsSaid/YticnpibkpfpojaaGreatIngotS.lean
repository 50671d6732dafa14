/- The choice of a melt's ingots, in the reference. -/
import Derived.Test.YticnpibkpfpojaaGreatIngotN
namespace Go.Proofs.YticnpibkpfpojaaGreat
set_option linter.unusedVariables false
open Go.RowKit

theorem hasId_at {s0 : Nat → ByteArray} {n j : Nat} {x : ByteArray} (hj : j < n) (h : eqS (s0 j) x = true) : hasId s0 n x = true := by
  unfold hasId anyB
  rw [allB_no hj (show (!eqS (s0 j) x) = false by rw [h]; rfl)]
  rfl
def sel1 (q : Bool) : Nat := if q = true then 1 else 0
set_option maxRecDepth 20000 in
set_option maxHeartbeats 8000000 in
theorem sChosen_calls (A : Option Addr) (n c : Nat) (s0 : Nat → ByteArray) (a1 a2 a3 a4 : Nat → Int) (b o : Nat) (x : MeltV) (w : World) (h : IngotRow w A n s0 a1 a2 a3 a4) (hn : n ≤ 1048576) (hs : Srt s0 n) (h2 : MeltAt w b o x) (hq : x.n ≤ 1048576) :
    Calls Tryz.prog 127 #[.slice A n c, .pointer (some ⟨b, o, none⟩)] w fun e w' => ChoiceOut s0 n x.ss x.n w e w' := by
  obtain ⟨i0, hi, hz0, hz1, hz2⟩ := info_parts Int64_info
  obtain ⟨AK, CK, m0, m1, m2, m3⟩ := h2
  generalize x.ss = ss at *
  generalize x.n = q at *
  have H := Lib.hid h
  have H2 := Lib.hid m3
  have HM1 := Lib.hid m1
  have HS := Lib.hid hs
  have HL := Lib.hid (World.ownsRow_lit (base := w.heap.size) (e := 2) (size := 1) w #[] 0 (Nat.le_refl _) (by unfold maxLen; omega) rfl)
  have HB0 := Lib.hid ((Below.refl w.heap.size w).alloc (Nat.le_refl _) (.cells #[] 2))
  clear h m0 m1 m2 m3 hs
  go_enter Tryz.func127, Tryz.ntmps127
  go_wp2
  go_loopw [6, 7] (fun v i wr => ∃ k : Nat, k ≤ q ∧ i = .int .i64 k ∧ Hid (wr.ownsRow w.heap.size 2 1 v k (intsL (chV s0 n ss) k)) ∧ Hid (allHave s0 n ss k = true) ∧ Below w.heap.size w wr) (fun _ i _ => q - (intOf i).toNat)
  case atStart => exact ⟨0, by omega, rfl, HL, Lib.hid rfl, HB0.out⟩
  case round =>
    obtain ⟨k, hk, rfl, hown, hall, hbr⟩ := hrel
    have m1 := cell_keep hbr HM1.out
    by_cases hlt : k < q
    · obtain ⟨b2, o2, rfl, hrow2⟩ := H2.out (by omega)
      obtain ⟨x, hx⟩ : ∃ x, x = ss k := ⟨_, rfl⟩
      have HC0 := Lib.hid (show w.cell? ⟨b2, o2 + k, none⟩ = some (.string x) by rw [hx]; exact hrow2 k hlt)
      have HX := Lib.hid hx
      have HR2 := Lib.hid hrow2
      clear hrow2 hx
      go_wp2
      go_loopw [6, 8, 9] (fun v fd i wr => ∃ (j : Nat) (p : Bool), j ≤ n ∧ i = .int .i64 j ∧ fd = .bool p ∧ Hid (p = anyB (fun t => eqS (s0 t) x) j) ∧ Hid (wr.ownsRow w.heap.size 2 1 v (k + sel1 p) (intsL (chV s0 n ss) (k + sel1 p))) ∧ Below w.heap.size w wr) (fun _ _ i _ => n - (intOf i).toNat)
      case atStart => exact ⟨0, false, by omega, rfl, rfl, Lib.hid rfl, hown, hbr⟩
      case round =>
        clear hown hbr m1
        obtain ⟨j, p, hj, rfl, rfl, hp, hown, hbr⟩ := hrel
        have m1 := cell_keep hbr HM1.out
        have c0 := cell_keep hbr HC0.out
        by_cases hlt2 : j < n
        · obtain ⟨b3, o3, rfl, hrow⟩ := H.out (by omega)
          obtain ⟨d0, d1, d2, d3, d4⟩ := (hrow j hlt2).below hbr (Nat.le_refl _)
          have HR := Lib.hid hrow
          obtain ⟨y, hy⟩ : ∃ y, y = s0 j := ⟨_, rfl⟩
          rw [← hy] at d0
          have hany := anyB_succ (fun t => eqS (s0 t) x) j
          rw [← hp.out] at hany
          have hyx : eqS (s0 j) x = (y.toList == x.toList) := by rw [hy]; rfl
          rw [hyx] at hany
          have HYX := Lib.hid hyx
          clear hrow hy hyx
          cases q1 : (y.toList == x.toList)
          · rw [q1, Bool.or_false] at hany
            have HANY := Lib.hid hany
            clear hany
            go_wp2_with fail
            go_quiet (fail)
            go_wp2
            go_roundw
            case rel => exact ⟨j + 1, p, by omega, by go_num, rfl, Lib.hid HANY.out.symm, hown, below_drewN hbr _⟩
            case measure => simp [intOf]; omega
          · rw [q1] at HYX
            rw [q1, Bool.or_true] at hany
            have hpf : p = false := by
              cases hpp : p
              · rfl
              · exfalso
                rw [hp.out] at hpp
                obtain ⟨t, ht, hte⟩ := anyB_of hpp
                have := srt_uniq HS.out (show t < n by omega) hlt2 hte HYX.out
                omega
            subst hpf
            have HANY := Lib.hid hany
            have HK := Lib.hid (show (j : Int) = chV s0 n ss k by
              obtain ⟨i1, i2, i3⟩ := mIx_of (hasId_at hlt2 HYX.out)
              unfold chV
              rw [← HX.out, srt_uniq HS.out hlt2 i1 HYX.out i3])
            have hown2 : Hid (wr.ownsRow w.heap.size 2 1 _ k (intsL (chV s0 n ss) k)) := hown
            clear hany hown hp
            go_wp2_with fail
            go_quiet (fail)
            generalize hW0 : World.drewN wr _ = W0
            have hown3 : Hid (W0.ownsRow w.heap.size 2 1 _ k (intsL (chV s0 n ss) k)) := Lib.hid (by rw [← hW0]; exact hown2.out)
            have hbr3 : Below w.heap.size w W0 := by rw [← hW0]; exact below_drewN hbr _
            clear hown2 hbr hW0 m1 c0 d0 d1 d2 d3 d4
            go_wp2_with (at_builtin; refine wpList_append_own _ rfl _ _ 79 rfl w.heap.size 2 i0 (.int .i64 0) 1 8 Tryz.underlying79 hi hz0 hz1 hz2 rfl (by decide) _ _ _ rfl (hown3.out.alloc _) ⟨W0.heap.size, 0, none⟩ 1 1 [.int .i64 j] rfl rfl (fun j u hj => by match j, hj with | 0, hj => simp at hj; subst hj; simp [Addr.add]) (fun u hu => by simp at hu; subst hu; rfl) (by unfold maxLen; omega) (by omega) (by have := hbr3.size; simp; omega) ?_; intro v' w2 hown' hgrow _; have hb2 := below_append hbr3 hbr3.size hown3.out hgrow; rw [HK.out, intsL_succ] at hown'; have HOWN := Lib.hid hown'; have HB2 := Lib.hid hb2; clear hown' hgrow hb2)
            go_roundw
            case rel => exact ⟨j + 1, true, by omega, by go_num, rfl, Lib.hid HANY.out.symm, HOWN, HB2.out⟩
            case measure => simp [intOf]; omega
        · have hjn : j = n := by omega
          subst hjn
          have HP := Lib.hid (show hasId s0 j x = p from hp.out.symm)
          cases p
          · have HF := Lib.hid (show allHave s0 j ss q = false from allB_no hlt (by rw [← HX.out]; exact HP.out))
            go_wp2
            refine bodyPost_ret (v := .tuple #[.slice none 0 0, .bool false]) (by simp [results, Tryz.results127, go_sem]) rfl ?_
            exact ⟨_, by rw [HF.out], (fun h => by rw [HF.out] at h; cases h), hbr⟩
          · have HA := Lib.hid (show allHave s0 j ss (k + 1) = true by rw [show allHave s0 j ss (k + 1) = (allHave s0 j ss k && hasId s0 j (ss k)) from rfl, hall.out, ← HX.out, HP.out]; rfl)
            go_wp2
            go_roundw
            case rel => exact ⟨k + 1, by omega, by go_num, hown, HA, hbr⟩
            case measure => simp [intOf]; omega
    · obtain rfl : k = q := by omega
      obtain ⟨A', c', G, rfl, hio, hG⟩ := intOwn_of hown.out hbr.size
      have HIO := Lib.hid hio.row
      clear hio
      go_wp2
      refine bodyPost_ret (v := .tuple #[.slice A' k c', .bool true]) (by simp [results, Tryz.results127, go_sem]) rfl ?_
      exact ⟨_, by rw [hall.out], fun _ => ⟨A', c', rfl, HIO.out⟩, hbr⟩
end Go.Proofs.YticnpibkpfpojaaGreat
