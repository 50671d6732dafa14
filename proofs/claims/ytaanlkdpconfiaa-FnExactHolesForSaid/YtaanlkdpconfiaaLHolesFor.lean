/- FnExactHolesFor: the program's HolesFor and the reference's give the same of every profile, wall and holes. No further condition. -/


import Derived.Test.YtaanlkdpconfiaaRows
import Derived.Test.YtaanlkdpconfiaaFrame
import Derived.Test.YtaanlkdpconfiaaMarkH
namespace Go.Proofs.Ytaanlkdpconfiaa.FnExactHolesFor
set_option linter.unusedVariables false
set_option linter.unusedSimpArgs false
open Go.ChangeShapes Go.WideShapes Go.ChangeAt Go.RowKit Go.Deep
open Go.ChangeMaps (open_string shut_string)
theorem slice_cell {H : Type} {enc : TypeId × Value → H} {P : Program} {w : World} {base : Nat} {spare : Nat → Bool} {held : Bool} {t e : TypeId} {fuel : Nat} {v : Value} {x : DataW H × List MemPlace} (ht : P.underlying t = some (.slice e)) (h : DataW.trod enc P w base spare held fuel t [v] = some x) :
    ∃ A n c, v = .slice A n c := by
  rcases open_slice ht h with ⟨hcs, -⟩ | ⟨a, len, cap, m, fu, D, Pl, hcs, -⟩
  · exact ⟨_, _, _, one_cell hcs⟩
  · exact ⟨_, _, _, one_cell hcs⟩
theorem own_lt {w : World} {A : Option Addr} {n G : Nat} {p q h : Nat → Int} (ho : RingOwn w A n p q h G) (hn : 0 < n) : G < w.heap.size := by
  obtain ⟨-, arr, hb, -⟩ := ho hn
  exact hb.lt
theorem own_grown {w w' : World} {A : Option Addr} {n G H : Nat} {p q h : Nat → Int} (ho : RingOwn w A n p q h G) (hg : w.grownBy w' (some H)) (hne : 0 < n → G ≠ H) : RingOwn w' A n p q h G := fun hn => ho.grown hg (hne hn) hn
theorem both (s : ByteArray) (n : Nat) (p q h : Nat → Int) (wall : Int) (m : Nat) (ht : Nat → ByteArray) (hr hd : Nat → Int) (hs : s.size ≤ maxLen) (hn : n ≤ 1048576) (hts : ∀ i, i < m → (ht i).size ≤ maxLen) (hm : m ≤ maxLen) (hm2 : m ≤ 1048576) : ∃ (L : Nat) (P : Nat → Int) (code : Int), L ≤ 1048576 ∧
    (∀ W A c B c2, RingRow W A n p q h → HoleRow W B m ht hr hd → Calls Try.prog 64 #[.agg #[.string s, .slice A n c], .int .i64 wall, .slice B m c2] W fun e w' => ∃ v, e = .returned (.tuple #[v, .int .i64 code]) ∧ IntsOut W L P v w') ∧
    (∀ W A c B c2, RingRow W A n p q h → HoleRow W B m ht hr hd → Calls Try.prog 65 #[.agg #[.string s, .slice A n c], .int .i64 wall, .slice B m c2] W fun e w' => ∃ v, e = .returned (.tuple #[v, .int .i64 code]) ∧ IntsOut W L P v w') := by
  refine ⟨_, _, _, ?_, fun W A c B c2 hr1 hr2 => sHolesFor_calls s A n c p q h wall B m c2 ht hr hd W hs hr1 hn hr2 hts hm hm2, fun W A c B c2 hr1 hr2 => HolesFor_calls s A n c p q h wall B m c2 ht hr hd W hs hr1 hn hr2 hts hm hm2⟩
  cases hfB s n p q h wall m ht hr hd
  · exact Nat.zero_le _
  · exact Nat.le_trans (hits_len _ _) hm2
set_option maxHeartbeats 8000000 in
theorem walk (s : ByteArray) (A : Option Addr) (n c : Nat) (p q h : Nat → Int) (wall : Int) (B : Option Addr) (m c2 : Nat) (ht : Nat → ByteArray) (hr hd : Nat → Int) (w : World) (hs : s.size ≤ maxLen) (hrow1 : RingRow w A n p q h) (hn : n ≤ maxLen) (_ : ∀ i, i < n → (Lit.int .i64 (p i)).wf = true) (_ : ∀ i, i < n → (Lit.int .i64 (q i)).wf = true) (_ : ∀ i, i < n → (Lit.int .i64 (h i)).wf = true) (_ : (Lit.int .i64 wall).wf = true) (hrow2 : HoleRow w B m ht hr hd) (hm : m ≤ maxLen) (hts : ∀ i, i < m → (ht i).size ≤ maxLen) (_ : ∀ i, i < m → (Lit.int .i64 (hr i)).wf = true) (_ : ∀ i, i < m → (Lit.int .i64 (hd i)).wf = true) :
    Calls Try.prog 11 #[.agg #[.string s, .slice A n c], .int .i64 wall, .slice B m c2] w fun e w' => e = .returned (.bool true) ∧ Below w.heap.size w w' := by
  have hB0 := (Below.refl w.heap.size w).alloc (Nat.le_refl _) (.cells #[.string s, .slice A n c] 80)
  have HR := Lib.hid hrow1
  have HH := Lib.hid hrow2
  have HT := Lib.hid hts
  clear hrow1 hrow2 hts
  by_cases hbig : (1048576 : Int) < s.size + (n : Int)
  · go_enter Try.func11, Try.ntmps11
    go_wp2_with (go_at_call 53; refine (szProfile_calls s A n c p q h _ _ hs hn (by omega) (by omega)).mono ?_; rw [show szP 1048576 s n = -1 by unfold szP; rw [if_pos hbig]]; rintro e w1 ⟨rfl, hb⟩)
    go_ret
    exact ⟨rfl, hB0.trans (hb.mono (by simp))⟩
  · have hl : szP 1048576 s n = 1048576 - (s.size + (n : Int)) := by unfold szP; rw [if_neg hbig]
    obtain ⟨L0, hL0⟩ : ∃ L0 : Int, L0 = 1048576 - (s.size + (n : Int)) := ⟨_, rfl⟩
    rw [← hL0] at hl
    have hL1 : 0 ≤ L0 := by omega
    have hL2 : L0 ≤ 1048576 := by omega
    have hn2 : n ≤ 1048576 := by omega
    have HL := Lib.hid hl
    clear hl hL0
    by_cases hbig2 : L0 < (m : Int) + sumS ht m
    · go_enter Try.func11, Try.ntmps11
      go_wp2_with fail
      go_at_call 53
      refine (szProfile_calls s A n c p q h _ _ hs hn (by omega) (by omega)).mono ?_
      rw [HL.out]
      rintro e w1 ⟨rfl, hb⟩
      have k1 := Lib.hid (hB0.trans (hb.mono (by simp)))
      clear hb hB0
      go_wp2_with (go_at_call 42; refine (szHoleS_calls _ _ _ _ _ _ _ _ (HH.out.below k1.out (Nat.le_refl _)) HT.out hm (by omega) (by omega)).mono ?_; rw [if_pos hbig2]; rintro e w2 ⟨rfl, hb⟩; replace k1 := Lib.hid (k1.out.trans (hb.mono k1.out.size)); clear hb)
      go_ret
      exact ⟨rfl, k1.out⟩
    · have hm2 : m ≤ 1048576 := by omega
      obtain ⟨L, P, code, hL, hcs, hci⟩ := both s n p q h wall m ht hr hd hs hn2 HT.out hm hm2
      have CS := Lib.hid hcs
      have CI := Lib.hid hci
      clear hcs hci
      obtain ⟨L3, hL3⟩ : ∃ L3 : Int, L3 = L0 - ((m : Int) + sumS ht m) := ⟨_, rfl⟩
      have hL4 : 0 ≤ L3 := by omega
      have HL3 := Lib.hid hL3
      clear hL3
      go_enter Try.func11, Try.ntmps11
      go_wp2_with fail
      go_at_call 53
      refine (szProfile_calls s A n c p q h _ _ hs hn (by omega) (by omega)).mono ?_
      rw [HL.out]
      rintro e w1 ⟨rfl, hb⟩
      have B1 := Lib.hid ((Blk.new w 80 #[.string s, .slice A n c]).keep hb)
      have k1 := Lib.hid (hB0.trans (hb.mono (by simp)))
      have sz1 : w.heap.size < w1.heap.size := B1.out.lt
      clear hb hB0
      go_wp2_with fail
      go_at_call 42
      refine (szHoleS_calls _ _ _ _ _ _ _ _ (HH.out.below k1.out (Nat.le_refl _)) HT.out hm (by omega) (by omega)).mono ?_
      rw [if_neg (by omega), ← HL3.out]
      rintro e w2 ⟨rfl, hb⟩
      have sz2 := hb.size
      replace k1 := Lib.hid (k1.out.trans (hb.mono k1.out.size)); replace B1 := Lib.hid (B1.out.keep hb); (try replace X1 := Lib.hid (X1.out.keep hb)); (try replace gw1 := Lib.hid (gw1.out.keep hb)); (try replace gx1 := Lib.hid (gx1.out.keep hb)); (try replace gg1 := Lib.hid (gg1.out.keep hb)); (try replace hh1 := Lib.hid (hh1.out.keep hb))
      clear hb
      have cB0 := (B1.out.cell 0).trans rfl; have cB1 := (B1.out.cell 1).trans rfl
      go_wp2_with fail
      go_at_call 55
      refine (toProfile_calls s A n c p q h _ (HR.out.below k1.out (Nat.le_refl _)) hn2).mono ?_
      rintro e w3 ⟨Gt, rfl, hb, -, -, hc⟩
      have c1 := Lib.hid hc.row
      have sz3 := hb.size
      replace k1 := Lib.hid (k1.out.trans (hb.mono k1.out.size)); replace B1 := Lib.hid (B1.out.keep hb); (try replace X1 := Lib.hid (X1.out.keep hb)); (try replace gw1 := Lib.hid (gw1.out.keep hb)); (try replace gx1 := Lib.hid (gx1.out.keep hb)); (try replace gg1 := Lib.hid (gg1.out.keep hb)); (try replace hh1 := Lib.hid (hh1.out.keep hb))
      clear cB0 cB1
      clear hb hc
      go_wp2_with fail
      go_at_call 45
      refine (toHoleS_calls _ _ _ _ _ _ _ (HH.out.below k1.out (Nat.le_refl _)) hm2).mono ?_
      rintro e w4 ⟨rfl, hb, -, hc⟩
      have c3 := Lib.hid hc
      replace c1 := Lib.hid (c1.out.below hb (Nat.le_refl _))
      have sz4 := hb.size
      replace k1 := Lib.hid (k1.out.trans (hb.mono k1.out.size)); replace B1 := Lib.hid (B1.out.keep hb); (try replace X1 := Lib.hid (X1.out.keep hb)); (try replace gw1 := Lib.hid (gw1.out.keep hb)); (try replace gx1 := Lib.hid (gx1.out.keep hb)); (try replace gg1 := Lib.hid (gg1.out.keep hb)); (try replace hh1 := Lib.hid (hh1.out.keep hb))
      clear hb hc
      go_wp2_with fail
      go_at_call 64
      refine (CS.out _ _ _ _ _ c1.out c3.out).mono ?_
      rintro e w5 ⟨v, rfl, Aw, cw, Gw, rfl, hio, hGw, hb⟩
      have sz5 := hb.size
      replace k1 := Lib.hid (k1.out.trans (hb.mono k1.out.size)); replace B1 := Lib.hid (B1.out.keep hb); (try replace X1 := Lib.hid (X1.out.keep hb)); (try replace gw1 := Lib.hid (gw1.out.keep hb)); (try replace gx1 := Lib.hid (gx1.out.keep hb)); (try replace gg1 := Lib.hid (gg1.out.keep hb)); (try replace hh1 := Lib.hid (hh1.out.keep hb))
      have gw1 := Lib.hid hio
      have hGw2 := fun h0 => hio.lt h0
      clear hb hio c1 c3 CS
      have cB0 := (B1.out.cell 0).trans rfl; have cB1 := (B1.out.cell 1).trans rfl
      go_wp2_with fail
      go_at_call 55
      refine (toProfile_calls s A n c p q h _ (HR.out.below k1.out (Nat.le_refl _)) hn2).mono ?_
      rintro e w6 ⟨Gx, rfl, hb, hx1, hx2, hc⟩
      replace k1 := Lib.hid (k1.out.trans (hb.mono k1.out.size)); replace B1 := Lib.hid (B1.out.keep hb); (try replace X1 := Lib.hid (X1.out.keep hb)); (try replace gw1 := Lib.hid (gw1.out.keep hb)); (try replace gx1 := Lib.hid (gx1.out.keep hb)); (try replace gg1 := Lib.hid (gg1.out.keep hb)); (try replace hh1 := Lib.hid (hh1.out.keep hb))
      clear cB0 cB1
      have gx1 := Lib.hid hc
      clear hb hc
      go_wp2_with fail
      go_at_call 45
      have hal := (Below.refl w6.heap.size w6).alloc (Nat.le_refl _) (.cells #[.string s, .slice (some ⟨Gx, 0, none⟩) n n] 84)
      refine (toHoleS_own _ _ _ _ _ _ _ (HoleRow.below (HH.out.below k1.out (Nat.le_refl _)) hal (Nat.le_refl _)) hm2).mono ?_
      rintro e w7 ⟨rfl, hb0, hgt, hc⟩
      have hb := hal.trans (hb0.mono hal.size)
      simp at hgt
      replace k1 := Lib.hid (k1.out.trans (hb.mono k1.out.size)); replace B1 := Lib.hid (B1.out.keep hb); (try replace X1 := Lib.hid (X1.out.keep hb)); (try replace gw1 := Lib.hid (gw1.out.keep hb)); (try replace gx1 := Lib.hid (gx1.out.keep hb)); (try replace gg1 := Lib.hid (gg1.out.keep hb)); (try replace hh1 := Lib.hid (hh1.out.keep hb))
      have X1 := Lib.hid ((Blk.new w6 84 #[.string s, .slice (some ⟨Gx, 0, none⟩) n n]).keep hb0)
      have hh1 := Lib.hid (show HoleOwn w7 (some ⟨w6.heap.size + 1, 0, none⟩) m ht hr hd (w6.heap.size + 1) by simpa using hc)
      clear hb hb0 hal hc
      have cX0 := (X1.out.cell 0).trans rfl
      have cX1 := (X1.out.cell 1).trans rfl
      go_wp2_with fail
      go_at_call 65
      refine (CI.out _ _ _ _ _ gx1.out.row hh1.out.row).mono ?_
      rintro e w8 ⟨v, rfl, Ag, cg, Gg, rfl, hio, hGg, hb⟩
      replace k1 := Lib.hid (k1.out.trans (hb.mono k1.out.size)); replace B1 := Lib.hid (B1.out.keep hb); (try replace X1 := Lib.hid (X1.out.keep hb)); (try replace gw1 := Lib.hid (gw1.out.keep hb)); (try replace gx1 := Lib.hid (gx1.out.keep hb)); (try replace gg1 := Lib.hid (gg1.out.keep hb)); (try replace hh1 := Lib.hid (hh1.out.keep hb))
      have gg1 := Lib.hid hio
      clear hb hio cX0 cX1
      go_wp2_with fail
      go_at_call 34
      refine (eqInt64S_calls _ _ L _ _ P _ gg1.out.row gw1.out.row hL).mono ?_
      rintro e w9 ⟨rfl, hb⟩
      replace k1 := Lib.hid (k1.out.trans (hb.mono k1.out.size)); replace B1 := Lib.hid (B1.out.keep hb); (try replace X1 := Lib.hid (X1.out.keep hb)); (try replace gw1 := Lib.hid (gw1.out.keep hb)); (try replace gx1 := Lib.hid (gx1.out.keep hb)); (try replace gg1 := Lib.hid (gg1.out.keep hb)); (try replace hh1 := Lib.hid (hh1.out.keep hb))
      clear hb
      go_wp2_with fail
      refine wp_gen (fun W0 hW0 => ?_)
      have s0_ : Below w.heap.size w W0 := by rw [hW0]; exact k1.out
      have s1_ : Blk W0 w6.heap.size 84 #[.string s, .slice (some ⟨Gx, 0, none⟩) n n] := by rw [hW0]; exact X1.out
      have s2_ : Blk W0 w.heap.size 80 #[.string s, .slice A n c] := by rw [hW0]; exact B1.out
      have s3_ : RingOwn W0 (some ⟨Gx, 0, none⟩) n p q h Gx := by rw [hW0]; exact gx1.out
      have s4_ : IntOwn W0 Aw L P Gw := by rw [hW0]; exact gw1.out
      have s5_ : IntOwn W0 Ag L P Gg := by rw [hW0]; exact gg1.out
      have s6_ : HoleOwn W0 (some ⟨w6.heap.size + 1, 0, none⟩) m ht hr hd (w6.heap.size + 1) := by rw [hW0]; exact hh1.out
      have s7_ : W0.cell? ⟨w6.heap.size, 0, none⟩ = some (.string s) := (s1_.cell 0).trans rfl
      have s8_ : W0.cell? ⟨w6.heap.size, 1, none⟩ = some (.slice (some ⟨Gx, 0, none⟩) n n) := (s1_.cell 1).trans rfl
      have s9_ : W0.cell? ⟨w.heap.size, 0, none⟩ = some (.string s) := (s2_.cell 0).trans rfl
      have s10_ : W0.cell? ⟨w.heap.size, 1, none⟩ = some (.slice A n c) := (s2_.cell 1).trans rfl
      clear k1 X1 B1 gx1 gw1 gg1 hh1
      clear hW0
      refine wp_region_held_drew (S := fun w' => Below w.heap.size w w' ∧ Blk w' w6.heap.size 84 #[.string s, .slice (some ⟨Gx, 0, none⟩) n n] ∧ Blk w' w.heap.size 80 #[.string s, .slice A n c] ∧ RingOwn w' (some ⟨Gx, 0, none⟩) n p q h Gx ∧ IntOwn w' Aw L P Gw ∧ IntOwn w' Ag L P Gg ∧ HoleOwn w' (some ⟨w6.heap.size + 1, 0, none⟩) m ht hr hd (w6.heap.size + 1) ∧ w'.cell? ⟨w6.heap.size, 0, none⟩ = some (.string s) ∧ w'.cell? ⟨w6.heap.size, 1, none⟩ = some (.slice (some ⟨Gx, 0, none⟩) n n) ∧ w'.cell? ⟨w.heap.size, 0, none⟩ = some (.string s) ∧ w'.cell? ⟨w.heap.size, 1, none⟩ = some (.slice A n c)) (by kernel_rfl) ?_ (fun hHeld => ?_)
      · exact ⟨s0_.drew, s1_, s2_, s3_, s4_, s5_, s6_, s7_, s8_, s9_, s10_⟩
      clear s0_ s1_ s2_ s3_ s4_ s5_ s6_ s7_ s8_ s9_ s10_
      refine take_yes (i := 0) (d := 58) (v := ?_) _ rfl rfl (by kernel_rfl) (by kernel_rfl) (by kernel_rfl) (fun _ _ _ _ h => h) (by rfl) ?_ (by assumption) ?_
      rotate_left 1
      · ((intro w hSw; (try dsimp only at hSw); go_simp) <;> (try with_reducible rfl))
      (try simp only [Act.put, List.setIfInBounds_toArray, List.set_cons_zero, List.set_cons_succ])
      refine take_yes (i := 1) (d := 59) (v := ?_) _ rfl rfl (by kernel_rfl) (by kernel_rfl) (by kernel_rfl) (fun _ _ _ _ h => h) (by rfl) ?_ (by assumption) ?_
      rotate_left 1
      · ((intro w hSw; (try dsimp only at hSw); go_simp) <;> (try with_reducible rfl))
      (try simp only [Act.put, List.setIfInBounds_toArray, List.set_cons_zero, List.set_cons_succ])
      (refine wpAnyH_ready (rs := [2]) (by kernel_rfl) (by simp) ?_; refine AllReadyH.cons rfl (fun K hK => ?_) AllReadyH.nil; go_simp; go_at_call 55; refine (toProfile_calls s A n c p q h _ (HR.out.below (And.left hHeld) (Nat.le_refl _)) hn2).mono ?_; rintro e wd ⟨G3, rfl, hb, g1, g2, hnew⟩; refine hK.out _ _ (by obtain ⟨x0_, x1_, x2_, x3_, x4_, x5_, x6_, x7_, x8_, x9_, x10_⟩ := hHeld; exact ⟨x0_.trans (hb.mono x0_.size), x1_.keep hb, x2_.keep hb, x3_.keep hb, x4_.keep hb, x5_.keep hb, x6_.keep hb, cell_keep hb x7_, cell_keep hb x8_, cell_keep hb x9_, cell_keep hb x10_⟩) (fun hHeld2 => ?_); clear hK K hHeld hb; have hHeld := hHeld2; clear hHeld2; (try simp only [Act.put, List.setIfInBounds_toArray, List.set_cons_zero, List.set_cons_succ]))
      (refine wpAnyH_ready (rs := [3]) (by kernel_rfl) (by simp) ?_; refine AllReadyH.cons rfl (fun K hK => ?_) AllReadyH.nil; go_simp; go_at_call 57; refine (eqProfile_calls s _ _ n _ _ p q h _ hHeld.2.2.2.1.row hnew.row hn2).mono ?_; rintro e wd ⟨rfl, hb⟩; refine hK.out _ _ (by obtain ⟨x0_, x1_, x2_, x3_, x4_, x5_, x6_, x7_, x8_, x9_, x10_⟩ := hHeld; exact ⟨x0_.trans (hb.mono x0_.size), x1_.keep hb, x2_.keep hb, x3_.keep hb, x4_.keep hb, x5_.keep hb, x6_.keep hb, cell_keep hb x7_, cell_keep hb x8_, cell_keep hb x9_, cell_keep hb x10_⟩) (fun hHeld2 => ?_); clear hK K hHeld hb; have hHeld := hHeld2; clear hHeld2; (try simp only [Act.put, List.setIfInBounds_toArray, List.set_cons_zero, List.set_cons_succ]))
      refine take_yes (i := 4) (d := 62) (v := ?_) _ rfl rfl (by kernel_rfl) (by kernel_rfl) (by kernel_rfl) (fun _ _ _ _ h => h) (by rfl) ?_ (by assumption) ?_
      rotate_left 1
      · ((intro w hSw; (try dsimp only at hSw); go_simp) <;> (try with_reducible rfl))
      (try simp only [Act.put, List.setIfInBounds_toArray, List.set_cons_zero, List.set_cons_succ])
      refine wpAnyH_done (by kernel_rfl) ?_ _
      obtain ⟨z0, z1, z2, z3, z4, z5, z6, z7, z8, z9, z10⟩ := hHeld
      have k1 := Lib.hid z0
      have X1 := Lib.hid z1
      have B1 := Lib.hid z2
      have gx1 := Lib.hid z3
      have gw1 := Lib.hid z4
      have gg1 := Lib.hid z5
      have hh1 := Lib.hid z6
      clear z0 z1 z2 z3 z4 z5 z6 z7 z8 z9 z10
      go_wp2_with fail
      go_at_call 45
      refine (toHoleS_calls _ _ _ _ _ _ _ (HH.out.below k1.out (Nat.le_refl _)) hm2).mono ?_
      rintro e w10 ⟨rfl, hb, -, hc⟩
      replace k1 := Lib.hid (k1.out.trans (hb.mono k1.out.size)); replace B1 := Lib.hid (B1.out.keep hb); (try replace X1 := Lib.hid (X1.out.keep hb)); (try replace gw1 := Lib.hid (gw1.out.keep hb)); (try replace gx1 := Lib.hid (gx1.out.keep hb)); (try replace gg1 := Lib.hid (gg1.out.keep hb)); (try replace hh1 := Lib.hid (hh1.out.keep hb))
      have c3 := Lib.hid hc
      clear hb hc
      go_wp2_with fail
      go_at_call 48
      refine (eqHoleS_calls _ _ m _ _ ht hr hd _ hh1.out.row c3.out hm2).mono ?_
      rintro e w11 ⟨rfl, hb⟩
      replace k1 := Lib.hid (k1.out.trans (hb.mono k1.out.size)); replace B1 := Lib.hid (B1.out.keep hb); (try replace X1 := Lib.hid (X1.out.keep hb)); (try replace gw1 := Lib.hid (gw1.out.keep hb)); (try replace gx1 := Lib.hid (gx1.out.keep hb)); (try replace gg1 := Lib.hid (gg1.out.keep hb)); (try replace hh1 := Lib.hid (hh1.out.keep hb))
      clear hb c3
      have cX0 := (X1.out.cell 0).trans rfl
      have cX1 := (X1.out.cell 1).trans rfl
      go_wp2_with fail
      go_at_call 58
      refine (markProfile_calls s _ n _ Gx p q h 1 _ gx1.out hn2 (by omega)).mono ?_
      rintro e w12 ⟨rfl, -, hg⟩
      replace k1 := Lib.hid (k1.out.grown hg k1.out.size (fun k hk => by cases hk; omega))
      replace B1 := Lib.hid (blk_grown B1.out hg (fun e => by have := Option.some.inj e; omega))
      replace gw1 := Lib.hid (gw1.out.grown hg (fun h => by have := hGw2 h; omega))
      replace gg1 := Lib.hid (gg1.out.grown hg (fun _ => by omega))
      replace hh1 := Lib.hid (hh1.out.grown hg (by omega))
      obtain ⟨M, hM⟩ : ∃ M : Nat, M = 1 + 3 * n := ⟨_, rfl⟩
      rw [← hM]
      have hMb : M ≤ 4000000 := by omega
      clear hM hg cX0 cX1 gx1 X1
      go_wp2_with fail
      go_at_call 50
      refine (markHoleS_calls _ m _ _ ht hr hd M _ hh1.out hm2 (by omega)).mono ?_
      rintro e w13 ⟨rfl, hg⟩
      replace k1 := Lib.hid (k1.out.grown hg k1.out.size (fun k hk => by cases hk; omega))
      replace B1 := Lib.hid (blk_grown B1.out hg (fun e => by have := Option.some.inj e; omega))
      replace gw1 := Lib.hid (gw1.out.grown hg (fun h => by have := hGw2 h; omega))
      replace gg1 := Lib.hid (gg1.out.grown hg (fun _ => by omega))
      obtain ⟨M1, hM1⟩ : ∃ M1 : Nat, M1 = M + 3 * m := ⟨_, rfl⟩
      rw [← hM1]
      have hMb1 : M1 ≤ 8000000 := by omega
      clear hM1 hg hh1
      go_wp2_with fail
      go_at_call 34
      refine (eqInt64S_calls _ _ L _ _ P _ gg1.out.row gw1.out.row hL).mono ?_
      rintro e w14 ⟨rfl, hb⟩
      replace k1 := Lib.hid (k1.out.trans (hb.mono k1.out.size)); replace B1 := Lib.hid (B1.out.keep hb); (try replace X1 := Lib.hid (X1.out.keep hb)); (try replace gw1 := Lib.hid (gw1.out.keep hb)); (try replace gx1 := Lib.hid (gx1.out.keep hb)); (try replace gg1 := Lib.hid (gg1.out.keep hb)); (try replace hh1 := Lib.hid (hh1.out.keep hb))
      clear hb
      go_wp2_with fail
      go_at_call 51
      refine (markInt64S_calls _ L _ Gg P 1 _ gg1.out hL (by omega)).mono ?_
      rintro e w15 ⟨rfl, hm1, hg⟩
      replace k1 := Lib.hid (k1.out.grown hg k1.out.size (fun k hk => by cases hk; omega))
      replace B1 := Lib.hid (blk_grown B1.out hg (fun e => by have := Option.some.inj e; omega))
      replace gw1 := Lib.hid (gw1.out.grown hg (fun h => by have := hGw2 h; omega))
      clear gg1
      have gg1 := Lib.hid hm1
      obtain ⟨M3, hM3⟩ : ∃ M : Nat, M = 1 + L := ⟨_, rfl⟩
      rw [← hM3]
      have HM3 := Lib.hid hM3
      have hMb3 : M3 ≤ 4000000 := by omega
      clear hM3 hg hm1
      go_wp2_with fail
      go_at_call 52
      refine (heldInt64S_calls _ L _ 1 _ gg1.out.row hL (by omega)).mono ?_
      rintro e w16 ⟨rfl, rfl⟩
      rw [← HM3.out]
      have cB0 := (B1.out.cell 0).trans rfl; have cB1 := (B1.out.cell 1).trans rfl
      go_wp2_with fail
      go_at_call 55
      refine (toProfile_calls s A n c p q h _ (HR.out.below k1.out (Nat.le_refl _)) hn2).mono ?_
      rintro e w17 ⟨Gt2, rfl, hb, -, -, hc⟩
      have c1 := Lib.hid hc.row
      replace k1 := Lib.hid (k1.out.trans (hb.mono k1.out.size)); replace B1 := Lib.hid (B1.out.keep hb); (try replace X1 := Lib.hid (X1.out.keep hb)); (try replace gw1 := Lib.hid (gw1.out.keep hb)); (try replace gx1 := Lib.hid (gx1.out.keep hb)); (try replace gg1 := Lib.hid (gg1.out.keep hb)); (try replace hh1 := Lib.hid (hh1.out.keep hb))
      clear cB0 cB1
      clear hb hc
      go_wp2_with fail
      go_at_call 45
      refine (toHoleS_calls _ _ _ _ _ _ _ (HH.out.below k1.out (Nat.le_refl _)) hm2).mono ?_
      rintro e w18 ⟨rfl, hb, -, hc⟩
      have c3 := Lib.hid hc
      replace c1 := Lib.hid (c1.out.below hb (Nat.le_refl _))
      replace k1 := Lib.hid (k1.out.trans (hb.mono k1.out.size)); replace B1 := Lib.hid (B1.out.keep hb); (try replace X1 := Lib.hid (X1.out.keep hb)); (try replace gw1 := Lib.hid (gw1.out.keep hb)); (try replace gx1 := Lib.hid (gx1.out.keep hb)); (try replace gg1 := Lib.hid (gg1.out.keep hb)); (try replace hh1 := Lib.hid (hh1.out.keep hb))
      clear hb hc
      go_wp2_with fail
      go_at_call 65
      refine (CI.out _ _ _ _ _ c1.out c3.out).mono ?_
      rintro e w19 ⟨v, rfl, Ah, ch, Gh, rfl, hio, -, hb⟩
      replace k1 := Lib.hid (k1.out.trans (hb.mono k1.out.size)); replace B1 := Lib.hid (B1.out.keep hb); (try replace X1 := Lib.hid (X1.out.keep hb)); (try replace gw1 := Lib.hid (gw1.out.keep hb)); (try replace gx1 := Lib.hid (gx1.out.keep hb)); (try replace gg1 := Lib.hid (gg1.out.keep hb)); (try replace hh1 := Lib.hid (hh1.out.keep hb))
      have gh1 := Lib.hid hio
      clear hb hio c1 c3 CI
      go_wp2_with fail
      go_at_call 34
      refine (eqInt64S_calls _ _ L _ _ P _ gh1.out.row gw1.out.row hL).mono ?_
      rintro e w20 ⟨rfl, hb⟩
      replace k1 := Lib.hid (k1.out.trans (hb.mono k1.out.size)); replace B1 := Lib.hid (B1.out.keep hb); (try replace X1 := Lib.hid (X1.out.keep hb)); (try replace gw1 := Lib.hid (gw1.out.keep hb)); (try replace gx1 := Lib.hid (gx1.out.keep hb)); (try replace gg1 := Lib.hid (gg1.out.keep hb)); (try replace hh1 := Lib.hid (hh1.out.keep hb))
      clear hb gh1
      go_wp2_with fail
      go_at_call 52
      refine (heldInt64S_calls _ L _ 1 _ gg1.out.row hL (by omega)).mono ?_
      rintro e w21 ⟨rfl, rfl⟩
      rw [← HM3.out]
      go_wp2
      go_ret
      exact ⟨rfl, k1.out⟩
theorem own : ownKnob Try.prog.godebug = none := by kernel_rfl
theorem laidOut : laidOutB Try.prog = true := by kernel_rfl
set_option maxRecDepth 100000 in
theorem lifted (os : Os) (started : os.Started) (H : Type) (enc : TypeId × Value → H) :
    ReturnsInHanded {} Try.checked os 11 .any (Rows.fnExactHolesForSpec.pre6 enc Try.prog Try.f11 Rows.fnExactHolesForRow.domain false) (Rows.fnExactHolesForSpec.post enc Try.prog Try.f11 false true false false) := by
  refine returnsInHanded_of_change (C := Try.checked) own started (by kernel_rfl) Try.func11
    (ChangeSpec.witness6 (enc := enc) (C := Try.checked) false ⟨#[], #[.agg #[.string ⟨#[]⟩, .slice none 0 0], .int .i64 0, .slice none 0 0], []⟩ 8 (by kernel_rfl) (by kernel_rfl) (by kernel_rfl) (by kernel_rfl)) ?_
  intro W base args ds gs before hval0 hW hcnd _
  have hval : ∀ (j : Nat) t v, Try.f11.params[j]? = some t → args[j]? = some v → Value.okWide Try.prog W .any base t v := hval0
  have hW' := hW
  obtain ⟨p, q, hA0, hV, rfl, hfz, hnd⟩ := hW
  have hA : DataW.TrodAll enc Try.prog W 0 (fun _ => true) true Try.f11.params.toList args.toList ds p := hA0
  rw [Try.params11] at hA hval
  obtain ⟨v0, vs0, d0, ds0, p0, q0, hargs, rfl, rfl, h0, r0⟩ := trodAll_cons hA
  obtain ⟨v1, vs1, d1, ds1, p1, q1, rfl, rfl, rfl, h1, r1⟩ := trodAll_cons r0
  obtain ⟨v2, vs2, d2, ds2, p2, q2, rfl, rfl, rfl, h2, r2⟩ := trodAll_cons r1
  obtain ⟨rfl, rfl, rfl⟩ := trodAll_nil r2
  obtain rfl : args = #[v0, v1, v2] := by cases args; simp_all
  obtain ⟨rfl, rfl⟩ := trodVars_none hV
  have k0 := h0
  have lt0 : ∀ x ∈ p0, x.block < W.heap.size := by obtain ⟨m, hm⟩ := k0; exact DataW.trod_lt m _ _ _ hm
  have k1 := h1
  have lt1 : ∀ x ∈ p1, x.block < W.heap.size := by obtain ⟨m, hm⟩ := k1; exact DataW.trod_lt m _ _ _ hm
  have k2 := h2
  have lt2 : ∀ x ∈ p2, x.block < W.heap.size := by obtain ⟨m, hm⟩ := k2; exact DataW.trod_lt m _ _ _ hm
  obtain ⟨cs0, rfl, hz0⟩ := okWide_struct Try.underlying80 (hval 0 80 v0 rfl rfl)
  obtain ⟨l0⟩ := cs0
  obtain ⟨fu0, hf0⟩ := h0
  obtain ⟨hl0, n0, hg0⟩ := fields_of Try.underlying80 (by kernel_rfl) (by kernel_rfl) hf0
  obtain ⟨c0_0, c0_1, rfl⟩ := list2 hl0
  obtain ⟨y0_0, t0_0⟩ := hg0 0 _ rfl c0_0 rfl
  obtain ⟨s0_0, e0_0, _, ws0_0⟩ := DataW.trod_string Try.underlying9 t0_0
  obtain rfl := one_cell e0_0
  obtain ⟨y0_1, t0_1⟩ := hg0 1 _ rfl c0_1 rfl
  obtain ⟨A0_1, n0_1, m0_1, rfl⟩ := slice_cell Try.underlying78 t0_1
  obtain ⟨q0_1_0, q0_1_1, q0_1_2, hr0_1, hn0_1, r0_1_0, r0_1_1, r0_1_2⟩ := openRingS t0_1
  obtain ⟨a1, rfl, _, _, wa1⟩ := open_int Try.underlying2 (hval 1 2 v1 rfl rfl) h1
  obtain ⟨A2, n2, m2, rfl⟩ := okWide_slice Try.underlying63 (hval 2 63 v2 rfl rfl)
  obtain ⟨fu2, hf2⟩ := h2
  obtain ⟨s2_0, a2_1, a2_2, hr2, hn2, c2_0, c2_1, c2_2⟩ := openHoleS hf2
  clear hA0 hval0
  refine (walk s0_0 A0_1 n0_1 m0_1 q0_1_0 q0_1_1 q0_1_2 a1 A2 n2 m2 s2_0 a2_1 a2_2 W ws0_0 hr0_1 hn0_1 r0_1_0 r0_1_1 r0_1_2 wa1 hr2 hn2 c2_0 c2_1 c2_2).mono fun e W' ⟨he, bel⟩ => ?_
  subst he
  exact ⟨_, rfl, _, _, _, [], _, [], hW', trodAll_mk1 (shut_bool Try.underlying4 _), (trodAll_cons_mk (Below.trod laidOut (by kernel_rfl) (of_decide_eq_true (by kernel_rfl)) k0 bel lt0) (trodAll_cons_mk (Below.trod laidOut (by kernel_rfl) (of_decide_eq_true (by kernel_rfl)) k1 bel lt1) (trodAll_cons_mk (Below.trod laidOut (by kernel_rfl) (of_decide_eq_true (by kernel_rfl)) k2 bel lt2) trodAll_mk0))), rfl, bel.frame _, fun h => by cases h⟩
set_option maxHeartbeats 20000000 in
theorem closed : joinedFacts Try.pinned.checked.prog 11 Try.f11 Rows.fnExactHolesForSpec Rows.fnExactHolesForRow = true := by
  unfold joinedFacts
  simp only [Bool.and_eq_true]
  and_intros
  all_goals (as_aux_lemma => kernel_rfl)
theorem proved : Rows.FnExactHolesForSaid :=
  OpenClaim.holds_of_wide 11 Try.f11 rfl rfl rfl rfl rfl rfl rfl ⟨rfl, rfl, rfl, rfl, rfl⟩ rfl rfl rfl rfl rfl (by kernel_rfl) Try.func11 closed
    (of_decide_eq_true (by kernel_rfl)) (by unfold Func.isWrapper; first | (rw [if_pos (by decide +kernel)]; kernel_rfl) | (rw [if_neg (by decide +kernel)]; exact ⟨rfl, rfl⟩))
    (fun os started H enc _ => lifted os started H enc)
end Go.Proofs.Ytaanlkdpconfiaa.FnExactHolesFor
