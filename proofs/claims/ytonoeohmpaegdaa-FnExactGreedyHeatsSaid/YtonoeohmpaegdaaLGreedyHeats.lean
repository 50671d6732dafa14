/- FnExactGreedyHeats: the program's GreedyHeats and the reference's give the same heats of every pours and crucibles. No further condition. -/


import Derived.Test.YtonoeohmpaegdaaRows
import Derived.Test.YtonoeohmpaegdaaFrame
import Derived.Test.YtonoeohmpaegdaaLGreedyQ
namespace Go.Proofs.Ytonoeohmpaegdaa.FnExactGreedyHeats
set_option linter.unusedVariables false
open Go.ChangeShapes Go.WideShapes Go.ChangeAt Go.RowKit Go.Deep
open Go.ChangeMaps (open_string shut_string)
theorem both (n : Nat) (ps : Nat → ByteArray) (pm pr pd : Nat → Int) (m : Nat) (cs : Nat → ByteArray) (cc ch cf : Nat → Int) (hps : ∀ i, i < n → (ps i).size ≤ maxLen) (hcs : ∀ i, i < m → (cs i).size ≤ maxLen) (hn : n ≤ 1048576) (hm : m ≤ 1048576) : ∃ (L : Nat) (a0 a1 a2 a3 : Nat → Int) (code : Int), L ≤ 1048576 ∧
    (∀ W A c B c2, PourRow W A n ps pm pr pd → CrucibleRow W B m cs cc ch cf → Calls Try.prog 20 #[.slice A n c, .slice B m c2] W fun e w' => ∃ A' c' G, e = .returned (.tuple #[.slice A' L c', .int .i64 code]) ∧ HeatOwn w' A' L a0 a1 a2 a3 G ∧ W.heap.size ≤ G ∧ Below W.heap.size W w') ∧
    (∀ W A c B c2, PourRow W A n ps pm pr pd → CrucibleRow W B m cs cc ch cf → Calls Try.prog 23 #[.slice A n c, .slice B m c2] W fun e w' => ∃ A' c' G, e = .returned (.tuple #[.slice A' L c', .int .i64 code]) ∧ HeatOwn w' A' L a0 a1 a2 a3 G ∧ W.heap.size ≤ G ∧ Below W.heap.size W w') := by
  refine ⟨(ghL n ps pm pr pd m cs cc ch cf).length, ha0 (ghL n ps pm pr pd m cs cc ch cf), ha1 (ghL n ps pm pr pd m cs cc ch cf), ha2 (ghL n ps pm pr pd m cs cc ch cf), ha3 (ghL n ps pm pr pd m cs cc ch cf), ghC n ps pm pr pd m cs cc ch cf, ?_, fun W A c B c2 h1 h2 => (sGreedyHeats_calls A n c ps pm pr pd B m c2 cs cc ch cf W hps hcs h1 h2 hn hm).mono ?_, fun W A c B c2 h1 h2 => (GreedyHeats_calls A n c ps pm pr pd B m c2 cs cc ch cf W hps hcs h1 h2 hn hm).mono ?_⟩
  · exact ghL_len hn
  · rintro e w' ⟨v, rfl, A', c', G, rfl, h3, h4, h5⟩
    exact ⟨A', c', G, rfl, h3, h4, h5⟩
  · rintro e w' ⟨v, rfl, A', c', G, rfl, h3, h4, h5⟩
    exact ⟨A', c', G, rfl, h3, h4, h5⟩
theorem heat_lt {w : World} {A : Option Addr} {n G : Nat} {a0 a1 a2 a3 : Nat → Int} (ho : HeatOwn w A n a0 a1 a2 a3 G) (hn : 0 < n) : G < w.heap.size := by
  obtain ⟨-, arr, hb, -⟩ := ho hn
  exact hb.lt
theorem heat_grown {w w' : World} {A : Option Addr} {n G H : Nat} {a0 a1 a2 a3 : Nat → Int} (ho : HeatOwn w A n a0 a1 a2 a3 G) (hg : w.grownBy w' (some H)) (hne : 0 < n → G ≠ H) : HeatOwn w' A n a0 a1 a2 a3 G := fun hn => ho.grown hg (hne hn) hn
set_option maxRecDepth 20000 in
set_option maxHeartbeats 8000000 in
theorem walk (A : Option Addr) (n c : Nat) (ps : Nat → ByteArray) (pm pr pd : Nat → Int) (B : Option Addr) (m c2 : Nat) (cs : Nat → ByteArray) (cc ch cf : Nat → Int) (w : World) (hr : PourRow w A n ps pm pr pd) (hn : n ≤ maxLen) (hps : ∀ i, i < n → (ps i).size ≤ maxLen) (_ : ∀ i, i < n → (Lit.int .i64 (pm i)).wf = true) (_ : ∀ i, i < n → (Lit.int .i64 (pr i)).wf = true) (_ : ∀ i, i < n → (Lit.int .i64 (pd i)).wf = true) (hs : CrucibleRow w B m cs cc ch cf) (hm : m ≤ maxLen) (hcs : ∀ i, i < m → (cs i).size ≤ maxLen) (_ : ∀ i, i < m → (Lit.int .i64 (cc i)).wf = true) (_ : ∀ i, i < m → (Lit.int .i64 (ch i)).wf = true) (_ : ∀ i, i < m → (Lit.int .i64 (cf i)).wf = true) :
    Calls Try.prog 4 #[.slice A n c, .slice B m c2] w fun e w' => e = .returned (.bool true) ∧ Below w.heap.size w w' := by
  have HF := Lib.hid hps
  have HG := Lib.hid hcs
  have HR := Lib.hid hr
  have HH := Lib.hid hs
  have k1 := Lib.hid (Below.refl w.heap.size w)
  clear hr hs hps hcs
  by_cases hbig : (1048576 : Int) < (n : Int) + sumS ps n
  · go_enter Try.func4, Try.ntmps4
    go_wp2_with fail
    go_at_call 18
    refine (szPourS_calls _ _ _ _ _ _ _ _ _ (HR.out.below k1.out (Nat.le_refl _)) HF.out hn (by omega) (by omega)).mono ?_
    rw [if_pos (by omega)]
    rintro e w1 ⟨rfl, hb⟩
    replace k1 := Lib.hid (k1.out.trans (hb.mono k1.out.size)); (try replace gw1 := Lib.hid (gw1.out.keep hb)); (try replace gx1 := Lib.hid (gx1.out.keep hb)); (try replace gg1 := Lib.hid (gg1.out.keep hb)); (try replace hh1 := Lib.hid (hh1.out.keep hb))
    clear hb
    go_wp2
    go_ret
    exact ⟨rfl, k1.out⟩
  · by_cases hbig2 : (1048576 : Int) - ((n : Int) + sumS ps n) < (m : Int) + sumS cs m
    · go_enter Try.func4, Try.ntmps4
      go_wp2_with fail
      go_at_call 18
      refine (szPourS_calls _ _ _ _ _ _ _ _ _ (HR.out.below k1.out (Nat.le_refl _)) HF.out hn (by omega) (by omega)).mono ?_
      rw [if_neg (by omega)]
      rintro e w1 ⟨rfl, hb⟩
      replace k1 := Lib.hid (k1.out.trans (hb.mono k1.out.size)); (try replace gw1 := Lib.hid (gw1.out.keep hb)); (try replace gx1 := Lib.hid (gx1.out.keep hb)); (try replace gg1 := Lib.hid (gg1.out.keep hb)); (try replace hh1 := Lib.hid (hh1.out.keep hb))
      clear hb
      go_wp2_with fail
      go_at_call 19
      refine (szCrucibleS_calls _ _ _ _ _ _ _ _ _ (HH.out.below k1.out (Nat.le_refl _)) HG.out hm (by omega) (by omega)).mono ?_
      rw [if_pos (by omega)]
      rintro e w1 ⟨rfl, hb⟩
      replace k1 := Lib.hid (k1.out.trans (hb.mono k1.out.size)); (try replace gw1 := Lib.hid (gw1.out.keep hb)); (try replace gx1 := Lib.hid (gx1.out.keep hb)); (try replace gg1 := Lib.hid (gg1.out.keep hb)); (try replace hh1 := Lib.hid (hh1.out.keep hb))
      clear hb
      go_wp2
      go_ret
      exact ⟨rfl, k1.out⟩
    · have g1 : n ≤ 1048576 := by omega
      have g2 : m ≤ 1048576 := by omega
      obtain ⟨L, a0, a1, a2, a3, code, hL, hcs, hci⟩ := both n ps pm pr pd m cs cc ch cf HF.out HG.out g1 g2
      have CS := Lib.hid hcs
      have CI := Lib.hid hci
      obtain ⟨L3, hL3⟩ : ∃ L3 : Int, L3 = 1048576 - ((n : Int) + sumS ps n) - ((m : Int) + sumS cs m) := ⟨_, rfl⟩
      have hL4 : 0 ≤ L3 := by omega
      have HL3 := Lib.hid hL3
      clear hcs hci hL3
      go_enter Try.func4, Try.ntmps4
      go_wp2_with fail
      go_at_call 18
      refine (szPourS_calls _ _ _ _ _ _ _ _ _ (HR.out.below k1.out (Nat.le_refl _)) HF.out hn (by omega) (by omega)).mono ?_
      rw [if_neg (by omega)]
      rintro e w1 ⟨rfl, hb⟩
      replace k1 := Lib.hid (k1.out.trans (hb.mono k1.out.size)); (try replace gw1 := Lib.hid (gw1.out.keep hb)); (try replace gx1 := Lib.hid (gx1.out.keep hb)); (try replace gg1 := Lib.hid (gg1.out.keep hb)); (try replace hh1 := Lib.hid (hh1.out.keep hb))
      clear hb
      go_wp2_with fail
      go_at_call 19
      refine (szCrucibleS_calls _ _ _ _ _ _ _ _ _ (HH.out.below k1.out (Nat.le_refl _)) HG.out hm (by omega) (by omega)).mono ?_
      rw [if_neg (by omega), ← HL3.out]
      rintro e w1 ⟨rfl, hb⟩
      replace k1 := Lib.hid (k1.out.trans (hb.mono k1.out.size)); (try replace gw1 := Lib.hid (gw1.out.keep hb)); (try replace gx1 := Lib.hid (gx1.out.keep hb)); (try replace gg1 := Lib.hid (gg1.out.keep hb)); (try replace hh1 := Lib.hid (hh1.out.keep hb))
      clear hb
      go_wp2_with fail
      go_at_call 21
      refine (toPourS_calls A n c ps pm pr pd _ (HR.out.below k1.out (Nat.le_refl _)) g1).mono ?_
      rintro e w3 ⟨rfl, hb, -, hc⟩
      have x1 := Lib.hid hc
      replace k1 := Lib.hid (k1.out.trans (hb.mono k1.out.size)); (try replace gw1 := Lib.hid (gw1.out.keep hb)); (try replace gx1 := Lib.hid (gx1.out.keep hb)); (try replace gg1 := Lib.hid (gg1.out.keep hb)); (try replace hh1 := Lib.hid (hh1.out.keep hb))
      clear hb hc
      go_wp2_with fail
      go_at_call 22
      refine (toCrucibleS_calls B m c2 cs cc ch cf _ (HH.out.below k1.out (Nat.le_refl _)) g2).mono ?_
      rintro e w4 ⟨rfl, hb, -, hc⟩
      have x2 := Lib.hid hc
      replace x1 := Lib.hid (x1.out.below hb (Nat.le_refl _))
      replace k1 := Lib.hid (k1.out.trans (hb.mono k1.out.size)); (try replace gw1 := Lib.hid (gw1.out.keep hb)); (try replace gx1 := Lib.hid (gx1.out.keep hb)); (try replace gg1 := Lib.hid (gg1.out.keep hb)); (try replace hh1 := Lib.hid (hh1.out.keep hb))
      clear hb hc
      go_wp2_with fail
      go_at_call 20
      refine (CS.out _ _ _ _ _ x1.out x2.out).mono ?_
      rintro e w5 ⟨Aw, cw, Gw, rfl, hio, hGw, hb⟩
      replace k1 := Lib.hid (k1.out.trans (hb.mono k1.out.size)); (try replace gw1 := Lib.hid (gw1.out.keep hb)); (try replace gx1 := Lib.hid (gx1.out.keep hb)); (try replace gg1 := Lib.hid (gg1.out.keep hb)); (try replace hh1 := Lib.hid (hh1.out.keep hb))
      have gw1 := Lib.hid hio
      have hGw2 := fun h0 => heat_lt hio h0
      clear hb hio x1 x2 CS
      have sz5 := k1.out.size
      go_wp2_with fail
      go_at_call 21
      refine (toPourS_own A n c ps pm pr pd _ (HR.out.below k1.out (Nat.le_refl _)) g1).mono ?_
      rintro e w6 ⟨rfl, hb, hgt, hc⟩
      replace k1 := Lib.hid (k1.out.trans (hb.mono k1.out.size)); (try replace gw1 := Lib.hid (gw1.out.keep hb)); (try replace gx1 := Lib.hid (gx1.out.keep hb)); (try replace gg1 := Lib.hid (gg1.out.keep hb)); (try replace hh1 := Lib.hid (hh1.out.keep hb))
      have gx1 := Lib.hid hc
      clear hb hc
      go_wp2_with fail
      go_at_call 22
      refine (toCrucibleS_own B m c2 cs cc ch cf _ (HH.out.below k1.out (Nat.le_refl _)) g2).mono ?_
      rintro e w7 ⟨rfl, hb, hgt2, hc⟩
      replace k1 := Lib.hid (k1.out.trans (hb.mono k1.out.size)); (try replace gw1 := Lib.hid (gw1.out.keep hb)); (try replace gx1 := Lib.hid (gx1.out.keep hb)); (try replace gg1 := Lib.hid (gg1.out.keep hb)); (try replace hh1 := Lib.hid (hh1.out.keep hb))
      have hh1 := Lib.hid hc
      clear hb hc
      go_wp2_with fail
      go_at_call 23
      refine (CI.out _ _ _ _ _ gx1.out.row hh1.out.row).mono ?_
      rintro e w8 ⟨Ag, cg, Gg, rfl, hio, hGg, hb⟩
      replace k1 := Lib.hid (k1.out.trans (hb.mono k1.out.size)); (try replace gw1 := Lib.hid (gw1.out.keep hb)); (try replace gx1 := Lib.hid (gx1.out.keep hb)); (try replace gg1 := Lib.hid (gg1.out.keep hb)); (try replace hh1 := Lib.hid (hh1.out.keep hb))
      have gg1 := Lib.hid hio
      clear hb hio
      go_wp2_with fail
      go_at_call 24
      refine (eqHeatS_calls _ _ L _ _ a0 a1 a2 a3 _ gg1.out.row gw1.out.row hL).mono ?_
      rintro e w9 ⟨rfl, hb⟩
      replace k1 := Lib.hid (k1.out.trans (hb.mono k1.out.size)); (try replace gw1 := Lib.hid (gw1.out.keep hb)); (try replace gx1 := Lib.hid (gx1.out.keep hb)); (try replace gg1 := Lib.hid (gg1.out.keep hb)); (try replace hh1 := Lib.hid (hh1.out.keep hb))
      clear hb
      go_wp2_with fail
      go_at_call 21
      refine (toPourS_calls A n c ps pm pr pd _ (HR.out.below k1.out (Nat.le_refl _)) g1).mono ?_
      rintro e w10 ⟨rfl, hb, -, hc⟩
      replace k1 := Lib.hid (k1.out.trans (hb.mono k1.out.size)); (try replace gw1 := Lib.hid (gw1.out.keep hb)); (try replace gx1 := Lib.hid (gx1.out.keep hb)); (try replace gg1 := Lib.hid (gg1.out.keep hb)); (try replace hh1 := Lib.hid (hh1.out.keep hb))
      have x3 := Lib.hid hc
      clear hb hc
      go_wp2_with fail
      go_at_call 25
      refine (eqPourS_calls _ _ n _ _ ps pm pr pd _ gx1.out.row x3.out g1).mono ?_
      rintro e w11 ⟨rfl, hb⟩
      replace k1 := Lib.hid (k1.out.trans (hb.mono k1.out.size)); (try replace gw1 := Lib.hid (gw1.out.keep hb)); (try replace gx1 := Lib.hid (gx1.out.keep hb)); (try replace gg1 := Lib.hid (gg1.out.keep hb)); (try replace hh1 := Lib.hid (hh1.out.keep hb))
      clear hb x3
      go_wp2_with fail
      go_at_call 22
      refine (toCrucibleS_calls B m c2 cs cc ch cf _ (HH.out.below k1.out (Nat.le_refl _)) g2).mono ?_
      rintro e w12 ⟨rfl, hb, -, hc⟩
      replace k1 := Lib.hid (k1.out.trans (hb.mono k1.out.size)); (try replace gw1 := Lib.hid (gw1.out.keep hb)); (try replace gx1 := Lib.hid (gx1.out.keep hb)); (try replace gg1 := Lib.hid (gg1.out.keep hb)); (try replace hh1 := Lib.hid (hh1.out.keep hb))
      have x3 := Lib.hid hc
      clear hb hc
      go_wp2_with fail
      go_at_call 26
      refine (eqCrucibleS_calls _ _ m _ _ cs cc ch cf _ hh1.out.row x3.out g2).mono ?_
      rintro e w13 ⟨rfl, hb⟩
      replace k1 := Lib.hid (k1.out.trans (hb.mono k1.out.size)); (try replace gw1 := Lib.hid (gw1.out.keep hb)); (try replace gx1 := Lib.hid (gx1.out.keep hb)); (try replace gg1 := Lib.hid (gg1.out.keep hb)); (try replace hh1 := Lib.hid (hh1.out.keep hb))
      clear hb x3
      go_wp2_with fail
      go_at_call 27
      refine (markPourS_calls _ n _ _ ps pm pr pd 1 _ gx1.out g1 (by omega)).mono ?_
      rintro e w14 ⟨rfl, hg⟩
      replace k1 := Lib.hid (k1.out.grown hg k1.out.size (fun k hk => by cases hk; omega)); replace gw1 := Lib.hid (heat_grown gw1.out hg (fun h => by have := hGw2 h; omega))
      replace gg1 := Lib.hid (heat_grown gg1.out hg (fun _ => by omega))
      replace hh1 := Lib.hid (hh1.out.grown hg (by omega))
      obtain ⟨M, hM⟩ : ∃ M : Nat, M = 1 + 4 * n := ⟨_, rfl⟩
      rw [← hM]
      have hMb : M ≤ 5000000 := by omega
      clear hM hg gx1
      go_wp2_with fail
      go_at_call 28
      refine (markCrucibleS_calls _ m _ _ cs cc ch cf M _ hh1.out g2 (by omega)).mono ?_
      rintro e w15 ⟨rfl, hg⟩
      replace k1 := Lib.hid (k1.out.grown hg k1.out.size (fun k hk => by cases hk; omega)); replace gw1 := Lib.hid (heat_grown gw1.out hg (fun h => by have := hGw2 h; omega))
      replace gg1 := Lib.hid (heat_grown gg1.out hg (fun _ => by omega))
      obtain ⟨M1, hM1⟩ : ∃ M1 : Nat, M1 = M + 4 * m := ⟨_, rfl⟩
      rw [← hM1]
      have hMb1 : M1 ≤ 10000000 := by omega
      clear hM1 hg hh1
      go_wp2_with fail
      go_at_call 24
      refine (eqHeatS_calls _ _ L _ _ a0 a1 a2 a3 _ gg1.out.row gw1.out.row hL).mono ?_
      rintro e w16 ⟨rfl, hb⟩
      replace k1 := Lib.hid (k1.out.trans (hb.mono k1.out.size)); (try replace gw1 := Lib.hid (gw1.out.keep hb)); (try replace gx1 := Lib.hid (gx1.out.keep hb)); (try replace gg1 := Lib.hid (gg1.out.keep hb)); (try replace hh1 := Lib.hid (hh1.out.keep hb))
      clear hb
      go_wp2_with fail
      go_at_call 29
      refine (markHeatS_calls _ L _ Gg a0 a1 a2 a3 1 _ gg1.out hL (by omega)).mono ?_
      rintro e w17 ⟨rfl, hm1, hg⟩
      replace k1 := Lib.hid (k1.out.grown hg k1.out.size (fun k hk => by cases hk; omega)); replace gw1 := Lib.hid (heat_grown gw1.out hg (fun h => by have := hGw2 h; omega))
      clear gg1
      have gg1 := Lib.hid hm1
      obtain ⟨M3, hM3⟩ : ∃ M : Nat, M = 1 + 4 * L := ⟨_, rfl⟩
      rw [← hM3]
      have HM3 := Lib.hid hM3
      have hMb3 : M3 ≤ 5000000 := by omega
      clear hM3 hg hm1
      go_wp2_with fail
      go_at_call 30
      refine (heldHeatS_calls _ L _ 1 _ gg1.out.row hL (by omega)).mono ?_
      rintro e w18 ⟨rfl, rfl⟩
      rw [← HM3.out]
      go_wp2_with fail
      go_at_call 21
      refine (toPourS_calls A n c ps pm pr pd _ (HR.out.below k1.out (Nat.le_refl _)) g1).mono ?_
      rintro e w3 ⟨rfl, hb, -, hc⟩
      have x1 := Lib.hid hc
      replace k1 := Lib.hid (k1.out.trans (hb.mono k1.out.size)); (try replace gw1 := Lib.hid (gw1.out.keep hb)); (try replace gx1 := Lib.hid (gx1.out.keep hb)); (try replace gg1 := Lib.hid (gg1.out.keep hb)); (try replace hh1 := Lib.hid (hh1.out.keep hb))
      clear hb hc
      go_wp2_with fail
      go_at_call 22
      refine (toCrucibleS_calls B m c2 cs cc ch cf _ (HH.out.below k1.out (Nat.le_refl _)) g2).mono ?_
      rintro e w4 ⟨rfl, hb, -, hc⟩
      have x2 := Lib.hid hc
      replace x1 := Lib.hid (x1.out.below hb (Nat.le_refl _))
      replace k1 := Lib.hid (k1.out.trans (hb.mono k1.out.size)); (try replace gw1 := Lib.hid (gw1.out.keep hb)); (try replace gx1 := Lib.hid (gx1.out.keep hb)); (try replace gg1 := Lib.hid (gg1.out.keep hb)); (try replace hh1 := Lib.hid (hh1.out.keep hb))
      clear hb hc
      go_wp2_with fail
      go_at_call 23
      refine (CI.out _ _ _ _ _ x1.out x2.out).mono ?_
      rintro e w19 ⟨Ah, chh, Gh, rfl, hio, -, hb⟩
      replace k1 := Lib.hid (k1.out.trans (hb.mono k1.out.size)); (try replace gw1 := Lib.hid (gw1.out.keep hb)); (try replace gx1 := Lib.hid (gx1.out.keep hb)); (try replace gg1 := Lib.hid (gg1.out.keep hb)); (try replace hh1 := Lib.hid (hh1.out.keep hb))
      have gh1 := Lib.hid hio
      clear hb hio x1 x2 CI
      go_wp2_with fail
      go_at_call 24
      refine (eqHeatS_calls _ _ L _ _ a0 a1 a2 a3 _ gh1.out.row gw1.out.row hL).mono ?_
      rintro e w20 ⟨rfl, hb⟩
      replace k1 := Lib.hid (k1.out.trans (hb.mono k1.out.size)); (try replace gw1 := Lib.hid (gw1.out.keep hb)); (try replace gx1 := Lib.hid (gx1.out.keep hb)); (try replace gg1 := Lib.hid (gg1.out.keep hb)); (try replace hh1 := Lib.hid (hh1.out.keep hb))
      clear hb gh1
      go_wp2_with fail
      go_at_call 30
      refine (heldHeatS_calls _ L _ 1 _ gg1.out.row hL (by omega)).mono ?_
      rintro e w21 ⟨rfl, rfl⟩
      rw [← HM3.out]
      go_wp2
      go_ret
      exact ⟨rfl, k1.out⟩
theorem own : ownKnob Try.prog.godebug = none := by kernel_rfl
theorem laidOut : laidOutB Try.prog = true := by kernel_rfl
set_option maxRecDepth 100000 in
theorem lifted (os : Os) (started : os.Started) (H : Type) (enc : TypeId × Value → H) :
    ReturnsInHanded {} Try.checked os 4 .any (Rows.fnExactGreedyHeatsSpec.pre6 enc Try.prog Try.f4 Rows.fnExactGreedyHeatsRow.domain false) (Rows.fnExactGreedyHeatsSpec.post enc Try.prog Try.f4 false true false false) := by
  refine returnsInHanded_of_change (C := Try.checked) own started (by kernel_rfl) Try.func4
    (ChangeSpec.witness6 (enc := enc) (C := Try.checked) false ⟨#[], #[.slice none 0 0, .slice none 0 0], []⟩ 8 (by kernel_rfl) (by kernel_rfl) (by kernel_rfl) (by kernel_rfl)) ?_
  intro W base args ds gs before hval0 hW hcnd _
  have hval : ∀ (j : Nat) t v, Try.f4.params[j]? = some t → args[j]? = some v → Value.okWide Try.prog W .any base t v := hval0
  have hW' := hW
  obtain ⟨p, q, hA0, hV, rfl, hfz, hnd⟩ := hW
  have hA : DataW.TrodAll enc Try.prog W 0 (fun _ => true) true Try.f4.params.toList args.toList ds p := hA0
  rw [Try.params4] at hA hval
  obtain ⟨v0, vs0, d0, ds0, p0, q0, hargs, rfl, rfl, h0, r0⟩ := trodAll_cons hA
  obtain ⟨v1, vs1, d1, ds1, p1, q1, rfl, rfl, rfl, h1, r1⟩ := trodAll_cons r0
  obtain ⟨rfl, rfl, rfl⟩ := trodAll_nil r1
  obtain rfl : args = #[v0, v1] := by cases args; simp_all
  obtain ⟨rfl, rfl⟩ := trodVars_none hV
  have k0 := h0
  have lt0 : ∀ x ∈ p0, x.block < W.heap.size := by obtain ⟨m, hm⟩ := k0; exact DataW.trod_lt m _ _ _ hm
  have k1 := h1
  have lt1 : ∀ x ∈ p1, x.block < W.heap.size := by obtain ⟨m, hm⟩ := k1; exact DataW.trod_lt m _ _ _ hm
  obtain ⟨A0, n0, m0, rfl⟩ := okWide_slice Try.underlying40 (hval 0 40 v0 rfl rfl)
  obtain ⟨fu0, hf0⟩ := h0
  obtain ⟨s0_0, a0_1, a0_2, a0_3, hr0, hn0, c0_0, c0_1, c0_2, c0_3⟩ := openPourS hf0
  obtain ⟨A1, n1, m1, rfl⟩ := okWide_slice Try.underlying41 (hval 1 41 v1 rfl rfl)
  obtain ⟨fu1, hf1⟩ := h1
  obtain ⟨s1_0, a1_1, a1_2, a1_3, hr1, hn1, c1_0, c1_1, c1_2, c1_3⟩ := openCrucibleS hf1
  clear hA0 hval0
  refine (walk A0 n0 m0 s0_0 a0_1 a0_2 a0_3 A1 n1 m1 s1_0 a1_1 a1_2 a1_3 W hr0 hn0 c0_0 c0_1 c0_2 c0_3 hr1 hn1 c1_0 c1_1 c1_2 c1_3).mono fun e W' ⟨he, bel⟩ => ?_
  subst he
  exact ⟨_, rfl, _, _, _, [], _, [], hW', trodAll_mk1 (shut_bool Try.underlying4 _), (trodAll_cons_mk (Below.trod laidOut (by kernel_rfl) (of_decide_eq_true (by kernel_rfl)) k0 bel lt0) (trodAll_cons_mk (Below.trod laidOut (by kernel_rfl) (of_decide_eq_true (by kernel_rfl)) k1 bel lt1) trodAll_mk0)), rfl, bel.frame _, fun h => by cases h⟩
theorem proved : Rows.FnExactGreedyHeatsSaid :=
  OpenClaim.holds_of_wide 4 Try.f4 rfl rfl rfl rfl rfl rfl rfl ⟨rfl, rfl, rfl, rfl, rfl⟩ rfl rfl rfl rfl rfl (by kernel_rfl) Try.func4 (by kernel_rfl)
    (of_decide_eq_true (by kernel_rfl)) (by unfold Func.isWrapper; first | (rw [if_pos (by decide +kernel)]; kernel_rfl) | (rw [if_neg (by decide +kernel)]; exact ⟨rfl, rfl⟩))
    (fun os started H enc _ => lifted os started H enc)
end Go.Proofs.Ytonoeohmpaegdaa.FnExactGreedyHeats
