/- FnExactIsSchedule: the program's IsSchedule and the reference's give the same of every pours, crucibles and heats. No further condition. -/



import Derived.Test.YtaanlkdpconfiaaRows
import Derived.Test.YtaanlkdpconfiaaFrame
import Derived.Test.YtaanlkdpconfiaaWrongOp
namespace Go.Proofs.Ytaanlkdpconfiaa.FnExactIsSchedule
set_option linter.unusedVariables false
open Go.ChangeShapes Go.WideShapes Go.ChangeAt Go.RowKit Go.Deep
open Go.ChangeMaps (open_string shut_string)
set_option maxHeartbeats 8000000 in
theorem walk (A : Option Addr) (n c : Nat) (ps : Nat → ByteArray) (pm pr pd : Nat → Int) (B : Option Addr) (n2 c2 : Nat) (cs : Nat → ByteArray) (cc ch cf : Nat → Int) (P : Option Addr) (n3 c3 : Nat) (a0 a1 a2 a3 : Nat → Int) (w : World) (hr : PourRow w A n ps pm pr pd) (hn : n ≤ maxLen) (hbs : ∀ i, i < n → (ps i).size ≤ maxLen) (_ : ∀ i, i < n → (Lit.int .i64 (pm i)).wf = true) (_ : ∀ i, i < n → (Lit.int .i64 (pr i)).wf = true) (_ : ∀ i, i < n → (Lit.int .i64 (pd i)).wf = true) (hs : CrucibleRow w B n2 cs cc ch cf) (hn2 : n2 ≤ maxLen) (hcs : ∀ i, i < n2 → (cs i).size ≤ maxLen) (_ : ∀ i, i < n2 → (Lit.int .i64 (cc i)).wf = true) (_ : ∀ i, i < n2 → (Lit.int .i64 (ch i)).wf = true) (wcf : ∀ i, i < n2 → (Lit.int .i64 (cf i)).wf = true) (ht : HeatRow w P n3 a0 a1 a2 a3) (hn3 : n3 ≤ maxLen) (_ : ∀ i, i < n3 → (Lit.int .i64 (a0 i)).wf = true) (_ : ∀ i, i < n3 → (Lit.int .i64 (a1 i)).wf = true) (wa2 : ∀ i, i < n3 → (Lit.int .i64 (a2 i)).wf = true) (wa3 : ∀ i, i < n3 → (Lit.int .i64 (a3 i)).wf = true) :
    Calls Try.prog 3 #[.slice A n c, .slice B n2 c2, .slice P n3 c3] w fun e w' => e = .returned (.bool true) ∧ Below w.heap.size w w' := by
  have HF := Lib.hid hbs
  have HG := Lib.hid hcs
  have r1 := Lib.hid hr
  have s1 := Lib.hid hs
  have t1 := Lib.hid ht
  have k1 := Lib.hid (Below.refl w.heap.size w)
  have HW := Lib.hid (heat_wf wcf wa2 wa3)
  clear hr hbs hs hcs ht wcf wa2 wa3
  by_cases hbig : (1048576 : Int) < (n : Int) + sumS ps n
  · go_enter Try.func3, Try.ntmps3
    go_wp2_with fail
    go_at_call 12
    refine (szPourS_calls A n c ps pm pr pd _ _ r1.out HF.out hn (by omega) (by omega)).mono ?_
    rw [if_pos (by omega)]
    rintro e w1 ⟨rfl, hb⟩
    have k2 := Lib.hid (k1.out.trans (hb.mono k1.out.size)); have r2 := Lib.hid (r1.out.below hb (Nat.le_refl _)); have s2 := Lib.hid (s1.out.below hb (Nat.le_refl _)); have t2 := Lib.hid (t1.out.below hb (Nat.le_refl _)); clear k1 r1 s1 t1; have k1 := k2; have r1 := r2; have s1 := s2; have t1 := t2; clear k2 r2 s2 t2
    clear hb
    go_wp2
    go_ret
    exact ⟨rfl, k1.out⟩
  · by_cases hbig2 : (1048576 : Int) - ((n : Int) + sumS ps n) < (n2 : Int) + sumS cs n2
    · go_enter Try.func3, Try.ntmps3
      go_wp2_with fail
      go_at_call 12
      refine (szPourS_calls A n c ps pm pr pd _ _ r1.out HF.out hn (by omega) (by omega)).mono ?_
      rw [if_neg (by omega)]
      rintro e w1 ⟨rfl, hb⟩
      have k2 := Lib.hid (k1.out.trans (hb.mono k1.out.size)); have r2 := Lib.hid (r1.out.below hb (Nat.le_refl _)); have s2 := Lib.hid (s1.out.below hb (Nat.le_refl _)); have t2 := Lib.hid (t1.out.below hb (Nat.le_refl _)); clear k1 r1 s1 t1; have k1 := k2; have r1 := r2; have s1 := s2; have t1 := t2; clear k2 r2 s2 t2
      clear hb
      go_wp2_with fail
      go_at_call 13
      refine (szCrucibleS_calls B n2 c2 cs cc ch cf _ _ s1.out HG.out hn2 (by omega) (by omega)).mono ?_
      rw [if_pos (by omega)]
      rintro e w1 ⟨rfl, hb⟩
      have k2 := Lib.hid (k1.out.trans (hb.mono k1.out.size)); have r2 := Lib.hid (r1.out.below hb (Nat.le_refl _)); have s2 := Lib.hid (s1.out.below hb (Nat.le_refl _)); have t2 := Lib.hid (t1.out.below hb (Nat.le_refl _)); clear k1 r1 s1 t1; have k1 := k2; have r1 := r2; have s1 := s2; have t1 := t2; clear k2 r2 s2 t2
      clear hb
      go_wp2
      go_ret
      exact ⟨rfl, k1.out⟩
    · by_cases hbig3 : (1048576 : Int) - ((n : Int) + sumS ps n) - ((n2 : Int) + sumS cs n2) < (n3 : Int)
      · go_enter Try.func3, Try.ntmps3
        go_wp2_with fail
        go_at_call 12
        refine (szPourS_calls A n c ps pm pr pd _ _ r1.out HF.out hn (by omega) (by omega)).mono ?_
        rw [if_neg (by omega)]
        rintro e w1 ⟨rfl, hb⟩
        have k2 := Lib.hid (k1.out.trans (hb.mono k1.out.size)); have r2 := Lib.hid (r1.out.below hb (Nat.le_refl _)); have s2 := Lib.hid (s1.out.below hb (Nat.le_refl _)); have t2 := Lib.hid (t1.out.below hb (Nat.le_refl _)); clear k1 r1 s1 t1; have k1 := k2; have r1 := r2; have s1 := s2; have t1 := t2; clear k2 r2 s2 t2
        clear hb
        go_wp2_with fail
        go_at_call 13
        refine (szCrucibleS_calls B n2 c2 cs cc ch cf _ _ s1.out HG.out hn2 (by omega) (by omega)).mono ?_
        rw [if_neg (by omega)]
        rintro e w1 ⟨rfl, hb⟩
        have k2 := Lib.hid (k1.out.trans (hb.mono k1.out.size)); have r2 := Lib.hid (r1.out.below hb (Nat.le_refl _)); have s2 := Lib.hid (s1.out.below hb (Nat.le_refl _)); have t2 := Lib.hid (t1.out.below hb (Nat.le_refl _)); clear k1 r1 s1 t1; have k1 := k2; have r1 := r2; have s1 := s2; have t1 := t2; clear k2 r2 s2 t2
        clear hb
        go_wp2_with fail
        go_at_call 14
        refine (szHeatS_calls _ _ _ _ _ hn3 (by omega) (by omega)).mono ?_
        rw [if_pos (by omega)]
        rintro e w1 ⟨rfl, hb⟩
        have k2 := Lib.hid (k1.out.trans (hb.mono k1.out.size)); have r2 := Lib.hid (r1.out.below hb (Nat.le_refl _)); have s2 := Lib.hid (s1.out.below hb (Nat.le_refl _)); have t2 := Lib.hid (t1.out.below hb (Nat.le_refl _)); clear k1 r1 s1 t1; have k1 := k2; have r1 := r2; have s1 := s2; have t1 := t2; clear k2 r2 s2 t2
        clear hb
        go_wp2
        go_ret
        exact ⟨rfl, k1.out⟩
      · have g1 : n ≤ 1048576 := by omega
        have g2 : n2 ≤ 1048576 := by omega
        have g3 : n3 ≤ 1048576 := by omega
        go_enter Try.func3, Try.ntmps3
        go_wp2_with fail
        go_at_call 12
        refine (szPourS_calls A n c ps pm pr pd _ _ r1.out HF.out hn (by omega) (by omega)).mono ?_
        rw [if_neg (by omega)]
        rintro e w1 ⟨rfl, hb⟩
        have k2 := Lib.hid (k1.out.trans (hb.mono k1.out.size)); have r2 := Lib.hid (r1.out.below hb (Nat.le_refl _)); have s2 := Lib.hid (s1.out.below hb (Nat.le_refl _)); have t2 := Lib.hid (t1.out.below hb (Nat.le_refl _)); clear k1 r1 s1 t1; have k1 := k2; have r1 := r2; have s1 := s2; have t1 := t2; clear k2 r2 s2 t2
        clear hb
        go_wp2_with fail
        go_at_call 13
        refine (szCrucibleS_calls B n2 c2 cs cc ch cf _ _ s1.out HG.out hn2 (by omega) (by omega)).mono ?_
        rw [if_neg (by omega)]
        rintro e w1 ⟨rfl, hb⟩
        have k2 := Lib.hid (k1.out.trans (hb.mono k1.out.size)); have r2 := Lib.hid (r1.out.below hb (Nat.le_refl _)); have s2 := Lib.hid (s1.out.below hb (Nat.le_refl _)); have t2 := Lib.hid (t1.out.below hb (Nat.le_refl _)); clear k1 r1 s1 t1; have k1 := k2; have r1 := r2; have s1 := s2; have t1 := t2; clear k2 r2 s2 t2
        clear hb
        go_wp2_with fail
        go_at_call 14
        refine (szHeatS_calls _ _ _ _ _ hn3 (by omega) (by omega)).mono ?_
        rw [if_neg (by omega)]
        rintro e w1 ⟨rfl, hb⟩
        have k2 := Lib.hid (k1.out.trans (hb.mono k1.out.size)); have r2 := Lib.hid (r1.out.below hb (Nat.le_refl _)); have s2 := Lib.hid (s1.out.below hb (Nat.le_refl _)); have t2 := Lib.hid (t1.out.below hb (Nat.le_refl _)); clear k1 r1 s1 t1; have k1 := k2; have r1 := r2; have s1 := s2; have t1 := t2; clear k2 r2 s2 t2
        clear hb
        go_wp2_with fail
        go_at_call 16
        refine (toPourS_calls A n c ps pm pr pd _ r1.out g1).mono ?_
        rintro e w3 ⟨rfl, hb, hgt, hc⟩
        skip
        have k2 := Lib.hid (k1.out.trans (hb.mono k1.out.size)); have r2 := Lib.hid (r1.out.below hb (Nat.le_refl _)); have s2 := Lib.hid (s1.out.below hb (Nat.le_refl _)); have t2 := Lib.hid (t1.out.below hb (Nat.le_refl _)); clear k1 r1 s1 t1; have k1 := k2; have r1 := r2; have s1 := s2; have t1 := t2; clear k2 r2 s2 t2
        clear hb hgt
        have a1 := Lib.hid hc
        clear hc
        go_wp2_with fail
        go_at_call 17
        refine (toCrucibleS_calls B n2 c2 cs cc ch cf _ s1.out g2).mono ?_
        rintro e w4 ⟨rfl, hb, hgt, hc⟩
        have x2 := Lib.hid (a1.out.below hb (Nat.le_refl _)); clear a1
        have k2 := Lib.hid (k1.out.trans (hb.mono k1.out.size)); have r2 := Lib.hid (r1.out.below hb (Nat.le_refl _)); have s2 := Lib.hid (s1.out.below hb (Nat.le_refl _)); have t2 := Lib.hid (t1.out.below hb (Nat.le_refl _)); clear k1 r1 s1 t1; have k1 := k2; have r1 := r2; have s1 := s2; have t1 := t2; clear k2 r2 s2 t2
        clear hb hgt
        have b2 := Lib.hid hc
        clear hc
        go_wp2_with fail
        go_at_call 18
        refine (toHeatS_calls P n3 c3 a0 _ _ _ _ t1.out g3).mono ?_
        rintro e w5 ⟨rfl, hb, hgt, hc⟩
        have x3 := Lib.hid (x2.out.below hb (Nat.le_refl _)); have b3 := Lib.hid (b2.out.below hb (Nat.le_refl _)); clear x2 b2
        have k2 := Lib.hid (k1.out.trans (hb.mono k1.out.size)); have r2 := Lib.hid (r1.out.below hb (Nat.le_refl _)); have s2 := Lib.hid (s1.out.below hb (Nat.le_refl _)); have t2 := Lib.hid (t1.out.below hb (Nat.le_refl _)); clear k1 r1 s1 t1; have k1 := k2; have r1 := r2; have s1 := s2; have t1 := t2; clear k2 r2 s2 t2
        clear hb hgt
        have d3 := Lib.hid hc
        clear hc
        go_wp2_with fail
        go_at_call 15
        refine (sIsSchedule_calls _ n _ ps pm pr pd _ n2 _ cs cc ch cf _ n3 _ _ _ _ _ _ HF.out HG.out x3.out b3.out d3.out g1 g2 g3 HW.out).mono ?_
        rintro e w6 ⟨rfl, hb⟩
        have k2 := Lib.hid (k1.out.trans (hb.mono k1.out.size)); have r2 := Lib.hid (r1.out.below hb (Nat.le_refl _)); have s2 := Lib.hid (s1.out.below hb (Nat.le_refl _)); have t2 := Lib.hid (t1.out.below hb (Nat.le_refl _)); clear k1 r1 s1 t1; have k1 := k2; have r1 := r2; have s1 := s2; have t1 := t2; clear k2 r2 s2 t2
        clear hb x3 b3 d3
        go_wp2_with fail
        go_at_call 16
        refine (toPourS_calls A n c ps pm pr pd _ r1.out g1).mono ?_
        rintro e w7 ⟨rfl, hb, hgt, hc⟩
        skip
        have k2 := Lib.hid (k1.out.trans (hb.mono k1.out.size)); have r2 := Lib.hid (r1.out.below hb (Nat.le_refl _)); have s2 := Lib.hid (s1.out.below hb (Nat.le_refl _)); have t2 := Lib.hid (t1.out.below hb (Nat.le_refl _)); clear k1 r1 s1 t1; have k1 := k2; have r1 := r2; have s1 := s2; have t1 := t2; clear k2 r2 s2 t2
        clear hb hgt
        have x4 := Lib.hid hc
        clear hc
        go_wp2_with fail
        go_at_call 17
        refine (toCrucibleS_calls B n2 c2 cs cc ch cf _ s1.out g2).mono ?_
        rintro e w8 ⟨rfl, hb, hgt, hc⟩
        have x5 := Lib.hid (x4.out.below hb (Nat.le_refl _)); clear x4
        have k2 := Lib.hid (k1.out.trans (hb.mono k1.out.size)); have r2 := Lib.hid (r1.out.below hb (Nat.le_refl _)); have s2 := Lib.hid (s1.out.below hb (Nat.le_refl _)); have t2 := Lib.hid (t1.out.below hb (Nat.le_refl _)); clear k1 r1 s1 t1; have k1 := k2; have r1 := r2; have s1 := s2; have t1 := t2; clear k2 r2 s2 t2
        clear hb hgt
        have b5 := Lib.hid hc
        clear hc
        go_wp2_with fail
        go_at_call 18
        refine (toHeatS_calls P n3 c3 _ _ _ _ _ t1.out g3).mono ?_
        rintro e w9 ⟨rfl, hb, hgt, hc⟩
        have x6 := Lib.hid (x5.out.below hb (Nat.le_refl _)); have b6 := Lib.hid (b5.out.below hb (Nat.le_refl _)); clear x5 b5
        have k2 := Lib.hid (k1.out.trans (hb.mono k1.out.size)); have r2 := Lib.hid (r1.out.below hb (Nat.le_refl _)); have s2 := Lib.hid (s1.out.below hb (Nat.le_refl _)); have t2 := Lib.hid (t1.out.below hb (Nat.le_refl _)); clear k1 r1 s1 t1; have k1 := k2; have r1 := r2; have s1 := s2; have t1 := t2; clear k2 r2 s2 t2
        clear hb hgt
        have d6 := Lib.hid hc
        clear hc
        go_wp2_with fail
        go_at_call 19
        refine (IsSchedule_calls _ n _ ps pm pr pd _ n2 _ cs cc ch cf _ n3 _ _ _ _ _ _ HF.out HG.out x6.out b6.out d6.out g1 g2 g3 (Nat.le_refl _) (by unfold maxLen; omega) HW.out).mono ?_
        rintro e w10 ⟨rfl, hb⟩
        have x7 := Lib.hid (x6.out.below hb (Nat.le_refl _))
        have b7 := Lib.hid (b6.out.below hb (Nat.le_refl _))
        have d7 := Lib.hid (d6.out.below hb (Nat.le_refl _))
        have k2 := Lib.hid (k1.out.trans (hb.mono k1.out.size)); have r2 := Lib.hid (r1.out.below hb (Nat.le_refl _)); have s2 := Lib.hid (s1.out.below hb (Nat.le_refl _)); have t2 := Lib.hid (t1.out.below hb (Nat.le_refl _)); clear k1 r1 s1 t1; have k1 := k2; have r1 := r2; have s1 := s2; have t1 := t2; clear k2 r2 s2 t2
        clear hb x6 b6 d6
        go_wp2_with fail
        go_at_call 16
        refine (toPourS_calls A n c ps pm pr pd _ r1.out g1).mono ?_
        rintro e w11 ⟨rfl, hb, hgt, hc⟩
        have x8 := Lib.hid (x7.out.below hb (Nat.le_refl _)); have b8 := Lib.hid (b7.out.below hb (Nat.le_refl _)); have d8 := Lib.hid (d7.out.below hb (Nat.le_refl _)); clear x7 b7 d7
        have k2 := Lib.hid (k1.out.trans (hb.mono k1.out.size)); have r2 := Lib.hid (r1.out.below hb (Nat.le_refl _)); have s2 := Lib.hid (s1.out.below hb (Nat.le_refl _)); have t2 := Lib.hid (t1.out.below hb (Nat.le_refl _)); clear k1 r1 s1 t1; have k1 := k2; have r1 := r2; have s1 := s2; have t1 := t2; clear k2 r2 s2 t2
        clear hb hgt
        have y8 := Lib.hid hc
        clear hc
        go_wp2_with fail
        go_at_call 20
        refine (eqPourS_calls _ _ n _ _ ps pm pr pd _ x8.out y8.out g1).mono ?_
        rintro e w12 ⟨rfl, hb⟩
        have b9 := Lib.hid (b8.out.below hb (Nat.le_refl _)); have d9 := Lib.hid (d8.out.below hb (Nat.le_refl _)); clear x8 b8 d8 y8
        have k2 := Lib.hid (k1.out.trans (hb.mono k1.out.size)); have r2 := Lib.hid (r1.out.below hb (Nat.le_refl _)); have s2 := Lib.hid (s1.out.below hb (Nat.le_refl _)); have t2 := Lib.hid (t1.out.below hb (Nat.le_refl _)); clear k1 r1 s1 t1; have k1 := k2; have r1 := r2; have s1 := s2; have t1 := t2; clear k2 r2 s2 t2
        clear hb
        go_wp2_with fail
        go_at_call 17
        refine (toCrucibleS_calls B n2 c2 cs cc ch cf _ s1.out g2).mono ?_
        rintro e w13 ⟨rfl, hb, hgt, hc⟩
        have b10 := Lib.hid (b9.out.below hb (Nat.le_refl _)); have d10 := Lib.hid (d9.out.below hb (Nat.le_refl _)); clear b9 d9
        have k2 := Lib.hid (k1.out.trans (hb.mono k1.out.size)); have r2 := Lib.hid (r1.out.below hb (Nat.le_refl _)); have s2 := Lib.hid (s1.out.below hb (Nat.le_refl _)); have t2 := Lib.hid (t1.out.below hb (Nat.le_refl _)); clear k1 r1 s1 t1; have k1 := k2; have r1 := r2; have s1 := s2; have t1 := t2; clear k2 r2 s2 t2
        clear hb hgt
        have y10 := Lib.hid hc
        clear hc
        go_wp2_with fail
        go_at_call 21
        refine (eqCrucibleS_calls _ _ n2 _ _ cs cc ch cf _ b10.out y10.out g2).mono ?_
        rintro e w14 ⟨rfl, hb⟩
        have d11 := Lib.hid (d10.out.below hb (Nat.le_refl _)); clear b10 d10 y10
        have k2 := Lib.hid (k1.out.trans (hb.mono k1.out.size)); have r2 := Lib.hid (r1.out.below hb (Nat.le_refl _)); have s2 := Lib.hid (s1.out.below hb (Nat.le_refl _)); have t2 := Lib.hid (t1.out.below hb (Nat.le_refl _)); clear k1 r1 s1 t1; have k1 := k2; have r1 := r2; have s1 := s2; have t1 := t2; clear k2 r2 s2 t2
        clear hb
        go_wp2_with fail
        go_at_call 18
        refine (toHeatS_calls P n3 c3 _ _ _ _ _ t1.out g3).mono ?_
        rintro e w15 ⟨rfl, hb, hgt, hc⟩
        have d12 := Lib.hid (d11.out.below hb (Nat.le_refl _)); clear d11
        have k2 := Lib.hid (k1.out.trans (hb.mono k1.out.size)); have r2 := Lib.hid (r1.out.below hb (Nat.le_refl _)); have s2 := Lib.hid (s1.out.below hb (Nat.le_refl _)); have t2 := Lib.hid (t1.out.below hb (Nat.le_refl _)); clear k1 r1 s1 t1; have k1 := k2; have r1 := r2; have s1 := s2; have t1 := t2; clear k2 r2 s2 t2
        clear hb hgt
        have y12 := Lib.hid hc
        clear hc
        go_wp2_with fail
        go_at_call 22
        refine (eqHeatS_calls _ _ n3 _ _ a0 _ _ _ _ d12.out y12.out g3).mono ?_
        rintro e w16 ⟨rfl, hb⟩
        skip
        have k2 := Lib.hid (k1.out.trans (hb.mono k1.out.size)); have r2 := Lib.hid (r1.out.below hb (Nat.le_refl _)); have s2 := Lib.hid (s1.out.below hb (Nat.le_refl _)); have t2 := Lib.hid (t1.out.below hb (Nat.le_refl _)); clear k1 r1 s1 t1; have k1 := k2; have r1 := r2; have s1 := s2; have t1 := t2; clear k2 r2 s2 t2
        clear hb
        go_wp2
        go_ret
        exact ⟨rfl, k1.out⟩
theorem own : ownKnob Try.prog.godebug = none := by kernel_rfl
theorem laidOut : laidOutB Try.prog = true := by kernel_rfl
set_option maxRecDepth 100000 in
theorem lifted (os : Os) (started : os.Started) (H : Type) (enc : TypeId × Value → H) :
    ReturnsInHanded {} Try.checked os 3 .any (Rows.fnExactIsScheduleSpec.pre6 enc Try.prog Try.f3 Rows.fnExactIsScheduleRow.domain false) (Rows.fnExactIsScheduleSpec.post enc Try.prog Try.f3 false true false false) := by
  refine returnsInHanded_of_change (C := Try.checked) own started (by kernel_rfl) Try.func3
    (ChangeSpec.witness6 (enc := enc) (C := Try.checked) false ⟨#[], #[.slice none 0 0, .slice none 0 0, .slice none 0 0], []⟩ 8 (by kernel_rfl) (by kernel_rfl) (by kernel_rfl) (by kernel_rfl)) ?_
  intro W base args ds gs before hval0 hW hcnd _
  have hval : ∀ (j : Nat) t v, Try.f3.params[j]? = some t → args[j]? = some v → Value.okWide Try.prog W .any base t v := hval0
  have hW' := hW
  obtain ⟨p, q, hA0, hV, rfl, hfz, hnd⟩ := hW
  have hA : DataW.TrodAll enc Try.prog W 0 (fun _ => true) true Try.f3.params.toList args.toList ds p := hA0
  rw [Try.params3] at hA hval
  obtain ⟨v0, vs0, d0, ds0, p0, q0, hargs, rfl, rfl, h0, r0⟩ := trodAll_cons hA
  obtain ⟨v1, vs1, d1, ds1, p1, q1, rfl, rfl, rfl, h1, r1⟩ := trodAll_cons r0
  obtain ⟨v2, vs2, d2, ds2, p2, q2, rfl, rfl, rfl, h2, r2⟩ := trodAll_cons r1
  obtain ⟨rfl, rfl, rfl⟩ := trodAll_nil r2
  obtain rfl : args = #[v0, v1, v2] := by cases args; simp_all
  obtain ⟨rfl, rfl⟩ := trodVars_none hV
  have k0 := h0
  have lt0 : ∀ x ∈ p0, x.block < W.heap.size := by obtain ⟨m, hm⟩ := k0; exact DataW.trod_lt m _ _ _ hm
  have k1 := h1
  have lt1 : ∀ x ∈ p1, x.block < W.heap.size := by obtain ⟨m, hm⟩ := k1; exact DataW.trod_lt m _ _ _ hm
  have k2 := h2
  have lt2 : ∀ x ∈ p2, x.block < W.heap.size := by obtain ⟨m, hm⟩ := k2; exact DataW.trod_lt m _ _ _ hm
  obtain ⟨A0, n0, m0, rfl⟩ := okWide_slice Try.underlying22 (hval 0 22 v0 rfl rfl)
  obtain ⟨fu0, hf0⟩ := h0
  obtain ⟨s0_0, a0_1, a0_2, a0_3, hr0, hn0, c0_0, c0_1, c0_2, c0_3⟩ := openPourS hf0
  obtain ⟨A1, n1, m1, rfl⟩ := okWide_slice Try.underlying23 (hval 1 23 v1 rfl rfl)
  obtain ⟨fu1, hf1⟩ := h1
  obtain ⟨s1_0, a1_1, a1_2, a1_3, hr1, hn1, c1_0, c1_1, c1_2, c1_3⟩ := openCrucibleS hf1
  obtain ⟨A2, n2, m2, rfl⟩ := okWide_slice Try.underlying24 (hval 2 24 v2 rfl rfl)
  obtain ⟨fu2, hf2⟩ := h2
  obtain ⟨a2_0, a2_1, a2_2, a2_3, hr2, hn2, c2_0, c2_1, c2_2, c2_3⟩ := openHeatS hf2
  clear hA0 hval0
  refine (walk A0 n0 m0 s0_0 a0_1 a0_2 a0_3 A1 n1 m1 s1_0 a1_1 a1_2 a1_3 A2 n2 m2 a2_0 a2_1 a2_2 a2_3 W hr0 hn0 c0_0 c0_1 c0_2 c0_3 hr1 hn1 c1_0 c1_1 c1_2 c1_3 hr2 hn2 c2_0 c2_1 c2_2 c2_3).mono fun e W' ⟨he, bel⟩ => ?_
  subst he
  exact ⟨_, rfl, _, _, _, [], _, [], hW', trodAll_mk1 (shut_bool Try.underlying4 _), (trodAll_cons_mk (Below.trod laidOut (by kernel_rfl) (of_decide_eq_true (by kernel_rfl)) k0 bel lt0) (trodAll_cons_mk (Below.trod laidOut (by kernel_rfl) (of_decide_eq_true (by kernel_rfl)) k1 bel lt1) (trodAll_cons_mk (Below.trod laidOut (by kernel_rfl) (of_decide_eq_true (by kernel_rfl)) k2 bel lt2) trodAll_mk0))), rfl, bel.frame _, fun h => by cases h⟩
theorem proved : Rows.FnExactIsScheduleSaid :=
  OpenClaim.holds_of_wide 3 Try.f3 rfl rfl rfl rfl rfl rfl rfl ⟨rfl, rfl, rfl, rfl, rfl⟩ rfl rfl rfl rfl rfl (by kernel_rfl) Try.func3 (by kernel_rfl)
    (of_decide_eq_true (by kernel_rfl)) (by unfold Func.isWrapper; first | (rw [if_pos (by decide +kernel)]; kernel_rfl) | (rw [if_neg (by decide +kernel)]; exact ⟨rfl, rfl⟩))
    (fun os started H enc _ => lifted os started H enc)
end Go.Proofs.Ytaanlkdpconfiaa.FnExactIsSchedule
