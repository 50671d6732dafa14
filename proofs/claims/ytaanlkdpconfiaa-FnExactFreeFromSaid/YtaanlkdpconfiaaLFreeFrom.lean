/- FnExactFreeFrom: the program's FreeFrom and the reference's give the same of every bays, castings, places, bay and time. No further condition. -/


import Derived.Test.YtaanlkdpconfiaaRows
import Derived.Test.YtaanlkdpconfiaaFrame
import Derived.Test.YtaanlkdpconfiaaFree
namespace Go.Proofs.Ytaanlkdpconfiaa.FnExactFreeFrom
set_option linter.unusedVariables false
open Go.ChangeShapes Go.WideShapes Go.ChangeAt Go.RowKit Go.Deep
open Go.ChangeMaps (open_string shut_string)
set_option maxHeartbeats 8000000 in
theorem walk (A : Option Addr) (n c : Nat) (bs : Nat → ByteArray) (br bd : Nat → Int) (B : Option Addr) (n2 c2 : Nat) (cs : Nat → ByteArray) (cr cd ct cf : Nat → Int) (P : Option Addr) (n3 c3 : Nat) (p : Nat → Int) (bay t : Int) (w : World) (hr : BayRow w A n bs br bd) (hn : n ≤ maxLen) (hbs : ∀ i, i < n → (bs i).size ≤ maxLen) (_ : ∀ i, i < n → (Lit.int .i64 (br i)).wf = true) (_ : ∀ i, i < n → (Lit.int .i64 (bd i)).wf = true) (hs : CastingRow w B n2 cs cr cd ct cf) (hn2 : n2 ≤ maxLen) (hcs : ∀ i, i < n2 → (cs i).size ≤ maxLen) (_ : ∀ i, i < n2 → (Lit.int .i64 (cr i)).wf = true) (_ : ∀ i, i < n2 → (Lit.int .i64 (cd i)).wf = true) (_ : ∀ i, i < n2 → (Lit.int .i64 (ct i)).wf = true) (_ : ∀ i, i < n2 → (Lit.int .i64 (cf i)).wf = true) (ht : IntRow w P n3 p) (hn3 : n3 ≤ maxLen) (_ : ∀ i, i < n3 → (Lit.int .i64 (p i)).wf = true) (_ : (Lit.int .i64 bay).wf = true) (_ : (Lit.int .i64 t).wf = true) :
    Calls Try.prog 5 #[.slice A n c, .slice B n2 c2, .slice P n3 c3, .int .i64 bay, .int .i64 t] w fun e w' => e = .returned (.bool true) ∧ Below w.heap.size w w' := by
  have HF := Lib.hid hbs
  have HG := Lib.hid hcs
  have r1 := Lib.hid hr
  have s1 := Lib.hid hs
  have t1 := Lib.hid ht
  have k1 := Lib.hid (Below.refl w.heap.size w)
  clear hr hbs hs hcs ht
  cases big : decide ((1048576 : Int) < (n3 : Int))
  · have g3 : n3 ≤ 1048576 := by have := of_decide_eq_false big; omega
    by_cases hbig : (1048576 : Int) < (n : Int) + sumS bs n
    · go_enter Try.func5, Try.ntmps5
      go_wp2_with fail
      go_at_call 25
      refine (szBayS_calls A n c bs br bd _ _ r1.out HF.out hn (by omega) (by omega)).mono ?_
      rw [if_pos (by omega)]
      rintro e w1 ⟨rfl, hb⟩
      have k2 := Lib.hid (k1.out.trans (hb.mono k1.out.size)); have r2 := Lib.hid (r1.out.below hb (Nat.le_refl _)); have s2 := Lib.hid (s1.out.below hb (Nat.le_refl _)); have t2 := Lib.hid (t1.out.below hb (Nat.le_refl _)); clear k1 r1 s1 t1; have k1 := k2; have r1 := r2; have s1 := s2; have t1 := t2; clear k2 r2 s2 t2
      clear hb
      go_wp2
      go_ret
      exact ⟨rfl, k1.out⟩
    · by_cases hbig2 : (1048576 : Int) - ((n : Int) + sumS bs n) < (n2 : Int) + sumS cs n2
      · go_enter Try.func5, Try.ntmps5
        go_wp2_with fail
        go_at_call 25
        refine (szBayS_calls A n c bs br bd _ _ r1.out HF.out hn (by omega) (by omega)).mono ?_
        rw [if_neg (by omega)]
        rintro e w1 ⟨rfl, hb⟩
        have k2 := Lib.hid (k1.out.trans (hb.mono k1.out.size)); have r2 := Lib.hid (r1.out.below hb (Nat.le_refl _)); have s2 := Lib.hid (s1.out.below hb (Nat.le_refl _)); have t2 := Lib.hid (t1.out.below hb (Nat.le_refl _)); clear k1 r1 s1 t1; have k1 := k2; have r1 := r2; have s1 := s2; have t1 := t2; clear k2 r2 s2 t2
        clear hb
        go_wp2_with fail
        go_at_call 26
        refine (szCastingS_calls B n2 c2 cs cr cd ct cf _ _ s1.out HG.out hn2 (by omega) (by omega)).mono ?_
        rw [if_pos (by omega)]
        rintro e w1 ⟨rfl, hb⟩
        have k2 := Lib.hid (k1.out.trans (hb.mono k1.out.size)); have r2 := Lib.hid (r1.out.below hb (Nat.le_refl _)); have s2 := Lib.hid (s1.out.below hb (Nat.le_refl _)); have t2 := Lib.hid (t1.out.below hb (Nat.le_refl _)); clear k1 r1 s1 t1; have k1 := k2; have r1 := r2; have s1 := s2; have t1 := t2; clear k2 r2 s2 t2
        clear hb
        go_wp2
        go_ret
        exact ⟨rfl, k1.out⟩
      · have g1 : n ≤ 1048576 := by omega
        have g2 : n2 ≤ 1048576 := by omega
        go_enter Try.func5, Try.ntmps5
        go_wp2_with fail
        go_at_call 25
        refine (szBayS_calls A n c bs br bd _ _ r1.out HF.out hn (by omega) (by omega)).mono ?_
        rw [if_neg (by omega)]
        rintro e w1 ⟨rfl, hb⟩
        have k2 := Lib.hid (k1.out.trans (hb.mono k1.out.size)); have r2 := Lib.hid (r1.out.below hb (Nat.le_refl _)); have s2 := Lib.hid (s1.out.below hb (Nat.le_refl _)); have t2 := Lib.hid (t1.out.below hb (Nat.le_refl _)); clear k1 r1 s1 t1; have k1 := k2; have r1 := r2; have s1 := s2; have t1 := t2; clear k2 r2 s2 t2
        clear hb
        go_wp2_with fail
        go_at_call 26
        refine (szCastingS_calls B n2 c2 cs cr cd ct cf _ _ s1.out HG.out hn2 (by omega) (by omega)).mono ?_
        rw [if_neg (by omega)]
        rintro e w1 ⟨rfl, hb⟩
        have k2 := Lib.hid (k1.out.trans (hb.mono k1.out.size)); have r2 := Lib.hid (r1.out.below hb (Nat.le_refl _)); have s2 := Lib.hid (s1.out.below hb (Nat.le_refl _)); have t2 := Lib.hid (t1.out.below hb (Nat.le_refl _)); clear k1 r1 s1 t1; have k1 := k2; have r1 := r2; have s1 := s2; have t1 := t2; clear k2 r2 s2 t2
        clear hb
        go_wp2_with fail
        go_at_call 28
        refine (toBayS_calls A n c bs br bd _ r1.out g1).mono ?_
        rintro e w3 ⟨rfl, hb, hgt, hc⟩
        skip
        have k2 := Lib.hid (k1.out.trans (hb.mono k1.out.size)); have r2 := Lib.hid (r1.out.below hb (Nat.le_refl _)); have s2 := Lib.hid (s1.out.below hb (Nat.le_refl _)); have t2 := Lib.hid (t1.out.below hb (Nat.le_refl _)); clear k1 r1 s1 t1; have k1 := k2; have r1 := r2; have s1 := s2; have t1 := t2; clear k2 r2 s2 t2
        clear hb hgt
        have a1 := Lib.hid hc
        clear hc
        go_wp2_with fail
        go_at_call 29
        refine (toCastingS_calls B n2 c2 cs cr cd ct cf _ s1.out g2).mono ?_
        rintro e w4 ⟨rfl, hb, hgt, hc⟩
        have a2 := Lib.hid (a1.out.below hb (Nat.le_refl _)); clear a1
        have k2 := Lib.hid (k1.out.trans (hb.mono k1.out.size)); have r2 := Lib.hid (r1.out.below hb (Nat.le_refl _)); have s2 := Lib.hid (s1.out.below hb (Nat.le_refl _)); have t2 := Lib.hid (t1.out.below hb (Nat.le_refl _)); clear k1 r1 s1 t1; have k1 := k2; have r1 := r2; have s1 := s2; have t1 := t2; clear k2 r2 s2 t2
        clear hb hgt
        have b2 := Lib.hid hc
        clear hc
        go_wp2_with fail
        go_at_call 30
        refine (toInt64S_calls P n3 c3 p _ t1.out g3).mono ?_
        rintro e w5 ⟨rfl, hb, hgt, hc⟩
        have a3 := Lib.hid (a2.out.below hb (Nat.le_refl _)); have b3 := Lib.hid (b2.out.below hb (Nat.le_refl _)); clear a2 b2
        have k2 := Lib.hid (k1.out.trans (hb.mono k1.out.size)); have r2 := Lib.hid (r1.out.below hb (Nat.le_refl _)); have s2 := Lib.hid (s1.out.below hb (Nat.le_refl _)); have t2 := Lib.hid (t1.out.below hb (Nat.le_refl _)); clear k1 r1 s1 t1; have k1 := k2; have r1 := r2; have s1 := s2; have t1 := t2; clear k2 r2 s2 t2
        clear hb hgt
        have d3 := Lib.hid hc
        clear hc
        go_wp2_with fail
        go_at_call 27
        refine (sFreeFrom_calls _ n _ bs br bd _ n2 _ cs cr cd ct cf _ n3 _ p bay t _ HF.out HG.out a3.out b3.out d3.out g1 g2 g3).mono ?_
        rintro e w6 ⟨rfl, hb⟩
        have k2 := Lib.hid (k1.out.trans (hb.mono k1.out.size)); have r2 := Lib.hid (r1.out.below hb (Nat.le_refl _)); have s2 := Lib.hid (s1.out.below hb (Nat.le_refl _)); have t2 := Lib.hid (t1.out.below hb (Nat.le_refl _)); clear k1 r1 s1 t1; have k1 := k2; have r1 := r2; have s1 := s2; have t1 := t2; clear k2 r2 s2 t2
        clear hb a3 b3 d3
        go_wp2_with fail
        go_at_call 28
        refine (toBayS_calls A n c bs br bd _ r1.out g1).mono ?_
        rintro e w7 ⟨rfl, hb, hgt, hc⟩
        skip
        have k2 := Lib.hid (k1.out.trans (hb.mono k1.out.size)); have r2 := Lib.hid (r1.out.below hb (Nat.le_refl _)); have s2 := Lib.hid (s1.out.below hb (Nat.le_refl _)); have t2 := Lib.hid (t1.out.below hb (Nat.le_refl _)); clear k1 r1 s1 t1; have k1 := k2; have r1 := r2; have s1 := s2; have t1 := t2; clear k2 r2 s2 t2
        clear hb hgt
        have a4 := Lib.hid hc
        clear hc
        go_wp2_with fail
        go_at_call 29
        refine (toCastingS_calls B n2 c2 cs cr cd ct cf _ s1.out g2).mono ?_
        rintro e w8 ⟨rfl, hb, hgt, hc⟩
        have a5 := Lib.hid (a4.out.below hb (Nat.le_refl _)); clear a4
        have k2 := Lib.hid (k1.out.trans (hb.mono k1.out.size)); have r2 := Lib.hid (r1.out.below hb (Nat.le_refl _)); have s2 := Lib.hid (s1.out.below hb (Nat.le_refl _)); have t2 := Lib.hid (t1.out.below hb (Nat.le_refl _)); clear k1 r1 s1 t1; have k1 := k2; have r1 := r2; have s1 := s2; have t1 := t2; clear k2 r2 s2 t2
        clear hb hgt
        have b5 := Lib.hid hc
        clear hc
        go_wp2_with fail
        go_at_call 30
        refine (toInt64S_calls P n3 c3 p _ t1.out g3).mono ?_
        rintro e w9 ⟨rfl, hb, hgt, hc⟩
        have a6 := Lib.hid (a5.out.below hb (Nat.le_refl _)); have b6 := Lib.hid (b5.out.below hb (Nat.le_refl _)); clear a5 b5
        have k2 := Lib.hid (k1.out.trans (hb.mono k1.out.size)); have r2 := Lib.hid (r1.out.below hb (Nat.le_refl _)); have s2 := Lib.hid (s1.out.below hb (Nat.le_refl _)); have t2 := Lib.hid (t1.out.below hb (Nat.le_refl _)); clear k1 r1 s1 t1; have k1 := k2; have r1 := r2; have s1 := s2; have t1 := t2; clear k2 r2 s2 t2
        clear hb hgt
        have d6 := Lib.hid hc
        clear hc
        go_wp2_with fail
        go_at_call 31
        refine (FreeFrom_calls _ n _ bs br bd _ n2 _ cs cr cd ct cf _ n3 _ p bay t _ HF.out HG.out a6.out b6.out d6.out g1 g2 g3 (Nat.le_refl _) (by unfold maxLen; omega)).mono ?_
        rintro e w10 ⟨rfl, hb⟩
        have a7 := Lib.hid (a6.out.below hb (Nat.le_refl _))
        have b7 := Lib.hid (b6.out.below hb (Nat.le_refl _))
        have d7 := Lib.hid (d6.out.below hb (Nat.le_refl _))
        have k2 := Lib.hid (k1.out.trans (hb.mono k1.out.size)); have r2 := Lib.hid (r1.out.below hb (Nat.le_refl _)); have s2 := Lib.hid (s1.out.below hb (Nat.le_refl _)); have t2 := Lib.hid (t1.out.below hb (Nat.le_refl _)); clear k1 r1 s1 t1; have k1 := k2; have r1 := r2; have s1 := s2; have t1 := t2; clear k2 r2 s2 t2
        clear hb a6 b6 d6
        go_wp2_with fail
        go_at_call 28
        refine (toBayS_calls A n c bs br bd _ r1.out g1).mono ?_
        rintro e w11 ⟨rfl, hb, hgt, hc⟩
        have a8 := Lib.hid (a7.out.below hb (Nat.le_refl _)); have b8 := Lib.hid (b7.out.below hb (Nat.le_refl _)); have d8 := Lib.hid (d7.out.below hb (Nat.le_refl _)); clear a7 b7 d7
        have k2 := Lib.hid (k1.out.trans (hb.mono k1.out.size)); have r2 := Lib.hid (r1.out.below hb (Nat.le_refl _)); have s2 := Lib.hid (s1.out.below hb (Nat.le_refl _)); have t2 := Lib.hid (t1.out.below hb (Nat.le_refl _)); clear k1 r1 s1 t1; have k1 := k2; have r1 := r2; have s1 := s2; have t1 := t2; clear k2 r2 s2 t2
        clear hb hgt
        have x8 := Lib.hid hc
        clear hc
        go_wp2_with fail
        go_at_call 32
        refine (eqBayS_calls _ _ n _ _ bs br bd _ a8.out x8.out g1).mono ?_
        rintro e w12 ⟨rfl, hb⟩
        have b9 := Lib.hid (b8.out.below hb (Nat.le_refl _)); have d9 := Lib.hid (d8.out.below hb (Nat.le_refl _)); clear a8 b8 d8 x8
        have k2 := Lib.hid (k1.out.trans (hb.mono k1.out.size)); have r2 := Lib.hid (r1.out.below hb (Nat.le_refl _)); have s2 := Lib.hid (s1.out.below hb (Nat.le_refl _)); have t2 := Lib.hid (t1.out.below hb (Nat.le_refl _)); clear k1 r1 s1 t1; have k1 := k2; have r1 := r2; have s1 := s2; have t1 := t2; clear k2 r2 s2 t2
        clear hb
        go_wp2_with fail
        go_at_call 29
        refine (toCastingS_calls B n2 c2 cs cr cd ct cf _ s1.out g2).mono ?_
        rintro e w13 ⟨rfl, hb, hgt, hc⟩
        have b10 := Lib.hid (b9.out.below hb (Nat.le_refl _)); have d10 := Lib.hid (d9.out.below hb (Nat.le_refl _)); clear b9 d9
        have k2 := Lib.hid (k1.out.trans (hb.mono k1.out.size)); have r2 := Lib.hid (r1.out.below hb (Nat.le_refl _)); have s2 := Lib.hid (s1.out.below hb (Nat.le_refl _)); have t2 := Lib.hid (t1.out.below hb (Nat.le_refl _)); clear k1 r1 s1 t1; have k1 := k2; have r1 := r2; have s1 := s2; have t1 := t2; clear k2 r2 s2 t2
        clear hb hgt
        have x10 := Lib.hid hc
        clear hc
        go_wp2_with fail
        go_at_call 33
        refine (eqCastingS_calls _ _ n2 _ _ cs cr cd ct cf _ b10.out x10.out g2).mono ?_
        rintro e w14 ⟨rfl, hb⟩
        have d11 := Lib.hid (d10.out.below hb (Nat.le_refl _)); clear b10 d10 x10
        have k2 := Lib.hid (k1.out.trans (hb.mono k1.out.size)); have r2 := Lib.hid (r1.out.below hb (Nat.le_refl _)); have s2 := Lib.hid (s1.out.below hb (Nat.le_refl _)); have t2 := Lib.hid (t1.out.below hb (Nat.le_refl _)); clear k1 r1 s1 t1; have k1 := k2; have r1 := r2; have s1 := s2; have t1 := t2; clear k2 r2 s2 t2
        clear hb
        go_wp2_with fail
        go_at_call 30
        refine (toInt64S_calls P n3 c3 p _ t1.out g3).mono ?_
        rintro e w15 ⟨rfl, hb, hgt, hc⟩
        have d12 := Lib.hid (d11.out.below hb (Nat.le_refl _)); clear d11
        have k2 := Lib.hid (k1.out.trans (hb.mono k1.out.size)); have r2 := Lib.hid (r1.out.below hb (Nat.le_refl _)); have s2 := Lib.hid (s1.out.below hb (Nat.le_refl _)); have t2 := Lib.hid (t1.out.below hb (Nat.le_refl _)); clear k1 r1 s1 t1; have k1 := k2; have r1 := r2; have s1 := s2; have t1 := t2; clear k2 r2 s2 t2
        clear hb hgt
        have x12 := Lib.hid hc
        clear hc
        go_wp2_with fail
        go_at_call 34
        refine (eqInt64S_calls _ _ n3 _ _ p _ d12.out x12.out g3).mono ?_
        rintro e w16 ⟨rfl, hb⟩
        skip
        have k2 := Lib.hid (k1.out.trans (hb.mono k1.out.size)); have r2 := Lib.hid (r1.out.below hb (Nat.le_refl _)); have s2 := Lib.hid (s1.out.below hb (Nat.le_refl _)); have t2 := Lib.hid (t1.out.below hb (Nat.le_refl _)); clear k1 r1 s1 t1; have k1 := k2; have r1 := r2; have s1 := s2; have t1 := t2; clear k2 r2 s2 t2
        clear hb
        go_wp2
        go_ret
        exact ⟨rfl, k1.out⟩
  · have g3 : 1048576 < n3 := by have := of_decide_eq_true big; omega
    go_enter Try.func5, Try.ntmps5
    go_wp2
    go_ret
    exact ⟨rfl, k1.out⟩
theorem own : ownKnob Try.prog.godebug = none := by kernel_rfl
theorem laidOut : laidOutB Try.prog = true := by kernel_rfl
set_option maxRecDepth 100000 in
theorem lifted (os : Os) (started : os.Started) (H : Type) (enc : TypeId × Value → H) :
    ReturnsInHanded {} Try.checked os 5 .any (Rows.fnExactFreeFromSpec.pre6 enc Try.prog Try.f5 Rows.fnExactFreeFromRow.domain false) (Rows.fnExactFreeFromSpec.post enc Try.prog Try.f5 false true false false) := by
  refine returnsInHanded_of_change (C := Try.checked) own started (by kernel_rfl) Try.func5
    (ChangeSpec.witness6 (enc := enc) (C := Try.checked) false ⟨#[], #[.slice none 0 0, .slice none 0 0, .slice none 0 0, .int .i64 0, .int .i64 0], []⟩ 8 (by kernel_rfl) (by kernel_rfl) (by kernel_rfl) (by kernel_rfl)) ?_
  intro W base args ds gs before hval0 hW hcnd _
  have hval : ∀ (j : Nat) t v, Try.f5.params[j]? = some t → args[j]? = some v → Value.okWide Try.prog W .any base t v := hval0
  have hW' := hW
  obtain ⟨p, q, hA0, hV, rfl, hfz, hnd⟩ := hW
  have hA : DataW.TrodAll enc Try.prog W 0 (fun _ => true) true Try.f5.params.toList args.toList ds p := hA0
  rw [Try.params5] at hA hval
  obtain ⟨v0, vs0, d0, ds0, p0, q0, hargs, rfl, rfl, h0, r0⟩ := trodAll_cons hA
  obtain ⟨v1, vs1, d1, ds1, p1, q1, rfl, rfl, rfl, h1, r1⟩ := trodAll_cons r0
  obtain ⟨v2, vs2, d2, ds2, p2, q2, rfl, rfl, rfl, h2, r2⟩ := trodAll_cons r1
  obtain ⟨v3, vs3, d3, ds3, p3, q3, rfl, rfl, rfl, h3, r3⟩ := trodAll_cons r2
  obtain ⟨v4, vs4, d4, ds4, p4, q4, rfl, rfl, rfl, h4, r4⟩ := trodAll_cons r3
  obtain ⟨rfl, rfl, rfl⟩ := trodAll_nil r4
  obtain rfl : args = #[v0, v1, v2, v3, v4] := by cases args; simp_all
  obtain ⟨rfl, rfl⟩ := trodVars_none hV
  have k0 := h0
  have lt0 : ∀ x ∈ p0, x.block < W.heap.size := by obtain ⟨m, hm⟩ := k0; exact DataW.trod_lt m _ _ _ hm
  have k1 := h1
  have lt1 : ∀ x ∈ p1, x.block < W.heap.size := by obtain ⟨m, hm⟩ := k1; exact DataW.trod_lt m _ _ _ hm
  have k2 := h2
  have lt2 : ∀ x ∈ p2, x.block < W.heap.size := by obtain ⟨m, hm⟩ := k2; exact DataW.trod_lt m _ _ _ hm
  have k3 := h3
  have lt3 : ∀ x ∈ p3, x.block < W.heap.size := by obtain ⟨m, hm⟩ := k3; exact DataW.trod_lt m _ _ _ hm
  have k4 := h4
  have lt4 : ∀ x ∈ p4, x.block < W.heap.size := by obtain ⟨m, hm⟩ := k4; exact DataW.trod_lt m _ _ _ hm
  obtain ⟨A0, n0, m0, rfl⟩ := okWide_slice Try.underlying41 (hval 0 41 v0 rfl rfl)
  obtain ⟨fu0, hf0⟩ := h0
  obtain ⟨s0_0, a0_1, a0_2, hr0, hn0, c0_0, c0_1, c0_2⟩ := openBayS hf0
  obtain ⟨A1, n1, m1, rfl⟩ := okWide_slice Try.underlying42 (hval 1 42 v1 rfl rfl)
  obtain ⟨fu1, hf1⟩ := h1
  obtain ⟨s1_0, a1_1, a1_2, a1_3, a1_4, hr1, hn1, c1_0, c1_1, c1_2, c1_3, c1_4⟩ := openCastingS hf1
  obtain ⟨A2, n2, m2, rfl⟩ := okWide_slice Try.underlying43 (hval 2 43 v2 rfl rfl)
  obtain ⟨fu2, hf2⟩ := h2
  obtain ⟨p2_0, hr2, hn2, c2_0⟩ := openInts hf2
  obtain ⟨a3, rfl, _, _, wa3⟩ := open_int Try.underlying2 (hval 3 2 v3 rfl rfl) h3
  obtain ⟨a4, rfl, _, _, wa4⟩ := open_int Try.underlying2 (hval 4 2 v4 rfl rfl) h4
  clear hA0 hval0
  refine (walk A0 n0 m0 s0_0 a0_1 a0_2 A1 n1 m1 s1_0 a1_1 a1_2 a1_3 a1_4 A2 n2 m2 p2_0 a3 a4 W hr0 hn0 c0_0 c0_1 c0_2 hr1 hn1 c1_0 c1_1 c1_2 c1_3 c1_4 hr2 hn2 c2_0 wa3 wa4).mono fun e W' ⟨he, bel⟩ => ?_
  subst he
  exact ⟨_, rfl, _, _, _, [], _, [], hW', trodAll_mk1 (shut_bool Try.underlying4 _), (trodAll_cons_mk (Below.trod laidOut (by kernel_rfl) (of_decide_eq_true (by kernel_rfl)) k0 bel lt0) (trodAll_cons_mk (Below.trod laidOut (by kernel_rfl) (of_decide_eq_true (by kernel_rfl)) k1 bel lt1) (trodAll_cons_mk (Below.trod laidOut (by kernel_rfl) (of_decide_eq_true (by kernel_rfl)) k2 bel lt2) (trodAll_cons_mk (Below.trod laidOut (by kernel_rfl) (of_decide_eq_true (by kernel_rfl)) k3 bel lt3) (trodAll_cons_mk (Below.trod laidOut (by kernel_rfl) (of_decide_eq_true (by kernel_rfl)) k4 bel lt4) trodAll_mk0))))), rfl, bel.frame _, fun h => by cases h⟩
theorem proved : Rows.FnExactFreeFromSaid :=
  OpenClaim.holds_of_wide 5 Try.f5 rfl rfl rfl rfl rfl rfl rfl ⟨rfl, rfl, rfl, rfl, rfl⟩ rfl rfl rfl rfl rfl (by kernel_rfl) Try.func5 (by kernel_rfl)
    (of_decide_eq_true (by kernel_rfl)) (by unfold Func.isWrapper; first | (rw [if_pos (by decide +kernel)]; kernel_rfl) | (rw [if_neg (by decide +kernel)]; exact ⟨rfl, rfl⟩))
    (fun os started H enc _ => lifted os started H enc)
end Go.Proofs.Ytaanlkdpconfiaa.FnExactFreeFrom
