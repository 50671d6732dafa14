/- visit: the walk. -/
import Derived.Test.YtonoeohmpaegdaaPlaceV
namespace Go.Proofs.Ytonoeohmpaegdaa
set_option linter.unusedVariables false
open Go.RowKit

theorem own_sliceV {w : World} {base : Nat} {e : TypeId} {size : Nat} {v : Value} {n : Nat} {xs : List Value} (h : w.ownsRow base e size v n xs) : ∃ A c, v = .slice A n c := by
  rcases h.2 with ⟨hv, h0⟩ | ⟨g, cap, cur, hv, -⟩
  · subst h0
    exact ⟨_, _, hv⟩
  · exact ⟨_, _, hv⟩
theorem own_base {w : World} {base b2 : Nat} {e : TypeId} {size : Nat} {v : Value} {n : Nat} {xs : List Value} (h : w.ownsRow b2 e size v n xs) (hb : base ≤ b2) : w.ownsRow base e size v n xs := by
  refine ⟨h.1, ?_⟩
  rcases h.2 with hv | ⟨g, cap, cur, hv, hg, rest⟩
  · exact Or.inl hv
  · exact Or.inr ⟨g, cap, cur, hv, Nat.le_trans hb hg, rest⟩
set_option maxRecDepth 20000 in
set_option maxHeartbeats 2000000 in
theorem own_calls (v : Value) (base n : Nat) (l : List Int) (w : World) (h : w.ownsRow base 2 1 v n (l.map (Value.int .i64))) (hn : n ≤ 1048576) :
    Calls Try.prog 38 #[v] w fun e w' => ∃ v', e = .returned v' ∧ w'.ownsRow w.heap.size 2 1 v' n (l.map (Value.int .i64)) ∧ Below w.heap.size w w' := by
  obtain ⟨i0, hi, hz0, hz1, hz2⟩ := info_parts Int64_info
  have hl : l.length = n := by have := h.1; simpa using this
  have HL0 : Hid ((w.alloc (.cells #[] 2)).ownsRow w.heap.size 2 1 (.slice (some ⟨w.heap.size, 0, none⟩) 0 0) 0 []) := Lib.hid (World.ownsRow_lit (base := w.heap.size) (e := 2) (size := 1) w #[] 0 (Nat.le_refl _) (by unfold maxLen; omega) rfl)
  have HBA := Lib.hid ((Below.refl w.heap.size w).alloc (Nat.le_refl _) (.cells #[] 2))
  rcases Nat.eq_zero_or_pos n with h0 | h0
  · subst h0
    have hl0 : l = [] := List.eq_nil_of_length_eq_zero hl
    subst hl0
    rcases h.2 with ⟨rfl, -⟩ | ⟨g, cap, cur, rfl, hb, hg, hc, hm, hs, ht⟩
    · have hap := run_append_owned_none (P := Try.prog) (w := w.alloc (.cells #[] 2)) w.heap.size 26 26 2 i0 1 Try.underlying26 hi _ _ _ HL0.out
      clear h
      go_enter Try.func38, Try.ntmps38
      go_wp2
      go_ret
      exact ⟨_, rfl, HL0.out, HBA.out⟩
    · clear h
      go_enter Try.func38, Try.ntmps38
      go_wp2_with (at_builtin; refine wpList_append_own _ rfl _ _ 26 rfl w.heap.size 2 i0 (.int .i64 0) 1 8 Try.underlying26 hi hz0 hz1 hz2 rfl (by decide) _ _ _ rfl HL0.out ⟨g, 0, none⟩ 0 cap [] rfl rfl (fun j u hj => by cases hj) (fun u hu => by cases hu) (by unfold maxLen; omega) (by omega) (by simp) ?_; intro v' w1 hown' hgrow _; have HOWN := Lib.hid hown'; have HB1 := Lib.hid (HBA.out.grown hgrow (by simp) (fun k hk => by have := (HL0.out.lt k hk).1; omega)); clear hown' hgrow)
      go_ret
      exact ⟨_, rfl, HOWN.out, HB1.out⟩
  · obtain ⟨g, cap, cur, rfl, hb, hblk, hc, hm, hs, hcur⟩ := own_blk h h0
    have hg := hblk.lt
    have HN := Lib.hid (fun (j : Nat) (u : Value) (hj : (l.map (Value.int .i64))[j]? = some u) => show (w.alloc (.cells #[] 2)).cell? ((⟨g, 0, none⟩ : Addr).add j) = some u from by
      have h1 : j < n := by
        rcases Nat.lt_or_ge j n with q | q
        · exact q
        · rw [List.getElem?_eq_none (by simpa [hl] using q)] at hj; cases hj
      have hadd : (⟨g, 0, none⟩ : Addr).add j = ⟨g, j, none⟩ := by unfold Addr.add; split <;> simp_all
      rw [hadd, (hblk.alloc _).cell j, hcur j (by omega)]
      exact hj)
    have HLL := Lib.hid hl
    clear h hblk hcur hs
    go_enter Try.func38, Try.ntmps38
    go_wp2_with (at_builtin; refine wpList_append_own _ rfl _ _ 26 rfl w.heap.size 2 i0 (.int .i64 0) 1 8 Try.underlying26 hi hz0 hz1 hz2 rfl (by decide) _ _ _ rfl HL0.out ⟨g, 0, none⟩ n cap (l.map (Value.int .i64)) rfl (by simp [HLL.out]) HN.out (fun u hu => by obtain ⟨z, -, rfl⟩ := List.mem_map.1 hu; rfl) (by unfold maxLen; omega) (by omega) (by simp) ?_; intro v' w1 hown' hgrow _; rw [Nat.zero_add] at hown'; have HOWN := Lib.hid hown'; have HB1 := Lib.hid (HBA.out.grown hgrow (by simp) (fun k hk => by have := (HL0.out.lt k hk).1; omega)); clear hown' hgrow)
    go_ret
    exact ⟨_, rfl, HOWN.out, HB1.out⟩
theorem hitN_yes {f : Nat → Bool} {k : Nat} (h : f k = true) : hitN f (k + 1) = hitN f k ++ [k] := by simp only [hitN, h, cond_true]
theorem hitN_no {f : Nat → Bool} {k : Nat} (h : f k = false) : hitN f (k + 1) = hitN f k := by simp only [hitN, h, cond_false]
theorem visit_enough {ch : Nat → List Nat} {r k : Nat} {U : Nat → Bool} {now : List Int} {c : Int} {s : Int × List Int} (h : c + r ≤ s.1) : visitC ch r k U now c s = s := by
  cases r with
  | zero => exact if_pos (by simpa using h)
  | succ r => exact if_pos h
set_option maxRecDepth 20000 in
set_option maxHeartbeats 8000000 in
theorem visit_calls {w0 : World} {base gx gu : Nat} {Af : Option Addr} {K cf m : Nat} {F : Nat → Nat → Bool} (g : Geo w0 base gx gu) (hK : K ≤ 8) (hm : m ≤ 8) : ∀ (r k : Nat), k + r = K → ∀ (w : World) (U : Nat → Bool) (now : List Int) (c : Int) (s : Int × List Int) (nowV bestV : Value) (ar : Array Value), VisP w0 base gx gu Af K cf m F w U c s nowV bestV ar → w.ownsRow base 2 1 nowV now.length (now.map (Value.int .i64)) → Apart nowV bestV → now.length = k → 0 ≤ c → c ≤ k → -1 ≤ s.1 → s.1 ≤ 8 →
    Calls Try.prog 37 #[.pointer (some ⟨gx, 0, none⟩), .int .i64 k] w fun e w' => e = .returned (.tuple #[]) ∧ ∃ nowV' bestV' ar', VisP w0 base gx gu Af K cf m F w' U c (visitC (fun k => hitN (F k) m) r k U now c s) nowV' bestV' ar' ∧ w'.ownsRow base 2 1 nowV' now.length (now.map (Value.int .i64)) ∧ Apart nowV' bestV' := by
  intro r
  induction r with
  | zero =>
    intro k hk w U now c s nowV bestV ar P ho ha hl hc0 hc1 hs0 hs1
    have hkk : K = k := by omega
    have e1 : IntKind.i64.wrap ((K : Int) - (k : Int)) = 0 := by rw [show (K : Int) - (k : Int) = 0 by omega]; rfl
    have e2 : IntKind.i64.wrap (c + 0) = c := by rw [Int.add_zero]; exact IntWalk.i64_in _ ⟨by omega, by omega⟩
    have e3 : IntKind.i64.wrap c = c := IntWalk.i64_in _ ⟨by omega, by omega⟩
    have HP := Lib.hid P
    have HO := Lib.hid ho
    have HA := Lib.hid ha
    have HKK := Lib.hid hkk
    have HLK := Lib.hid hl
    have hl8 : now.length ≤ 8 := by omega
    have hkz : ((k : Int) == (K : Int)) = true := by rw [hkk]; simp
    have HG := Lib.hid g
    have x0 : w.cell? ⟨gx, 0, none⟩ = some (.slice Af K cf) := (P.bx.cell 0).trans rfl
    have x1 : w.cell? ⟨gx, 1, none⟩ = some (.slice (some ⟨gu, 0, none⟩) m m) := (P.bx.cell 1).trans rfl
    have x2 : w.cell? ⟨gx, 2, none⟩ = some nowV := (P.bx.cell 2).trans rfl
    have x3 : w.cell? ⟨gx, 3, none⟩ = some (.int .i64 c) := (P.bx.cell 3).trans rfl
    have x4 : w.cell? ⟨gx, 4, none⟩ = some bestV := (P.bx.cell 4).trans rfl
    have x5 : w.cell? ⟨gx, 5, none⟩ = some (.int .i64 s.1) := (P.bx.cell 5).trans rfl
    have xf := P.bx.frozen
    clear P ho ha hkk hl
    cases q1 : decide (c ≤ s.1)
    · have hvc : visitC (fun k => hitN (F k) m) 0 k U now c s = (c, now) := if_neg (of_decide_eq_false q1)
      rw [hvc]
      clear hvc
      go_enter Try.func37, Try.ntmps37
      go_wp2_with fail
      go_quiet (fail)
      generalize hwd : w.drewN nq = wd
      have PD : VisP w0 base gx gu Af K cf m F wd U c s nowV bestV ar := by rw [← hwd]; exact HP.out.drewN _
      have OD : wd.ownsRow base 2 1 nowV now.length (now.map (Value.int .i64)) := by rw [← hwd]; exact HO.out
      clear hwd x0 x1 x2 x3 x4 x5 xf HP HO
      have x0 : wd.cell? ⟨gx, 0, none⟩ = some (.slice Af K cf) := (PD.bx.cell 0).trans rfl
      have x1 : wd.cell? ⟨gx, 1, none⟩ = some (.slice (some ⟨gu, 0, none⟩) m m) := (PD.bx.cell 1).trans rfl
      have x2 : wd.cell? ⟨gx, 2, none⟩ = some nowV := (PD.bx.cell 2).trans rfl
      have x3 : wd.cell? ⟨gx, 3, none⟩ = some (.int .i64 c) := (PD.bx.cell 3).trans rfl
      have x4 : wd.cell? ⟨gx, 4, none⟩ = some bestV := (PD.bx.cell 4).trans rfl
      have x5 : wd.cell? ⟨gx, 5, none⟩ = some (.int .i64 s.1) := (PD.bx.cell 5).trans rfl
      have xf := PD.bx.frozen
      have P2 := Lib.hid (show VisP w0 base gx gu Af K cf m F (wd.setCell ⟨gx, 5, none⟩ (.int .i64 c)) U c (c, s.2) nowV bestV ar from PD.setX HG.out 5 _ rfl PD.bs)
      have O2 := Lib.hid (own_storeV (p := ⟨gx, 5, none⟩) OD HG.out.x1 (.int .i64 c))
      clear PD OD
      go_wp2_with (go_at_call 38; refine (own_calls nowV base now.length now _ O2.out (by omega)).mono ?_; rintro e w5 ⟨v', rfl, hown', hb'⟩; obtain ⟨Av, cv, rfl⟩ := own_sliceV hown'; have P5 := P2.out.below hb'; have O5 := Lib.hid (own_keep O2.out hb'); have OB5 := Lib.hid (own_base hown' P2.out.hb); have A5 := Lib.hid (show Apart nowV (.slice Av now.length cv) from fun z hz e => by have q1 := (hown'.lt z hz).1; have q2 := (O2.out.lt z e).2; omega); clear x0 x1 x2 x3 x4 x5 xf hown' hb'; have x4 : w5.cell? ⟨gx, 4, none⟩ = some bestV := (P5.bx.cell 4).trans rfl; have xf := P5.bx.frozen; have P6 := Lib.hid (show VisP w0 base gx gu Af K cf m F (w5.setCell ⟨gx, 4, none⟩ (.slice Av now.length cv)) U c (c, now) nowV (.slice Av now.length cv) ar from P5.setX HG.out 4 _ rfl OB5.out); clear P5)
      refine bodyPost_ret (v := .tuple #[]) (by simp [results, Try.results37, go_sem]) rfl ?_
      exact ⟨rfl, nowV, _, ar, P6.out, own_storeV (p := ⟨gx, 4, none⟩) O5.out HG.out.x1 _, A5.out⟩
    · have hvc : visitC (fun k => hitN (F k) m) 0 k U now c s = s := if_pos (of_decide_eq_true q1)
      rw [hvc]
      clear hvc
      go_enter Try.func37, Try.ntmps37
      go_wp2_with fail
      go_quiet (fail)
      go_wp2
      refine bodyPost_ret (v := .tuple #[]) (by simp [results, Try.results37, go_sem]) rfl ?_
      exact ⟨rfl, nowV, bestV, ar, HP.out.drewN _, HO.out, HA.out⟩
  | succ r ih =>
    intro k hk w U now c s nowV bestV ar P ho ha hl hc0 hc1 hs0 hs1
    obtain ⟨gf, rfl, -⟩ := P.fi k (by omega)
    have ih1 := ih (k + 1) (by omega)
    rw [show ((k + 1 : Nat) : Int) = (k : Int) + 1 by omega] at ih1
    have IH := Lib.hid ih1
    clear ih1
    have hkk : ¬ k = K := by omega
    have hkz : ((k : Int) == (K : Int)) = false := beq_eq_false_iff_ne.2 (by omega)
    have e1 : IntKind.i64.wrap ((K : Int) - (k : Int)) = (r : Int) + 1 := by rw [show (K : Int) - (k : Int) = (r : Int) + 1 by omega]; exact IntWalk.i64_in _ ⟨by omega, by omega⟩
    have e2 : IntKind.i64.wrap (c + ((r : Int) + 1)) = c + ((r : Int) + 1) := IntWalk.i64_in _ ⟨by omega, by omega⟩
    have e3 : IntKind.i64.wrap (c + 1) = c + 1 := IntWalk.i64_in _ ⟨by omega, by omega⟩
    have e4 : IntKind.i64.wrap (c + 1 - 1) = c := by rw [show c + 1 - 1 = c by omega]; exact IntWalk.i64_in _ ⟨by omega, by omega⟩
    have hkK : k < K := by omega
    have hkr : c + (r + 1 : Nat) ≤ 8 := by omega
    have HP := Lib.hid P
    have HO := Lib.hid ho
    have HA := Lib.hid ha
    have HG := Lib.hid g
    have HLK := Lib.hid hl
    have hl8 : now.length ≤ 7 := by omega
    obtain ⟨i0, hi, hz0, hz1, hz2⟩ := info_parts Int64_info
    have x0 : w.cell? ⟨gx, 0, none⟩ = some (.slice (some ⟨gf, 0, none⟩) K cf) := (P.bx.cell 0).trans rfl
    have x1 : w.cell? ⟨gx, 1, none⟩ = some (.slice (some ⟨gu, 0, none⟩) m m) := (P.bx.cell 1).trans rfl
    have x2 : w.cell? ⟨gx, 2, none⟩ = some nowV := (P.bx.cell 2).trans rfl
    have x3 : w.cell? ⟨gx, 3, none⟩ = some (.int .i64 c) := (P.bx.cell 3).trans rfl
    have x4 : w.cell? ⟨gx, 4, none⟩ = some bestV := (P.bx.cell 4).trans rfl
    have x5 : w.cell? ⟨gx, 5, none⟩ = some (.int .i64 s.1) := (P.bx.cell 5).trans rfl
    have xf := P.bx.frozen
    clear P ho ha hl ih hk
    cases q1 : decide (c + ((r : Int) + 1) ≤ s.1)
    · have hvc : visitC (fun k => hitN (F k) m) (r + 1) k U now c s = visitC (fun k => hitN (F k) m) r (k + 1) U (now ++ [-1]) c ((hitN (F k) m).foldl (fun s i => if U i = true then s else visitC (fun k => hitN (F k) m) r (k + 1) (upd U i) (now ++ [(i : Int)]) (c + 1) s) s) := if_neg (by have := of_decide_eq_false q1; omega)
      rw [hvc]
      clear hvc
      obtain ⟨stp, hstp⟩ : ∃ stp, stp = fun (s : Int × List Int) (i : Nat) => if U i = true then s else visitC (fun k => hitN (F k) m) r (k + 1) (upd U i) (now ++ [(i : Int)]) (c + 1) s := ⟨_, rfl⟩
      rw [← hstp]
      have HST := Lib.hid hstp
      have hstb : ∀ s i, -1 ≤ s.1 → s.1 ≤ 8 → -1 ≤ (stp s i).1 ∧ (stp s i).1 ≤ 8 := fun s i h1 h2 => by
        rw [hstp]
        show -1 ≤ (if U i = true then s else visitC (fun k => hitN (F k) m) r (k + 1) (upd U i) (now ++ [(i : Int)]) (c + 1) s).1 ∧ (if U i = true then s else visitC (fun k => hitN (F k) m) r (k + 1) (upd U i) (now ++ [(i : Int)]) (c + 1) s).1 ≤ 8
        split
        · exact ⟨h1, h2⟩
        · exact visitC_bd _ h1 h2 (by omega) (by omega)
      have HSB := Lib.hid hstb
      clear hstp hstb
      go_enter Try.func37, Try.ntmps37
      go_wp2_with fail
      go_quiet (fail)
      generalize hwd : w.drewN nq = wd
      have PD := Lib.hid (show VisP w0 base gx gu (some ⟨gf, 0, none⟩) K cf m F wd U c s nowV bestV ar by rw [← hwd]; exact HP.out.drewN _)
      have OD : Hid (wd.ownsRow base 2 1 nowV now.length (now.map (Value.int .i64))) := Lib.hid (by rw [← hwd]; exact HO.out)
      clear hwd x0 x1 x2 x3 x4 x5 xf HP HO
      have y0 : wd.cell? ⟨gx, 0, none⟩ = some (.slice (some ⟨gf, 0, none⟩) K cf) := (PD.out.bx.cell 0).trans rfl
      go_wp2_with fail
      go_loopw [4] (fun vi wr => ∃ (q : Nat) (sq : Int × List Int) (nq bq : Value) (aq : Array Value), q ≤ m ∧ vi = .int .i64 q ∧ Hid (VisP w0 base gx gu (some ⟨gf, 0, none⟩) K cf m F wr U c sq nq bq aq) ∧ Hid (wr.ownsRow base 2 1 nq now.length (now.map (Value.int .i64))) ∧ Hid (Apart nq bq) ∧ Hid (sq = (hitN (F k) q).foldl stp s) ∧ -1 ≤ sq.1 ∧ sq.1 ≤ 8) (fun vi _ => m - (intOf vi).toNat)
      case atStart => exact ⟨0, s, nowV, bestV, ar, by omega, rfl, PD, OD, HA, rfl, hs0, hs1⟩
      case round =>
        clear y0 PD OD HA
        obtain ⟨wi, hwi⟩ : ∃ wi, wi = wr := ⟨_, rfl⟩
        subst hwi
        obtain ⟨q, sq, nv, bq, aq, hq, rfl, P, O, AP, hsq, b0, b1⟩ := hrel
        have PP := P.out
        obtain ⟨An, cn, rfl⟩ := own_sliceV O.out
        have n1 : ¬ gx = gu := HG.out.xu
        have n2 : ¬ gu = gx := fun e => HG.out.xu e.symm
        have x0 : wi.cell? ⟨gx, 0, none⟩ = some (.slice (some ⟨gf, 0, none⟩) K cf) := (PP.bx.cell 0).trans rfl
        have x1 : wi.cell? ⟨gx, 1, none⟩ = some (.slice (some ⟨gu, 0, none⟩) m m) := (PP.bx.cell 1).trans rfl
        have x2 : wi.cell? ⟨gx, 2, none⟩ = some (.slice An now.length cn) := (PP.bx.cell 2).trans rfl
        have x3 : wi.cell? ⟨gx, 3, none⟩ = some (.int .i64 c) := (PP.bx.cell 3).trans rfl
        have x4 : wi.cell? ⟨gx, 4, none⟩ = some bq := (PP.bx.cell 4).trans rfl
        have x5 : wi.cell? ⟨gx, 5, none⟩ = some (.int .i64 sq.1) := (PP.bx.cell 5).trans rfl
        have xf := PP.bx.frozen
        by_cases hqm : q < m
        · obtain ⟨gf2, hAf, -, Ar, cA, cf1, hcells⟩ := PP.fi k hkK
          obtain rfl : gf = gf2 := by simpa using hAf
          clear hAf
          obtain ⟨gr, rfl, -, hfc⟩ := hcells (by omega)
          have cf2 := hfc q hqm
          have cu : wi.cell? ⟨gu, q, none⟩ = some (.bool (U q)) := (PP.bu.cell q).trans (PP.us q hqm)
          have uf := PP.bu.frozen
          have hwb := PP.hb
          clear PP hfc hcells
          cases f1 : F k q
          · rw [f1] at cf2
            have HF := Lib.hid (show (hitN (F k) (q + 1)).foldl stp s = sq by rw [hitN_no f1]; exact hsq.out.symm)
            go_wp2
            go_roundw
            case rel => exact ⟨q + 1, sq, _, bq, aq, by omega, by go_num, P, O, AP, Lib.hid HF.out.symm, b0, b1⟩
            case measure => simp [intOf]; omega
          · rw [f1] at cf2
            have hf0 : (hitN (F k) (q + 1)).foldl stp s = stp sq q := by rw [hitN_yes f1, List.foldl_append, ← hsq.out]; rfl
            cases u1 : U q
            · rw [u1] at cu
              have hs2 : stp sq q = visitC (fun k => hitN (F k) m) r (k + 1) (upd U q) (now ++ [(q : Int)]) (c + 1) sq := by
                rw [HST.out]
                exact if_neg (by rw [u1]; simp)
              have hsb := HSB.out sq q b0 b1
              rw [hs2] at hf0 hsb
              have HF := Lib.hid hf0
              generalize hsq' : visitC (fun k => hitN (F k) m) r (k + 1) (upd U q) (now ++ [(q : Int)]) (c + 1) sq = sq' at HF hsb
              have HSQ := Lib.hid hsq'
              have P1 := Lib.hid (P.out.setU HG.out hqm true (U' := upd U q) (fun j _ => by
                unfold upd
                by_cases e : j = q
                · rw [if_pos e, e]; simp
                · rw [if_neg e, show (j == q) = false from beq_eq_false_iff_ne.2 e, Bool.or_false]))
              have O1 := Lib.hid (own_storeV (p := ⟨gu, q, none⟩) O.out HG.out.u1 (.bool true))
              clear hs2 hf0 hsq'
              go_wp2_with (at_builtin; refine wpList_append_lies _ rfl _ _ 26 rfl base 2 i0 (.int .i64 0) 1 8 Try.underlying26 hi hz0 hz1 hz2 rfl (by decide) _ _ _ rfl (O1.out.alloc _) ⟨wi.heap.size, 0, none⟩ 1 1 [.int .i64 (q : Int)] rfl rfl (fun j u hj => by have q1 := cell_one_new (wi.setCell ⟨gu, q, none⟩ (.bool true)) (.int .i64 (q : Int)) 2 j u hj; rw [show (wi.setCell ⟨gu, q, none⟩ (.bool true)).heap.size = wi.heap.size by simp] at q1; exact q1) (fun u hu => by simp at hu; subst hu; rfl) (by omega) (by unfold maxLen; omega) (by omega) (by simp; omega) _ rfl ?_; intro g9 cap9 w9 hown' hgrow hat hlt9; refine Hid.out ?_)
              refine Lib.hid ?_
              have hg9 : ((wi.setCell ⟨gu, q, none⟩ (.bool true)).alloc (.cells #[.int .i64 (q : Int)] 2)).grownBy w9 (Value.slice An now.length cn).ownBlock := hgrow
              have ha9 : (Value.slice An now.length cn).ownBlock = some g9 ∨ g9 = ((wi.setCell ⟨gu, q, none⟩ (.bool true)).alloc (.cells #[.int .i64 (q : Int)] 2)).heap.size := hat
              have P2 := P1.out.grown HG.out hg9 (fun z hz => (O1.out.lt z hz).1) (fun z hz => AP.out z hz)
              have a9 : Apart (.slice (some ⟨g9, 0, none⟩) (now.length + 1) cap9) bq := fun z hz e => by
                have hz2 : g9 = z := Option.some.inj e
                rcases ha9 with w1 | w1
                · exact AP.out z hz (by rw [← hz2]; exact w1)
                · have w2 := (P1.out.bs.lt z hz).2
                  simp at w1 w2
                  omega
              have A9 := Lib.hid a9
              have P3 := Lib.hid (show VisP w0 base gx gu (some ⟨gf, 0, none⟩) K cf m F ((w9.setCell ⟨gx, 2, none⟩ (.slice (some ⟨g9, 0, none⟩) (now.length + 1) cap9)).setCell ⟨gx, 3, none⟩ (.int .i64 (c + 1))) (upd U q) (c + 1) sq (.slice (some ⟨g9, 0, none⟩) (now.length + 1) cap9) bq (aq.setIfInBounds q (.bool true)) from (P2.setN HG.out (.slice (some ⟨g9, 0, none⟩) (now.length + 1) cap9)).setC HG.out (c + 1))
              have O3 := Lib.hid (show World.ownsRow ((w9.setCell ⟨gx, 2, none⟩ (.slice (some ⟨g9, 0, none⟩) (now.length + 1) cap9)).setCell ⟨gx, 3, none⟩ (.int .i64 (c + 1))) base 2 1 (.slice (some ⟨g9, 0, none⟩) (now.length + 1) cap9) (now ++ [(q : Int)]).length ((now ++ [(q : Int)]).map (Value.int .i64)) from by rw [List.length_append, List.map_append]; exact own_storeV (p := ⟨gx, 3, none⟩) (own_storeV (p := ⟨gx, 2, none⟩) hown' HG.out.x1 _) HG.out.x1 _)
              clear x0 x1 x2 x3 x4 x5 xf hown' hgrow hat hg9 ha9 cf1 cf2 cu a9
              have x2 : w9.cell? ⟨gx, 2, none⟩ = some (.slice An now.length cn) := (P2.bx.cell 2).trans rfl
              have x3 : w9.cell? ⟨gx, 3, none⟩ = some (.int .i64 c) := (P2.bx.cell 3).trans rfl
              have xf := P2.bx.frozen
              clear P2
              go_wp2_with fail
              go_at_call 37
              refine (IH.out _ (upd U q) (now ++ [(q : Int)]) (c + 1) sq _ bq _ P3.out O3.out A9.out (by have := HLK.out; simp; omega) (by omega) (by omega) b0 b1).mono ?_
              rintro e w4 ⟨rfl, nv4, bv4, ar4, P4, own4, ap4⟩
              rw [HSQ.out] at P4
              rw [List.length_append, List.map_append] at own4
              have o4 : w4.ownsRow base 2 1 nv4 (now.length + 1) (now.map (Value.int .i64) ++ [.int .i64 (q : Int)]) := own4
              obtain ⟨g4, cap4, cur4, rfl, hg4, -, hcap4, hcap5, -⟩ := own_blk o4 (by omega)
              have T4 := Lib.hid (own_trunc o4)
              have A4 := Lib.hid (show Apart (.slice (some ⟨g4, 0, none⟩) now.length cap4) bv4 from fun z hz e => ap4 z hz e)
              have PH4 := Lib.hid P4
              clear x2 x3 xf own4 o4 ap4
              have x3 : w4.cell? ⟨gx, 3, none⟩ = some (.int .i64 (c + 1)) := (P4.bx.cell 3).trans rfl
              have xf := P4.bx.frozen
              clear P4
              go_wp2_with fail
              refine wp_gen (fun W hW => ?_)
              have PW := Lib.hid (show VisP w0 base gx gu (some ⟨gf, 0, none⟩) K cf m F W (upd U q) c sq' (.slice (some ⟨g4, 0, none⟩) (now.length + 1) cap4) bv4 ar4 by rw [hW]; exact PH4.out.setC HG.out c)
              have TW : Hid (W.ownsRow base 2 1 (.slice (some ⟨g4, 0, none⟩) now.length cap4) now.length (now.map (Value.int .i64))) := Lib.hid (by rw [hW]; exact own_storeV (p := ⟨gx, 3, none⟩) T4.out HG.out.x1 _)
              clear hW x3 xf PH4 T4
              have x1 : W.cell? ⟨gx, 1, none⟩ = some (.slice (some ⟨gu, 0, none⟩) m m) := (PW.out.bx.cell 1).trans rfl
              have x2 : W.cell? ⟨gx, 2, none⟩ = some (.slice (some ⟨g4, 0, none⟩) (now.length + 1) cap4) := (PW.out.bx.cell 2).trans rfl
              have xf : W.frozen? ⟨gx, 2, none⟩ = false := PW.out.bx.frozen 2
              have uf : W.frozen? ⟨gu, q, none⟩ = false := PW.out.bu.frozen q
              have cu : W.cell? ⟨gu, q, none⟩ = some (.bool (upd U q q)) := (PW.out.bu.cell q).trans (PW.out.us q hqm)
              have hcz : (now.length : Int) ≤ (cap4 : Int) := by omega
              unfold maxLen at hcap5
              have PF := Lib.hid (((PW.out.setN HG.out (.slice (some ⟨g4, 0, none⟩) now.length cap4)).drewN 1).setU HG.out hqm false (U' := U) (fun j _ => by
                unfold upd
                by_cases e : j = q
                · rw [if_pos e, e, u1]
                · rw [if_neg e, show (j == q) = false from beq_eq_false_iff_ne.2 e, Bool.or_false]))
              have OF := Lib.hid (own_storeV (p := ⟨gu, q, none⟩) (own_drew (own_storeV (p := ⟨gx, 2, none⟩) TW.out HG.out.x1 (.slice (some ⟨g4, 0, none⟩) now.length cap4))) HG.out.u1 (.bool false))
              go_region
              go_wp2
              go_roundw
              case rel => exact ⟨q + 1, sq', _, bv4, _, by omega, by go_num, PF, OF, A4, Lib.hid HF.out.symm, hsb.1, hsb.2⟩
              case measure => simp [intOf]; omega
            · rw [u1] at cu
              have HF := Lib.hid (show (hitN (F k) (q + 1)).foldl stp s = sq by rw [hf0, HST.out]; exact if_pos u1)
              clear hf0
              go_wp2
              go_roundw
              case rel => exact ⟨q + 1, sq, _, bq, aq, by omega, by go_num, P, O, AP, Lib.hid HF.out.symm, b0, b1⟩
              case measure => simp [intOf]; omega
        · obtain rfl : m = q := by omega
          have hwb := PP.hb
          have HSQ := Lib.hid hsq.out
          clear PP
          go_wp2_with (at_builtin; refine wpList_append_lies _ rfl _ _ 26 rfl base 2 i0 (.int .i64 0) 1 8 Try.underlying26 hi hz0 hz1 hz2 rfl (by decide) _ _ _ rfl (O.out.alloc _) ⟨wi.heap.size, 0, none⟩ 1 1 [.int .i64 (-1)] rfl rfl (cell_one_new _ _ _) (fun u hu => by simp at hu; subst hu; rfl) (by omega) (by unfold maxLen; omega) (by omega) (by simp; omega) _ rfl ?_; intro g9 cap9 w9 hown' hgrow hat hlt9; refine Hid.out ?_)
          refine Lib.hid ?_
          have hg9 : (wi.alloc (.cells #[.int .i64 (-1)] 2)).grownBy w9 (Value.slice An now.length cn).ownBlock := hgrow
          have ha9 : (Value.slice An now.length cn).ownBlock = some g9 ∨ g9 = (wi.alloc (.cells #[.int .i64 (-1)] 2)).heap.size := hat
          have P2 := P.out.grown HG.out hg9 (fun z hz => (O.out.lt z hz).1) (fun z hz => AP.out z hz)
          have a9 : Apart (.slice (some ⟨g9, 0, none⟩) (now.length + 1) cap9) bq := fun z hz e => by
            have hz2 : g9 = z := Option.some.inj e
            rcases ha9 with w1 | w1
            · exact AP.out z hz (by rw [← hz2]; exact w1)
            · have w2 := (P.out.bs.lt z hz).2
              simp at w1 w2
              omega
          have A9 := Lib.hid a9
          have P3 := Lib.hid (P2.setN HG.out (.slice (some ⟨g9, 0, none⟩) (now.length + 1) cap9))
          have O3 := Lib.hid (show World.ownsRow (w9.setCell ⟨gx, 2, none⟩ (.slice (some ⟨g9, 0, none⟩) (now.length + 1) cap9)) base 2 1 (.slice (some ⟨g9, 0, none⟩) (now.length + 1) cap9) (now ++ [(-1 : Int)]).length ((now ++ [(-1 : Int)]).map (Value.int .i64)) from by rw [List.length_append, List.map_append]; exact own_storeV (p := ⟨gx, 2, none⟩) hown' HG.out.x1 _)
          clear x0 x1 x2 x3 x4 x5 xf hown' hgrow hat hg9 ha9 a9
          have x2 : w9.cell? ⟨gx, 2, none⟩ = some (.slice An now.length cn) := (P2.bx.cell 2).trans rfl
          have xf := P2.bx.frozen
          clear P2
          go_wp2_with fail
          go_at_call 37
          refine (IH.out _ U (now ++ [(-1 : Int)]) c sq _ bq _ P3.out O3.out A9.out (by have := HLK.out; simp; omega) (by omega) (by omega) b0 b1).mono ?_
          rintro e w4 ⟨rfl, nv4, bv4, ar4, P4, own4, ap4⟩
          rw [HSQ.out] at P4
          rw [List.length_append, List.map_append] at own4
          have o4 : w4.ownsRow base 2 1 nv4 (now.length + 1) (now.map (Value.int .i64) ++ [.int .i64 (-1)]) := own4
          obtain ⟨g4, cap4, cur4, rfl, hg4, -, hcap4, hcap5, -⟩ := own_blk o4 (by omega)
          have T4 := Lib.hid (own_trunc o4)
          have A4 := Lib.hid (show Apart (.slice (some ⟨g4, 0, none⟩) now.length cap4) bv4 from fun z hz e => ap4 z hz e)
          have PW := Lib.hid P4
          clear x2 xf own4 o4 ap4 P4
          go_wp2_with fail
          have x2 : w4.cell? ⟨gx, 2, none⟩ = some (.slice (some ⟨g4, 0, none⟩) (now.length + 1) cap4) := (PW.out.bx.cell 2).trans rfl
          have xf : w4.frozen? ⟨gx, 2, none⟩ = false := PW.out.bx.frozen 2
          have hcz : (now.length : Int) ≤ (cap4 : Int) := by omega
          unfold maxLen at hcap5
          have PF := Lib.hid ((PW.out.setN HG.out (.slice (some ⟨g4, 0, none⟩) now.length cap4)).drewN 1)
          have OF := Lib.hid (own_drew (own_storeV (p := ⟨gx, 2, none⟩) T4.out HG.out.x1 (.slice (some ⟨g4, 0, none⟩) now.length cap4)))
          go_region
          go_wp2
          go_end0
          exact ⟨rfl, _, bv4, ar4, PF.out, OF.out, A4.out⟩
    · have hvc : visitC (fun k => hitN (F k) m) (r + 1) k U now c s = s := if_pos (by have := of_decide_eq_true q1; omega)
      rw [hvc]
      clear hvc
      go_enter Try.func37, Try.ntmps37
      go_wp2_with fail
      go_quiet (fail)
      go_wp2
      refine bodyPost_ret (v := .tuple #[]) (by simp [results, Try.results37, go_sem]) rfl ?_
      exact ⟨rfl, nowV, bestV, ar, HP.out.drewN _, HO.out, HA.out⟩
end Go.Proofs.Ytonoeohmpaegdaa
