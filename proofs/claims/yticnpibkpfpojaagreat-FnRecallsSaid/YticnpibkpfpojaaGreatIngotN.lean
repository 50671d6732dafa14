/- Ingots found by their ids; the choice of a melt's ingots, in the program and in the reference. -/
import Derived.Test.YticnpibkpfpojaaGreatIngot
import Derived.Test.YticnpibkpfpojaaGreatLeft2
import Derived.Test.YticnpibkpfpojaaGreatMarkT
namespace Go.Proofs.YticnpibkpfpojaaGreat
set_option linter.unusedVariables false
open Go.RowKit


set_option maxHeartbeats 1000000 in
theorem ingotAt1_calls (s0 : ByteArray) (a1 a2 a3 a4 : Int) (x : ByteArray) (w : World) :
    Calls Tryz.prog 105 #[.agg #[.string s0, .int .i64 a1, .int .i64 a2, .int .i64 a3, .int .i64 a4], .string x] w fun e w' => e = .returned (.int .i64 (cmpS s0 x)) ∧ Below w.heap.size w w' := by
  have hal := (Below.refl w.heap.size w).alloc (Nat.le_refl _) (.cells #[.string s0, .int .i64 a1, .int .i64 a2, .int .i64 a3, .int .i64 a4] 48)
  have HAL := Lib.hid hal
  clear hal
  go_enter Tryz.func105, Tryz.ntmps105
  go_wp2_with (go_at_call 72; refine (compareS_calls _ _ _).mono ?_; rintro e w1 ⟨rfl, rfl⟩)
  go_ret
  exact ⟨rfl, HAL.out⟩
set_option maxRecDepth 20000 in
set_option maxHeartbeats 4000000 in
theorem ingotSearch (A : Option Addr) (n c : Nat) (s0 : Nat → ByteArray) (a1 a2 a3 a4 : Nat → Int) (x : ByteArray) (w : World) (h : IngotRow w A n s0 a1 a2 a3 a4) (hn : n ≤ 1048576) (hp : ∀ k W , k < n → Below w.heap.size w W → Calls Tryz.prog 105 #[.agg #[.string (s0 k), .int .i64 (a1 k), .int .i64 (a2 k), .int .i64 (a3 k), .int .i64 (a4 k)], .string x] W fun e w' => e = .returned (.int .i64 (cmpS (s0 k) x)) ∧ Below W.heap.size W w') :
    Calls Tryz.prog 104 #[.slice A n c, .string x, .func (.func 105) #[] #[]] w fun e w' => (∃ k : Nat, e = .returned (.tuple #[.int .i64 k, .bool (decide (k < n) && eqS (s0 k) x)]) ∧ k ≤ n ∧ Half s0 n x k k) ∧ Below w.heap.size w w' := by
  have H := Lib.hid h
  have HP := Lib.hid hp
  clear h hp
  go_enter Tryz.func104, Tryz.ntmps104
  go_wp2
  go_loopw [9, 10] (fun a b wr => ∃ i j : Nat, i ≤ j ∧ j ≤ n ∧ a = .int .i64 i ∧ b = .int .i64 j ∧ Hid (Half s0 n x i j) ∧ Below w.heap.size w wr) (fun a b _ => (intOf b - intOf a).toNat)
  case atStart => exact ⟨0, n, by omega, by omega, rfl, rfl, Lib.hid (Half.start _ _ _), Below.refl _ _⟩
  case round =>
    obtain ⟨i, j, hij, hjn, rfl, rfl, hh, hbr⟩ := hrel
    by_cases hlt : i < j
    · obtain ⟨k, hk⟩ : ∃ k, k = (i + j) / 2 := ⟨_, rfl⟩
      have hki : i ≤ k := by omega
      have hkj : k < j := by omega
      have hkn : k < n := by omega
      have u1 : IntKind.u64.wrap ((i : Int) + j) = (i : Int) + j := by
        unfold IntKind.wrap; simp [IntKind.bits, IntKind.signed]; omega
      have u2 : ((i : Int) + j) / 2 = (k : Int) := by omega
      have u3 : ((i : Int) + j) >>> 1 = (k : Int) := by rw [Int.shiftRight_eq_div_pow]; omega
      have u4 : IntKind.i64.wrap (k : Int) = (k : Int) := IntWalk.i64_in _ ⟨by omega, by omega⟩
      have u5 : IntKind.u64.wrap (k : Int) = (k : Int) := by
        unfold IntKind.wrap; simp [IntKind.bits, IntKind.signed]; omega
      clear hk
      obtain ⟨b, o, rfl, hrow⟩ := H.out (by omega)
      obtain ⟨c0, c1, c2, c3, c4⟩ := (hrow k hkn).below hbr (Nat.le_refl _)
      have HR := Lib.hid hrow
      clear hrow
      have HC := Lib.hid (HP.out k wr  hkn hbr)
      have hcn := cmpS_neg (s0 k) x
      generalize hcv : cmpS (s0 k) x = cv at HC hcn
      cases q1 : ltS (s0 k) x
      · rw [q1] at hcn
        have hcn2 : ¬ cv < 0 := by simpa using hcn
        go_wp2_with (go_at_call 105; with_reducible refine HC.out.mono ?_; rintro e w1 ⟨rfl, hb⟩; have hbr2 := hbr.trans (hb.mono hbr.size); clear hb)
        go_roundw
        case rel => exact ⟨i, k, by omega, by omega, rfl, rfl, Lib.hid (hh.out.down q1), hbr2⟩
        case measure => simp [intOf]; omega
      · rw [q1] at hcn
        have hcn2 : cv < 0 := by simpa using hcn
        go_wp2_with (go_at_call 105; with_reducible refine HC.out.mono ?_; rintro e w1 ⟨rfl, hb⟩; have hbr2 := hbr.trans (hb.mono hbr.size); clear hb)
        go_roundw
        case rel => exact ⟨k + 1, j, by omega, by omega, by go_num, rfl, Lib.hid (hh.out.up hki hkn q1), hbr2⟩
        case measure => simp [intOf]; omega
    · obtain rfl : i = j := by omega
      by_cases hin : i < n
      · obtain ⟨b, o, rfl, hrow⟩ := H.out (by omega)
        have k := i
        obtain ⟨c0, c1, c2, c3, c4⟩ := (hrow i hin).below hbr (Nat.le_refl _)
        have HR := Lib.hid hrow
        clear hrow
        have HC := Lib.hid (HP.out i wr  hin hbr)
        have hcz := cmpS_zero (s0 i) x
        generalize hcv : cmpS (s0 i) x = cv at HC hcz
        have hd : decide (i < n) = true := decide_eq_true hin
        go_wp2_with (go_at_call 105; with_reducible refine HC.out.mono ?_; rintro e w1 ⟨rfl, hb⟩; have hbr2 := hbr.trans (hb.mono hbr.size); clear hb)
        refine bodyPost_ret (v := .tuple #[.int .i64 i, .bool (eqS (s0 i) x)]) (by simp [results, Tryz.results104, go_sem]) rfl ?_
        exact ⟨⟨i, by rw [hd, Bool.true_and], by omega, hh.out⟩, hbr2⟩
      · have hd : decide (i < n) = false := decide_eq_false hin
        have hd2 : decide ((i : Int) < n) = false := decide_eq_false (by omega)
        go_wp2
        refine bodyPost_ret (v := .tuple #[.int .i64 i, .bool false]) (by simp [results, Tryz.results104, go_sem]) rfl ?_
        exact ⟨⟨i, by simp [hd], by omega, hh.out⟩, hbr⟩
set_option maxHeartbeats 1000000 in
theorem ingotAt_calls (A : Option Addr) (n c : Nat) (s0 : Nat → ByteArray) (a1 a2 a3 a4 : Nat → Int) (x : ByteArray) (w : World) (h : IngotRow w A n s0 a1 a2 a3 a4) (hn : n ≤ 1048576) (hs : Srt s0 n) :
    Calls Tryz.prog 73 #[.slice A n c, .string x] w fun e w' => (∃ k : Nat, e = .returned (.tuple #[.int .i64 k, .bool (hasId s0 n x)]) ∧ (hasId s0 n x = true → k = mIx s0 n x)) ∧ Below w.heap.size w w' := by
  have HQ := Lib.hid (ingotSearch A n c s0 a1 a2 a3 a4 x w h hn (fun k W _ _ => ingotAt1_calls _ _ _ _ _ _ _))
  have HS := Lib.hid hs
  clear h hs
  go_enter Tryz.func73, Tryz.ntmps73
  go_wp2_with (go_at_call 104; with_reducible refine HQ.out.mono ?_; rintro e w1 ⟨⟨k, rfl, hk, hh⟩, hb⟩; have HH := Lib.hid hh; clear hh)
  refine bodyPost_ret (v := .tuple #[.int .i64 k, .bool (decide (k < n) && eqS (s0 k) x)]) (by simp [results, Tryz.results73, go_sem]) rfl ?_
  have hf := HH.out.found HS.out
  refine ⟨⟨k, by rw [hf], fun h1 => ?_⟩, hb⟩
  rw [← hf] at h1
  simp only [Bool.and_eq_true, decide_eq_true_eq] at h1
  obtain ⟨i1, i2, i3⟩ := mIx_of (show hasId s0 n x = true by rw [← hf]; simp [h1])
  exact srt_uniq HS.out h1.1 i1 h1.2 i3
/-- all texts are ids of ingots -/
def allHave (s0 : Nat → ByteArray) (n : Nat) (ss : Nat → ByteArray) (q : Nat) : Bool := allB (fun t => hasId s0 n (ss t)) q
def chV (s0 : Nat → ByteArray) (n : Nat) (ss : Nat → ByteArray) : Nat → Int := fun t => (mIx s0 n (ss t) : Int)
def ChoiceOut (s0 : Nat → ByteArray) (n : Nat) (ss : Nat → ByteArray) (q : Nat) (w : World) (e : Ending) (w' : World) : Prop :=
  ∃ v, e = .returned (.tuple #[v, .bool (allHave s0 n ss q)]) ∧ (allHave s0 n ss q = true → ∃ A c, v = .slice A q c ∧ IntRow w' A q (chV s0 n ss)) ∧ Below w.heap.size w w'
set_option maxHeartbeats 4000000 in
theorem choiceOf_calls (A : Option Addr) (n c : Nat) (s0 : Nat → ByteArray) (a1 a2 a3 a4 : Nat → Int) (s : ByteArray) (AK : Option Addr) (q CK : Nat) (ss : Nat → ByteArray) (ma : Int) (w : World) (h : IngotRow w A n s0 a1 a2 a3 a4) (hn : n ≤ 1048576) (hs : Srt s0 n) (h2 : StrRow w AK q ss) (hq : q ≤ 1048576) :
    Calls Tryz.prog 50 #[.slice A n c, .agg #[.string s, .slice AK q CK, .int .i64 ma]] w fun e w' => ChoiceOut s0 n ss q w e w' := by
  obtain ⟨i0, hi, hz0, hz1, hz2⟩ := info_parts Int64_info
  have hal := (Below.refl w.heap.size w).alloc (Nat.le_refl _) (.cells #[.string s, .slice AK q CK, .int .i64 ma] 66)
  have HAL := Lib.hid hal
  have H := Lib.hid h
  have H2 := Lib.hid h2
  have HS := Lib.hid hs
  have HV := Lib.hid (fun (W : World) (hb : Below w.heap.size w W) (x : ByteArray) => ingotAt_calls A n c s0 a1 a2 a3 a4 x W (h.below hb (Nat.le_refl _)) hn hs)
  clear hal h h2 hs
  go_enter Tryz.func50, Tryz.ntmps50
  go_wp2
  go_loopw [6, 14] (fun v i wr => ∃ k : Nat, k ≤ q ∧ i = .int .i64 k ∧ Hid (wr.ownsRow w.heap.size 2 1 v k (intsL (chV s0 n ss) k)) ∧ Hid (allHave s0 n ss k = true) ∧ Below w.heap.size w wr) (fun _ i _ => q - (intOf i).toNat)
  case atStart => exact ⟨0, by omega, rfl, Lib.hid (World.ownsRow_nil _ _ _ _), Lib.hid rfl, HAL.out⟩
  case round =>
    obtain ⟨k, hk, rfl, hown, hall, hbr⟩ := hrel
    by_cases hlt : k < q
    · obtain ⟨b, o, rfl, hrow⟩ := H2.out (by omega)
      obtain ⟨x, hx⟩ : ∃ x, x = ss k := ⟨_, rfl⟩
      have c0 := cell_keep hbr (hrow k hlt)
      rw [← hx] at c0
      have HX := Lib.hid hx
      have HR := Lib.hid hrow
      have HC := Lib.hid (HV.out wr hbr x)
      clear hrow hx
      cases q1 : hasId s0 n x
      · have HF := Lib.hid (show allHave s0 n ss q = false from allB_no hlt (by rw [← HX.out]; exact q1))
        rw [q1] at HC
        go_wp2_with (go_at_call 73; with_reducible refine HC.out.mono ?_; rintro e w1 ⟨⟨k2, rfl, hk2⟩, hb⟩; have hbr2 := hbr.trans (hb.mono hbr.size); clear hb hk2)
        refine bodyPost_ret (v := .tuple #[.slice none 0 0, .bool false]) (by simp [results, Tryz.results50, go_sem]) rfl ?_
        exact ⟨_, by rw [HF.out], (fun h => by rw [HF.out] at h; cases h), hbr2⟩
      · rw [q1] at HC
        go_wp2_with fail
        go_at_call 73
        with_reducible refine HC.out.mono ?_
        rintro e w1 ⟨⟨k2, rfl, hk2⟩, hb⟩
        have hbr2 := hbr.trans (hb.mono hbr.size)
        have hown2 := Lib.hid (own_keep hown.out hb)
        have hv := hk2 (by trivial)
        have hlt2 : k2 < n := by rw [hv]; exact (mIx_of q1).1
        have HK := Lib.hid (show (k2 : Int) = chV s0 n ss k by unfold chV; rw [← HX.out, hv])
        clear hown hbr hb hk2 hv HC
        go_wp2_with (at_builtin; refine wpList_append_own _ rfl _ _ 79 rfl w.heap.size 2 i0 (.int .i64 0) 1 8 Tryz.underlying79 hi hz0 hz1 hz2 rfl (by decide) _ _ _ rfl (hown2.out.alloc _) ⟨w1.heap.size, 0, none⟩ 1 1 [.int .i64 k2] rfl rfl (fun j u hj => by match j, hj with | 0, hj => simp at hj; subst hj; simp [Addr.add]) (fun u hu => by simp at hu; subst hu; rfl) (by unfold maxLen; omega) (by omega) (by have := hbr2.size; simp; omega) ?_; intro v' w2 hown' hgrow _; have hb2 := below_append hbr2 hbr2.size hown2.out hgrow; rw [HK.out, intsL_succ] at hown'; have HOWN := Lib.hid hown'; have HB2 := Lib.hid hb2; clear hown' hgrow hb2)
        go_roundw
        case rel => exact ⟨k + 1, by omega, by go_num, HOWN, Lib.hid (by rw [show allHave s0 n ss (k + 1) = (allHave s0 n ss k && hasId s0 n (ss k)) from rfl, hall.out, ← HX.out, q1]; rfl), HB2.out⟩
        case measure => simp [intOf]; omega
    · obtain rfl : k = q := by omega
      obtain ⟨A', c', G, rfl, hio, hG⟩ := intOwn_of hown.out hbr.size
      have HIO := Lib.hid hio.row
      clear hio
      go_wp2
      refine bodyPost_ret (v := .tuple #[.slice A' k c', .bool true]) (by simp [results, Tryz.results50, go_sem]) rfl ?_
      exact ⟨_, by rw [hall.out], fun _ => ⟨A', c', rfl, HIO.out⟩, hbr⟩
end Go.Proofs.YticnpibkpfpojaaGreat
