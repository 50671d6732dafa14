/- A number read digit by digit, as the reference reads it. -/
import Derived.Test.YtflhkldfhndafaaDoorSplitS
namespace Go.Proofs.YtflhkldfhndafaaDoor
set_option linter.unusedVariables false
open Go.RowKit
/-- what both readers of numbers return -/
noncomputable def numOut (l : List UInt8) : Value := .tuple #[.int .i64 (numD l), .bool (numO l).isSome]
theorem numOut_none {l : List UInt8} (h : numO l = none) : numOut l = .tuple #[.int .i64 0, .bool false] := by unfold numOut; rw [numD_none h, h]; rfl
theorem numOut_some {l : List UInt8} {n : Int} (h : numO l = some n) : numOut l = .tuple #[.int .i64 n, .bool true] := by unfold numOut; rw [numD_some h, h]; rfl
theorem dec_step {m : List UInt8} {j v : Nat} {b : UInt8} (h : Lib.decFrom 0 (m.take j) = some v) (hb : m[j]? = some b) (hd : 48 ≤ b.toNat ∧ b.toNat ≤ 57) : Lib.decFrom 0 (m.take (j + 1)) = some (v * 10 + (b.toNat - 48)) := by
  have e : b = UInt8.ofNat (48 + (b.toNat - 48)) := by
    apply UInt8.toNat_inj.1
    rw [UInt8.toNat_ofNat']
    omega
  rw [List.take_add_one, hb, decFrom_app, h]
  show Lib.decFrom v [b] = _
  have q := digitVal_dig (d := b.toNat - 48) (by omega)
  rw [← e] at q
  simp only [Lib.decFrom, q]
theorem bl_cons {s : ByteArray} (h : 0 < s.size) : ∃ b m, bl s = b :: m ∧ bt s 0 = (b.toNat : Int) ∧ m.length = s.size - 1 ∧ ∀ k, 1 ≤ k → k < s.size → ∃ x : UInt8, m[k - 1]? = some x ∧ bt s k = (x.toNat : Int) := by
  have hl := bl_len s
  cases e : bl s with
  | nil => rw [e] at hl; simp at hl; omega
  | cons b m =>
    have h0 := bl_get h
    rw [e] at h0
    have h1 : b = s[0] := by simpa using h0
    refine ⟨b, m, rfl, by rw [h1, get_bt s 0 h], by rw [e] at hl; simp at hl; omega, fun k k0 k1 => ⟨s[k], ?_, (get_bt s k k1).symm⟩⟩
    have h2 := bl_get k1
    rw [e] at h2
    obtain ⟨j, rfl⟩ : ∃ j, k = j + 1 := ⟨k - 1, by omega⟩
    simpa using h2
theorem mag_minus (m : List UInt8) : magL (45 :: m) = m := by simp [magL, Lib.trimPrefix, Lib.hasPrefix]
theorem mag_plain {b : UInt8} {m : List UInt8} (h : b ≠ 45) : magL (b :: m) = b :: m := by
  have h1 : ¬ 45 = b := fun e => h e.symm
  simp [magL, Lib.trimPrefix, Lib.hasPrefix, h1]
theorem mag_nil : magL [] = [] := by simp [magL, Lib.trimPrefix, Lib.hasPrefix]
theorem u8_eq {b : UInt8} {n : Nat} (h : (b.toNat : Int) = n) (hn : n < 256) : b = UInt8.ofNat n := by
  apply UInt8.toNat_inj.1
  rw [UInt8.toNat_ofNat']
  omega
set_option maxRecDepth 20000 in
set_option maxHeartbeats 4000000 in
theorem number_calls (s : ByteArray) (w : World) (hs : s.size ≤ 1048576) :
    Calls Tryd.prog 26 #[.string s] w fun e w' => e = .returned (numOut (bl s)) ∧ w = w' := by
  have hbt := get_bt s
  obtain ⟨R, hR⟩ : ∃ R, R = numOut (bl s) := ⟨_, rfl⟩
  rw [← hR]
  have HR := Lib.hid hR
  clear hR
  rcases Nat.eq_zero_or_pos s.size with h0 | h0
  · have e0 : bl s = [] := List.eq_nil_of_length_eq_zero (by rw [bl_len]; exact h0)
    have HN := Lib.hid (numOut_none (numO_long (l := bl s) (by rw [e0, mag_nil]; simp)))
    go_enter Tryd.func26, Tryd.ntmps26
    go_wp2
    refine bodyPost_ret (v := .tuple #[.int .i64 0, .bool false]) (by simp [results, Tryd.results26, go_sem]) rfl ?_; exact ⟨by rw [HR.out, HN.out], rfl⟩
  · obtain ⟨b, m, hb, hb0, hml, hmk⟩ := bl_cons h0
    by_cases h45 : bt s 0 = 45
    · have hb45 : b = 45 := u8_eq (n := 45) (by omega) (by omega)
      subst hb45
      have HG : Hid (magL (bl s) = m) := Lib.hid (by rw [hb, mag_minus])
      by_cases h1 : s.size = 1
      · have HN := Lib.hid (numOut_none (numO_long (l := bl s) (by rw [HG.out]; omega)))
        go_enter Tryd.func26, Tryd.ntmps26
        go_wp2
        refine bodyPost_ret (v := .tuple #[.int .i64 0, .bool false]) (by simp [results, Tryd.results26, go_sem]) rfl ?_; exact ⟨by rw [HR.out, HN.out], rfl⟩
      · by_cases h2 : 18 < s.size - 1
        · have h3 : (18 : Int) < (s.size : Int) - 1 := by omega
          have HN := Lib.hid (numOut_none (numO_long (l := bl s) (by rw [HG.out]; omega)))
          go_enter Tryd.func26, Tryd.ntmps26
          go_wp2
          refine bodyPost_ret (v := .tuple #[.int .i64 0, .bool false]) (by simp [results, Tryd.results26, go_sem]) rfl ?_; exact ⟨by rw [HR.out, HN.out], rfl⟩
        · have h3 : ¬ (18 : Int) < (s.size : Int) - 1 := by omega
          have h1' : ((s.size : Int) == 1) = false := by apply beq_eq_false_iff_ne.2; omega
          have h11 : 1 < s.size := by omega
          obtain ⟨x, hx, hxv⟩ := hmk 1 (by omega) (by omega)
          have hhd : m.head? = some x := by rw [List.head?_eq_getElem?]; exact hx
          by_cases h48 : bt s 1 = 48
          · have hx48 : x = 48 := u8_eq (n := 48) (by omega) (by omega)
            have HN := Lib.hid (numOut_none (numO_zero (l := bl s) (by rw [HG.out, hhd, hx48]) (by rw [bl_len]; omega)))
            go_enter Tryd.func26, Tryd.ntmps26
            go_wp2
            refine bodyPost_ret (v := .tuple #[.int .i64 0, .bool false]) (by simp [results, Tryd.results26, go_sem]) rfl ?_; exact ⟨by rw [HR.out, HN.out], rfl⟩
          · have h48' : (bt s 1 == 48) = false := by simpa using h48
            have hne : m ≠ [] := fun e => by rw [e] at hml; simp at hml; omega
            have hh0 : m.head? ≠ some 48 := fun e => by
              rw [hhd] at e
              have e2 := Option.some.inj e
              rw [e2] at hxv
              exact h48 hxv
            obtain ⟨M, hM⟩ : ∃ M, M = m := ⟨_, rfl⟩
            rw [← hM] at HG hml hmk hne hh0 hb
            have HM := Lib.hid hmk
            have HB := Lib.hid hb
            clear hmk hM hhd hx
            go_enter Tryd.func26, Tryd.ntmps26
            go_wp2
            go_loop [5, 6] (fun x i => ∃ (k v : Nat), 1 ≤ k ∧ k ≤ s.size ∧ x = .int .i64 (v : Int) ∧ i = .int .i64 (k : Int) ∧ Hid (Lib.decFrom 0 (M.take (k - 1)) = some v)) (fun _ i => s.size - (intOf i).toNat)
            case atStart => exact ⟨1, 0, by omega, by omega, rfl, rfl, Lib.hid (by simp [Lib.decFrom])⟩
            case round =>
              obtain ⟨k, v, hk0, hk, rfl, rfl, hd⟩ := hrel
              by_cases hlt : k < s.size
              · obtain ⟨b, hb, hbv⟩ := HM.out k hk0 hlt
                have HBV := Lib.hid hbv
                clear hbv
                cases hD : inB (bt s k) 48 57
                · have HN := Lib.hid (numOut_none (numO_bad (l := bl s) (k := k - 1) (b := b) (by rw [HG.out]; exact hb) (by have := inB_iff'.1 hD; have := HBV.out; omega)))
                  go_wp2_with (go_at_call 50; refine (digit_calls _ _).mono ?_; rintro e w' ⟨rfl, rfl⟩; rw [hD])
                  refine bodyPost_ret (v := .tuple #[.int .i64 0, .bool false]) (by simp [results, Tryd.results26, go_sem]) rfl ?_; exact ⟨by rw [HR.out, HN.out], rfl⟩
                · have hd0 := inB_iff.1 hD
                  have hst := Lib.hid (dec_step hd.out hb (by have := HBV.out; omega))
                  have hlt18 := Lib.decFrom_lt18 hst.out (by rw [List.length_take]; omega)
                  have e1 : IntKind.u8.wrap (bt s k - 48) = bt s k - 48 := IntWalk.u8_in _ ⟨by omega, by omega⟩
                  have e2 : IntKind.i64.wrap (bt s k - 48) = bt s k - 48 := IntWalk.i64_in _ ⟨by omega, by omega⟩
                  have e3 : IntKind.i64.wrap (10 * (v : Int)) = 10 * (v : Int) := IntWalk.i64_in _ ⟨by omega, by omega⟩
                  have e4 : IntKind.i64.wrap (10 * (v : Int) + (bt s k - 48)) = 10 * (v : Int) + (bt s k - 48) := IntWalk.i64_in _ ⟨by omega, by have := HBV.out; omega⟩
                  go_wp2_with (go_at_call 50; refine (digit_calls _ _).mono ?_; rintro e w' ⟨rfl, rfl⟩; rw [hD])
                  go_round
                  case rel => exact ⟨k + 1, v * 10 + (b.toNat - 48), by omega, by omega, congrArg (Value.int .i64) (by have := HBV.out; omega), by go_num, Lib.hid (by rw [show k + 1 - 1 = k - 1 + 1 by omega]; exact hst.out)⟩
                  case measure => simp [intOf]; omega
              · obtain rfl : k = s.size := by omega
                have hd2 := hd.out
                rw [List.take_of_length_le (by omega)] at hd2
                have hlt18 := Lib.decFrom_lt18 hd2 (by omega)
                have e5 : IntKind.i64.wrap (-(v : Int)) = -(v : Int) := IntWalk.i64_in _ ⟨by omega, by omega⟩
                have HN := Lib.hid (numOut_some (l := bl s) (n := -(v : Int)) (by rw [HB.out]; exact numO_minus hne hd2 (by omega) hh0))
                clear hd2
                go_wp2
                refine bodyPost_ret (v := .tuple #[.int .i64 (-(v : Int)), .bool true]) (by simp [results, Tryd.results26, go_sem]) rfl ?_
                exact ⟨by rw [HR.out, HN.out], rfl⟩
    · have hb45 : b ≠ 45 := fun e => h45 (by rw [hb0, e]; rfl)
      have h45' : (bt s 0 == 45) = false := by simpa using h45
      have HG : Hid (magL (bl s) = bl s) := Lib.hid (by rw [hb, mag_plain hb45])
      have hlen := bl_len s
      have h0' : ((s.size : Int) == 0) = false := by apply beq_eq_false_iff_ne.2; omega
      by_cases h2 : 18 < s.size
      · have h3 : (18 : Int) < (s.size : Int) := by omega
        have HN := Lib.hid (numOut_none (numO_long (l := bl s) (by rw [HG.out]; omega)))
        go_enter Tryd.func26, Tryd.ntmps26
        go_wp2
        refine bodyPost_ret (v := .tuple #[.int .i64 0, .bool false]) (by simp [results, Tryd.results26, go_sem]) rfl ?_; exact ⟨by rw [HR.out, HN.out], rfl⟩
      · have h3 : ¬ (18 : Int) < (s.size : Int) := by omega
        have hmk0 : ∀ k, 0 ≤ k → k < s.size → ∃ x : UInt8, (bl s)[k - 0]? = some x ∧ bt s k = (x.toNat : Int) := fun k _ hk => ⟨s[k], bl_get hk, (get_bt s k hk).symm⟩
        have hhd : (bl s).head? = some b := by rw [hb]; rfl
        have hne : bl s ≠ [] := fun e => by rw [e] at hb; cases hb
        by_cases h48 : bt s 0 = 48
        · by_cases h1 : 1 < s.size
          · have hx48 : b = 48 := u8_eq (n := 48) (by omega) (by omega)
            have HN := Lib.hid (numOut_none (numO_zero (l := bl s) (by rw [HG.out, hhd, hx48]) (by rw [bl_len]; omega)))
            go_enter Tryd.func26, Tryd.ntmps26
            go_wp2
            refine bodyPost_ret (v := .tuple #[.int .i64 0, .bool false]) (by simp [results, Tryd.results26, go_sem]) rfl ?_; exact ⟨by rw [HR.out, HN.out], rfl⟩
          · have h1' : ¬ (1 : Int) < (s.size : Int) := by omega
            obtain ⟨M, hM⟩ : ∃ M, M = bl s := ⟨_, rfl⟩
            replace HG := Lib.hid (HG.out.trans hM.symm)
            rw [← hM] at hlen hmk0 hne hhd hb
            have HM := Lib.hid hmk0
            have HB := Lib.hid hM
            clear hmk0 hM hmk hb hml
            go_enter Tryd.func26, Tryd.ntmps26
            go_wp2
            go_loop [5, 6] (fun x i => ∃ (k v : Nat), 0 ≤ k ∧ k ≤ s.size ∧ x = .int .i64 (v : Int) ∧ i = .int .i64 (k : Int) ∧ Hid (Lib.decFrom 0 (M.take (k - 0)) = some v)) (fun _ i => s.size - (intOf i).toNat)
            case atStart => exact ⟨0, 0, by omega, by omega, rfl, rfl, Lib.hid (by simp [Lib.decFrom])⟩
            case round =>
              obtain ⟨k, v, hk0, hk, rfl, rfl, hd⟩ := hrel
              by_cases hlt : k < s.size
              · obtain ⟨b, hb, hbv⟩ := HM.out k hk0 hlt
                have HBV := Lib.hid hbv
                clear hbv
                cases hD : inB (bt s k) 48 57
                · have HN := Lib.hid (numOut_none (numO_bad (l := bl s) (k := k - 0) (b := b) (by rw [HG.out]; exact hb) (by have := inB_iff'.1 hD; have := HBV.out; omega)))
                  go_wp2_with (go_at_call 50; refine (digit_calls _ _).mono ?_; rintro e w' ⟨rfl, rfl⟩; rw [hD])
                  refine bodyPost_ret (v := .tuple #[.int .i64 0, .bool false]) (by simp [results, Tryd.results26, go_sem]) rfl ?_; exact ⟨by rw [HR.out, HN.out], rfl⟩
                · have hd0 := inB_iff.1 hD
                  have hst := Lib.hid (dec_step hd.out hb (by have := HBV.out; omega))
                  have hlt18 := Lib.decFrom_lt18 hst.out (by rw [List.length_take]; omega)
                  have e1 : IntKind.u8.wrap (bt s k - 48) = bt s k - 48 := IntWalk.u8_in _ ⟨by omega, by omega⟩
                  have e2 : IntKind.i64.wrap (bt s k - 48) = bt s k - 48 := IntWalk.i64_in _ ⟨by omega, by omega⟩
                  have e3 : IntKind.i64.wrap (10 * (v : Int)) = 10 * (v : Int) := IntWalk.i64_in _ ⟨by omega, by omega⟩
                  have e4 : IntKind.i64.wrap (10 * (v : Int) + (bt s k - 48)) = 10 * (v : Int) + (bt s k - 48) := IntWalk.i64_in _ ⟨by omega, by have := HBV.out; omega⟩
                  go_wp2_with (go_at_call 50; refine (digit_calls _ _).mono ?_; rintro e w' ⟨rfl, rfl⟩; rw [hD])
                  go_round
                  case rel => exact ⟨k + 1, v * 10 + (b.toNat - 48), by omega, by omega, congrArg (Value.int .i64) (by have := HBV.out; omega), by go_num, Lib.hid (by rw [show k + 1 - 0 = k - 0 + 1 by omega]; exact hst.out)⟩
                  case measure => simp [intOf]; omega
              · obtain rfl : k = s.size := by omega
                have hd2 := hd.out
                rw [List.take_of_length_le (by omega)] at hd2
                have hlt18 := Lib.decFrom_lt18 hd2 (by omega)
                have e5 : IntKind.i64.wrap (-(v : Int)) = -(v : Int) := IntWalk.i64_in _ ⟨by omega, by omega⟩
                have HN := Lib.hid (numOut_some (l := bl s) (n := (v : Int)) (by rw [← HB.out]; exact numO_digits hne hd2 (by omega) (Or.inr (by omega))))
                clear hd2
                go_wp2
                refine bodyPost_ret (v := .tuple #[.int .i64 ((v : Int)), .bool true]) (by simp [results, Tryd.results26, go_sem]) rfl ?_
                exact ⟨by rw [HR.out, HN.out], rfl⟩
        · have h48' : (bt s 0 == 48) = false := by simpa using h48
          have hh0 : (bl s).head? ≠ some 48 := fun e => by
            rw [hhd] at e
            have e2 := Option.some.inj e
            rw [e2] at hb0
            exact h48 hb0
          obtain ⟨M, hM⟩ : ∃ M, M = bl s := ⟨_, rfl⟩
          replace HG := Lib.hid (HG.out.trans hM.symm)
          rw [← hM] at hlen hmk0 hne hhd hb hh0
          have HM := Lib.hid hmk0
          have HB := Lib.hid hM
          clear hmk0 hM hmk hb hml
          go_enter Tryd.func26, Tryd.ntmps26
          go_wp2
          go_loop [5, 6] (fun x i => ∃ (k v : Nat), 0 ≤ k ∧ k ≤ s.size ∧ x = .int .i64 (v : Int) ∧ i = .int .i64 (k : Int) ∧ Hid (Lib.decFrom 0 (M.take (k - 0)) = some v)) (fun _ i => s.size - (intOf i).toNat)
          case atStart => exact ⟨0, 0, by omega, by omega, rfl, rfl, Lib.hid (by simp [Lib.decFrom])⟩
          case round =>
            obtain ⟨k, v, hk0, hk, rfl, rfl, hd⟩ := hrel
            by_cases hlt : k < s.size
            · obtain ⟨b, hb, hbv⟩ := HM.out k hk0 hlt
              have HBV := Lib.hid hbv
              clear hbv
              cases hD : inB (bt s k) 48 57
              · have HN := Lib.hid (numOut_none (numO_bad (l := bl s) (k := k - 0) (b := b) (by rw [HG.out]; exact hb) (by have := inB_iff'.1 hD; have := HBV.out; omega)))
                go_wp2_with (go_at_call 50; refine (digit_calls _ _).mono ?_; rintro e w' ⟨rfl, rfl⟩; rw [hD])
                refine bodyPost_ret (v := .tuple #[.int .i64 0, .bool false]) (by simp [results, Tryd.results26, go_sem]) rfl ?_; exact ⟨by rw [HR.out, HN.out], rfl⟩
              · have hd0 := inB_iff.1 hD
                have hst := Lib.hid (dec_step hd.out hb (by have := HBV.out; omega))
                have hlt18 := Lib.decFrom_lt18 hst.out (by rw [List.length_take]; omega)
                have e1 : IntKind.u8.wrap (bt s k - 48) = bt s k - 48 := IntWalk.u8_in _ ⟨by omega, by omega⟩
                have e2 : IntKind.i64.wrap (bt s k - 48) = bt s k - 48 := IntWalk.i64_in _ ⟨by omega, by omega⟩
                have e3 : IntKind.i64.wrap (10 * (v : Int)) = 10 * (v : Int) := IntWalk.i64_in _ ⟨by omega, by omega⟩
                have e4 : IntKind.i64.wrap (10 * (v : Int) + (bt s k - 48)) = 10 * (v : Int) + (bt s k - 48) := IntWalk.i64_in _ ⟨by omega, by have := HBV.out; omega⟩
                go_wp2_with (go_at_call 50; refine (digit_calls _ _).mono ?_; rintro e w' ⟨rfl, rfl⟩; rw [hD])
                go_round
                case rel => exact ⟨k + 1, v * 10 + (b.toNat - 48), by omega, by omega, congrArg (Value.int .i64) (by have := HBV.out; omega), by go_num, Lib.hid (by rw [show k + 1 - 0 = k - 0 + 1 by omega]; exact hst.out)⟩
                case measure => simp [intOf]; omega
            · obtain rfl : k = s.size := by omega
              have hd2 := hd.out
              rw [List.take_of_length_le (by omega)] at hd2
              have hlt18 := Lib.decFrom_lt18 hd2 (by omega)
              have e5 : IntKind.i64.wrap (-(v : Int)) = -(v : Int) := IntWalk.i64_in _ ⟨by omega, by omega⟩
              have HN := Lib.hid (numOut_some (l := bl s) (n := (v : Int)) (by rw [← HB.out]; exact numO_digits hne hd2 (by omega) (Or.inl hh0)))
              clear hd2
              go_wp2
              refine bodyPost_ret (v := .tuple #[.int .i64 ((v : Int)), .bool true]) (by simp [results, Tryd.results26, go_sem]) rfl ?_
              exact ⟨by rw [HR.out, HN.out], rfl⟩
end Go.Proofs.YtflhkldfhndafaaDoor
