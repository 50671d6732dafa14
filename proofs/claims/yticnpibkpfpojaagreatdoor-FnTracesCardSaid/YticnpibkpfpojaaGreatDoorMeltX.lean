/- Which melts, and lists of melts, are valid: the reference's way. -/
import Derived.Test.YticnpibkpfpojaaGreatDoorMeltV
import Derived.Deep.RegionHeld3
namespace Go.Proofs.YticnpibkpfpojaaGreatDoor
set_option linter.unusedVariables false
open Go.RowKit

set_option maxRecDepth 100000 in
set_option maxHeartbeats 4000000 in
theorem l14One_calls (bb oo : Nat) (x : MeltV) (w : World) (h : MeltAt w bb oo x) (hf : FineM x) :
    Calls Tryz.prog 130 #[.pointer (some ⟨bb, oo, none⟩)] w fun e w' => e = .returned (.bool (meltV x)) ∧ ∃ m, w' = w.drewN m := by
  obtain ⟨A, c, c0, c1, c2, hr⟩ := h
  obtain ⟨hs, hss, hn⟩ := hf
  generalize hres : meltV x = R
  have HRES := Lib.hid hres
  have H := Lib.hid hr
  have HSS := Lib.hid hss
  clear hr hss hres
  cases t1 : nameB x.id
  · go_enter Tryz.func130, Tryz.ntmps130
    go_wp2_with (first | (go_at_call 93; refine (sname_calls _ _ hs).mono ?_; rw [t1]; rintro e w1 ⟨rfl, rfl⟩) | (go_at_call 94; refine (in_calls _ _ _ _).mono ?_; rw [t5]; rintro e w1 ⟨rfl, rfl⟩))
    go_ret
    exact ⟨ret_bool (by rw [← HRES.out]; simp [meltV, *]), 0, rfl⟩
  · by_cases t2 : (1 : Int) ≤ x.n
    · by_cases t3 : (x.n : Int) ≤ 16
      · cases t5 : inB x.ma 1 320000000
        · have g2 : decide ((x.n : Int) < 1) = false := decide_eq_false (by omega)
          have g3 : decide ((16 : Int) < x.n) = false := decide_eq_false (by omega)
          have g2n : decide (x.n < 1) = false := decide_eq_false (by omega)
          have g3n : decide (16 < x.n) = false := decide_eq_false (by omega)
          · skip
            · go_enter Tryz.func130, Tryz.ntmps130
              go_wp2_with (first | (go_at_call 93; refine (sname_calls _ _ hs).mono ?_; rw [t1]; rintro e w1 ⟨rfl, rfl⟩) | (go_at_call 94; refine (in_calls _ _ _ _).mono ?_; rw [t5]; rintro e w1 ⟨rfl, rfl⟩))
              go_ret
              exact ⟨ret_bool (by rw [← HRES.out]; simp [meltV, *]), 0, rfl⟩
        · have T := Lib.hid (⟨t1, t2, t3, t5⟩ : nameB x.id = true ∧ (1 : Int) ≤ x.n ∧ (x.n : Int) ≤ 16 ∧ inB x.ma 1 320000000 = true)
          have g2 : decide ((x.n : Int) < 1) = false := decide_eq_false (by omega)
          have g3 : decide ((16 : Int) < x.n) = false := decide_eq_false (by omega)
          have g2n : decide (x.n < 1) = false := decide_eq_false (by omega)
          have g3n : decide (16 < x.n) = false := decide_eq_false (by omega)
          go_enter Tryz.func130, Tryz.ntmps130
          go_wp2_with (first | (go_at_call 93; refine (sname_calls _ _ hs).mono ?_; rw [t1]; rintro e w1 ⟨rfl, rfl⟩) | (go_at_call 94; refine (in_calls _ _ _ _).mono ?_; rw [t5]; rintro e w1 ⟨rfl, rfl⟩))
          clear t1 t5 g2 g3 g2n g3n
          go_loopw [3] (fun i wr => ∃ k : Nat, k ≤ x.n ∧ i = .int .i64 k ∧ Hid (namesB x.ss k = true) ∧ Hid (∃ m, wr = w.drewN m)) (fun i _ => x.n - (intOf i).toNat)
          case atStart => exact ⟨0, by omega, rfl, rfl, Lib.hid ⟨0, rfl⟩⟩
          case round =>
            obtain ⟨k, hk, rfl, hgood, hwr⟩ := hrel
            have d1 : wr.cell? ⟨bb, oo + 1, none⟩ = some (.slice A x.n c) := by obtain ⟨m, hm⟩ := hwr.out; rw [hm]; exact c1
            by_cases hlt : k < x.n
            · have hsk := HSS.out k hlt
              obtain ⟨b, o, rfl, hrow⟩ := H.out (by omega)
              have hall : ∀ i, i < x.n → wr.cell? ⟨b, o + i, none⟩ = some (.string (x.ss i)) := fun i hi => by obtain ⟨m, hm⟩ := hwr.out; rw [hm]; exact hrow i hi
              have e0 := hall k hlt
              have HR := Lib.hid hall
              have hno : ∀ h : goodAt (fun i => nameB (x.ss i)) x.ss k = false, meltV x = false := fun h => by
                obtain ⟨a1, a2, a3, a4⟩ := T.out
                unfold meltV namesB
                rw [allB_no hlt h]
                simp
              have HNO := Lib.hid hno
              clear hrow hall hno
              cases q1 : nameB (x.ss k)
              · have HK : Hid (meltV x = false) := Lib.hid (HNO.out (by simp [goodAt, q1]))
                have HCN := Lib.hid (show ∀ m, Calls Tryz.prog 93 #[.string (x.ss k)] (wr.drewN m) (fun e w' => e = .returned (.bool false) ∧ wr.drewN m = w') from fun m => by have hq := sname_calls (x.ss k) (wr.drewN m) hsk; rwa [q1] at hq)
                go_wp2_with fail
                go_quiet (first | (go_at_call 93; with_reducible exact quiet_left (HCN.out _)))
                go_wp2
                go_ret
                exact ⟨ret_bool (by rw [← HRES.out]; exact HK.out.symm), by obtain ⟨m, hm⟩ := hwr.out; rw [hm]; exact ⟨_, World.drewN_drewN _ _ _⟩⟩
              · rcases Nat.eq_zero_or_pos k with hz | hz
                · have hd1 : decide ((0 : Int) < (k : Int)) = false := decide_eq_false (by omega)
                  have hd2 : decide (0 < k) = false := decide_eq_false (by omega)
                  have HK : Hid (goodAt (fun i => nameB (x.ss i)) x.ss k = true) := Lib.hid (by subst hz; simp [goodAt, q1])
                  clear hz
                  have HCN := Lib.hid (show ∀ m, Calls Tryz.prog 93 #[.string (x.ss k)] (wr.drewN m) (fun e w' => e = .returned (.bool true) ∧ wr.drewN m = w') from fun m => by have hq := sname_calls (x.ss k) (wr.drewN m) hsk; rwa [q1] at hq)
                  go_wp2_with fail
                  go_quiet (first | (go_at_call 93; with_reducible exact quiet_left (HCN.out _)))
                  go_wp2
                  go_roundw
                  case rel => exact ⟨k + 1, by omega, by go_num, Lib.hid (namesB_up hgood.out HK.out), Lib.hid (by obtain ⟨m, hm⟩ := hwr.out; rw [hm]; exact ⟨_, World.drewN_drewN _ _ _⟩)⟩
                  case measure => simp [intOf]; omega
                · obtain ⟨j, hj⟩ : ∃ j, k = j + 1 := ⟨k - 1, by omega⟩
                  have pr := HR.out j (by omega)
                  have hd1 : decide ((0 : Int) < (k : Int)) = true := decide_eq_true (by omega)
                  have hd2 : decide (0 < k) = true := decide_eq_true (by omega)
                  have hw : IntKind.i64.wrap ((k : Int) - 1) = (j : Int) := (IntWalk.i64_in _ ⟨by omega, by omega⟩).trans (by omega)
                  have hjn : j < x.n := by omega
                  have hg : goodAt (fun i => nameB (x.ss i)) x.ss k = Op.bytesLess (x.ss j).toList (x.ss k).toList := by subst hj; simp [goodAt, q1]
                  clear hj hz
                  cases q3 : Op.bytesLess (x.ss j).toList (x.ss k).toList
                  · have HK : Hid (meltV x = false) := Lib.hid (HNO.out (by rw [hg, q3]))
                    clear hg
                    have HCN := Lib.hid (show ∀ m, Calls Tryz.prog 93 #[.string (x.ss k)] (wr.drewN m) (fun e w' => e = .returned (.bool true) ∧ wr.drewN m = w') from fun m => by have hq := sname_calls (x.ss k) (wr.drewN m) hsk; rwa [q1] at hq)
                    go_wp2_with fail
                    go_quiet (first | (go_at_call 93; with_reducible exact quiet_left (HCN.out _)))
                    go_wp2
                    go_ret
                    exact ⟨ret_bool (by rw [← HRES.out]; exact HK.out.symm), by obtain ⟨m, hm⟩ := hwr.out; rw [hm]; exact ⟨_, World.drewN_drewN _ _ _⟩⟩
                  · have HK : Hid (goodAt (fun i => nameB (x.ss i)) x.ss k = true) := Lib.hid (by rw [hg, q3])
                    clear hg
                    have HCN := Lib.hid (show ∀ m, Calls Tryz.prog 93 #[.string (x.ss k)] (wr.drewN m) (fun e w' => e = .returned (.bool true) ∧ wr.drewN m = w') from fun m => by have hq := sname_calls (x.ss k) (wr.drewN m) hsk; rwa [q1] at hq)
                    go_wp2_with fail
                    go_quiet (first | (go_at_call 93; with_reducible exact quiet_left (HCN.out _)))
                    go_wp2
                    go_roundw
                    case rel => exact ⟨k + 1, by omega, by go_num, Lib.hid (namesB_up hgood.out HK.out), Lib.hid (by obtain ⟨m, hm⟩ := hwr.out; rw [hm]; exact ⟨_, World.drewN_drewN _ _ _⟩)⟩
                    case measure => simp [intOf]; omega
            · have hkn : k = x.n := by omega
              have HE : Hid (meltV x = true) := Lib.hid (by
                obtain ⟨a1, a2, a3, a4⟩ := T.out
                have hg := hgood.out
                rw [hkn] at hg
                unfold meltV
                rw [a1, hg, a4, decide_eq_true a2, decide_eq_true a3]; rfl)
              have hge : (x.n : Int) ≤ k := by omega
              have hge2 : x.n ≤ k := by omega
              clear hkn
              go_wp2
              go_ret
              exact ⟨ret_bool (by rw [← HRES.out, HE.out]), hwr.out⟩
      · have g2 : decide ((x.n : Int) < 1) = false := decide_eq_false (by omega)
        have g3 : decide ((16 : Int) < x.n) = true := decide_eq_true (by omega)
        have g2n : decide (x.n < 1) = false := decide_eq_false (by omega)
        have g3n : decide (16 < x.n) = true := decide_eq_true (by omega)
        have g4 : decide ((x.n : Int) ≤ 16) = false := decide_eq_false t3
        have HE : Hid (meltV x = false) := Lib.hid (by unfold meltV; rw [g4]; simp)
        go_enter Tryz.func130, Tryz.ntmps130
        go_wp2_with (first | (go_at_call 93; refine (sname_calls _ _ hs).mono ?_; rw [t1]; rintro e w1 ⟨rfl, rfl⟩))
        go_ret
        exact ⟨ret_bool (by rw [← HRES.out, HE.out]), 0, rfl⟩
    · have g2 : decide ((x.n : Int) < 1) = true := decide_eq_true (by omega)
      have g2n : decide (x.n < 1) = true := decide_eq_true (by omega)
      have g4 : decide ((1 : Int) ≤ x.n) = false := decide_eq_false t2
      have HE : Hid (meltV x = false) := Lib.hid (by unfold meltV; rw [g4]; simp)
      go_enter Tryz.func130, Tryz.ntmps130
      go_wp2_with (first | (go_at_call 93; refine (sname_calls _ _ hs).mono ?_; rw [t1]; rintro e w1 ⟨rfl, rfl⟩))
      go_ret
      exact ⟨ret_bool (by rw [← HRES.out, HE.out]), 0, rfl⟩
def hasS (y : MeltV) (s : ByteArray) : Bool := anyB (fun j => s.toList == (y.ss j).toList) y.n
theorem commonB_eq (x y : MeltV) : commonB x y = anyB (fun i => hasS y (x.ss i)) x.n := rfl
set_option maxRecDepth 20000 in
set_option maxHeartbeats 4000000 in
theorem l14Common_calls (b1 o1 b2 o2 : Nat) (x y : MeltV) (w : World) (h1 : MeltAt w b1 o1 x) (h2 : MeltAt w b2 o2 y) (hn1 : x.n ≤ 1048576) (hn2 : y.n ≤ 1048576) :
    Calls Tryz.prog 133 #[.pointer (some ⟨b1, o1, none⟩), .pointer (some ⟨b2, o2, none⟩)] w fun e w' => e = .returned (.bool (commonB x y)) ∧ ∃ m, w' = w.drewN m := by
  obtain ⟨A, c, -, a1, -, hr⟩ := h1
  obtain ⟨B, d, -, e1, -, hr2⟩ := h2
  generalize hres : commonB x y = R
  have HRES := Lib.hid hres
  have H := Lib.hid hr
  have H2 := Lib.hid hr2
  clear hr hr2 hres
  go_enter Tryz.func133, Tryz.ntmps133
  go_wp2
  go_loopw [5] (fun i wr => ∃ k : Nat, k ≤ x.n ∧ i = .int .i64 k ∧ Hid (allB (fun i => !hasS y (x.ss i)) k = true) ∧ Hid (∃ m, wr = w.drewN m)) (fun i _ => x.n - (intOf i).toNat)
  case atStart => exact ⟨0, by omega, rfl, rfl, Lib.hid ⟨0, rfl⟩⟩
  case round =>
    obtain ⟨k, hk, rfl, hgood, hwr⟩ := hrel
    have f1 : wr.cell? ⟨b1, o1 + 1, none⟩ = some (.slice A x.n c) := by obtain ⟨m, hm⟩ := hwr.out; rw [hm]; exact a1
    by_cases hlt : k < x.n
    · go_wp2
      clear f1
      go_loopw [6] (fun i wr => ∃ j : Nat, j ≤ y.n ∧ i = .int .i64 j ∧ Hid (allB (fun j => !((x.ss k).toList == (y.ss j).toList)) j = true) ∧ Hid (∃ m, wr = w.drewN m)) (fun i _ => y.n - (intOf i).toNat)
      case atStart => exact ⟨0, by omega, rfl, rfl, hwr⟩
      case round =>
        clear hwr
        obtain ⟨j, hj, rfl, hgood2, hwr⟩ := hrel
        have f1 : wr.cell? ⟨b1, o1 + 1, none⟩ = some (.slice A x.n c) := by obtain ⟨m, hm⟩ := hwr.out; rw [hm]; exact a1
        have f2 : wr.cell? ⟨b2, o2 + 1, none⟩ = some (.slice B y.n d) := by obtain ⟨m, hm⟩ := hwr.out; rw [hm]; exact e1
        by_cases hlt2 : j < y.n
        · obtain ⟨b3, o3, rfl, hrow⟩ := H.out (by omega)
          obtain ⟨b4, o4, rfl, hrow2⟩ := H2.out (by omega)
          have g1 : wr.cell? ⟨b3, o3 + k, none⟩ = some (.string (x.ss k)) := by obtain ⟨m, hm⟩ := hwr.out; rw [hm]; exact hrow k hlt
          have g2 : wr.cell? ⟨b4, o4 + j, none⟩ = some (.string (y.ss j)) := by obtain ⟨m, hm⟩ := hwr.out; rw [hm]; exact hrow2 j hlt2
          have HR := Lib.hid hrow
          have HR2 := Lib.hid hrow2
          clear hrow hrow2
          cases q1 : ((x.ss k).toList == (y.ss j).toList)
          · go_wp2_with fail
            go_quiet (fail)
            go_wp2
            go_roundw
            case rel => exact ⟨j + 1, by omega, by go_num, Lib.hid (by rw [show allB (fun j => !((x.ss k).toList == (y.ss j).toList)) (j + 1) = (allB (fun j => !((x.ss k).toList == (y.ss j).toList)) j && !((x.ss k).toList == (y.ss j).toList)) from rfl, hgood2.out, q1]; rfl), Lib.hid (by obtain ⟨m, hm⟩ := hwr.out; rw [hm]; exact ⟨_, World.drewN_drewN _ _ _⟩)⟩
            case measure => simp [intOf]; omega
          · have HT : Hid (commonB x y = true) := Lib.hid (by rw [commonB_eq]; exact anyB_hit (p := fun i => hasS y (x.ss i)) hlt (anyB_hit (p := fun j => (x.ss k).toList == (y.ss j).toList) hlt2 q1))
            go_wp2_with fail
            go_quiet (fail)
            go_wp2
            go_ret
            exact ⟨ret_bool (by rw [← HRES.out, HT.out]), by obtain ⟨m, hm⟩ := hwr.out; rw [hm]; exact ⟨_, World.drewN_drewN _ _ _⟩⟩
        · have hjn : j = y.n := by omega
          have HT : Hid (hasS y (x.ss k) = false) := Lib.hid (by have hg := hgood2.out; rw [hjn] at hg; unfold hasS anyB; rw [hg]; rfl)
          have hge : (y.n : Int) ≤ j := by omega
          have hge2 : y.n ≤ j := by omega
          clear hjn
          go_wp2
          go_roundw
          case rel => exact ⟨k + 1, by omega, by go_num, Lib.hid (by rw [show allB (fun i => !hasS y (x.ss i)) (k + 1) = (allB (fun i => !hasS y (x.ss i)) k && !hasS y (x.ss k)) from rfl, hgood.out, HT.out]; rfl), hwr⟩
          case measure => simp [intOf]; omega
    · have hkn : k = x.n := by omega
      have HT : Hid (commonB x y = false) := Lib.hid (by have hg := hgood.out; rw [hkn] at hg; rw [commonB_eq]; unfold anyB; rw [hg]; rfl)
      have hge : (x.n : Int) ≤ k := by omega
      have hge2 : x.n ≤ k := by omega
      clear hkn
      go_wp2
      go_ret
      exact ⟨ret_bool (by rw [← HRES.out, HT.out]), hwr.out⟩
set_option maxRecDepth 20000 in
set_option maxHeartbeats 8000000 in
theorem l14Ok_calls (A : Option Addr) (n c : Nat) (f : Nat → MeltV) (w : World) (h : MeltRow w A n f) (hf : ∀ i, i < n → FineM (f i)) (hn : n ≤ 1048576) :
    Calls Tryz.prog 136 #[.slice A n c] w fun e w' => e = .returned (.bool (okMelts f n)) ∧ ∃ m, w' = w.drewN m := by
  generalize hres : okMelts f n = R
  have HRES := Lib.hid hres
  have H := Lib.hid h
  have HF := Lib.hid hf
  clear h hf hres
  go_enter Tryz.func136, Tryz.ntmps136
  go_wp2
  go_loopw [3] (fun i wr => ∃ k : Nat, k ≤ n ∧ i = .int .i64 k ∧ Hid (meltsOk f k = true) ∧ Hid (∃ m, wr = w.drewN m)) (fun i _ => n - (intOf i).toNat)
  case atStart => exact ⟨0, by omega, rfl, rfl, Lib.hid ⟨0, rfl⟩⟩
  case round =>
    obtain ⟨k, hk, rfl, hgood, hwr⟩ := hrel
    by_cases hlt : k < n
    · have hfk := HF.out k hlt
      obtain ⟨b, o, rfl, hrow⟩ := H.out (by omega)
      have hall : ∀ i, i < n → MeltAt wr b (o + i * 3) (f i) := fun i hi => by obtain ⟨m, hm⟩ := hwr.out; rw [hm]; exact hrow i hi
      have e0 : wr.cell? ⟨b, o + k * 3, none⟩ = some (.string (f k).id) := by obtain ⟨_, _, q, -⟩ := hall k hlt; exact q
      have HR := Lib.hid hall
      have HR0 := Lib.hid hrow
      clear hrow hall
      cases q1 : meltV (f k)
      · have HK : Hid (meltAt' f k = false) := Lib.hid (by simp [meltAt', goodAt, q1])
        have HC := Lib.hid (show ∀ m, Calls Tryz.prog 130 #[.pointer (some ⟨b, o + k * 3, none⟩)] (wr.drewN m) (fun e w' => e = .returned (.bool false) ∧ ∃ m2, w' = (wr.drewN m).drewN m2) from fun m => by have hq := l14One_calls b (o + k * 3) (f k) (wr.drewN m) ((HR.out k hlt).drewN m) hfk; rwa [q1] at hq)
        go_wp2_with fail
        go_quiet ((go_at_call 130; with_reducible exact quiet_more (HC.out _)))
        go_wp2
        go_ret
        exact ⟨ret_bool (by rw [← HRES.out]; exact (okMelts_no hlt HK.out).symm), by obtain ⟨m, hm⟩ := hwr.out; rw [hm]; exact ⟨_, World.drewN_drewN _ _ _⟩⟩
      · rcases Nat.eq_zero_or_pos k with hz | hz
        · have hd1 : decide ((0 : Int) < (k : Int)) = false := decide_eq_false (by omega)
          have hd2 : decide (0 < k) = false := decide_eq_false (by omega)
          have HK : Hid (goodAt (fun i => meltV (f i)) (fun i => (f i).id) k = true) := Lib.hid (by subst hz; simp [goodAt, q1])
          clear hz
          have HC := Lib.hid (show ∀ m, Calls Tryz.prog 130 #[.pointer (some ⟨b, o + k * 3, none⟩)] (wr.drewN m) (fun e w' => e = .returned (.bool true) ∧ ∃ m2, w' = (wr.drewN m).drewN m2) from fun m => by have hq := l14One_calls b (o + k * 3) (f k) (wr.drewN m) ((HR.out k hlt).drewN m) hfk; rwa [q1] at hq)
          go_wp2_with fail
          go_quiet ((go_at_call 130; with_reducible exact quiet_more (HC.out _)))
          go_wp2
          have HW := Lib.hid (show ∀ q, ∃ m, wr.drewN q = w.drewN m from fun q => by obtain ⟨m, hm⟩ := hwr.out; rw [hm]; exact ⟨_, World.drewN_drewN _ _ _⟩)
          go_loopw [4] (fun i wr => ∃ j : Nat, j ≤ k ∧ i = .int .i64 j ∧ Hid (allB (fun j => !commonB (f k) (f j)) j = true) ∧ Hid (∃ m, wr = w.drewN m)) (fun i _ => k - (intOf i).toNat)
          case atStart => exact ⟨0, by omega, rfl, rfl, Lib.hid (HW.out _)⟩
          case round =>
            clear hwr HR
            obtain ⟨j, hj, rfl, hgood2, hwr⟩ := hrel
            have hall : ∀ i, i < n → MeltAt wr b (o + i * 3) (f i) := fun i hi => by obtain ⟨m, hm⟩ := hwr.out; rw [hm]; exact HR0.out i hi
            by_cases hlt2 : j < k
            · have hjn2 : j < n := by omega
              have HC2 := Lib.hid (show ∀ m, Calls Tryz.prog 133 #[.pointer (some ⟨b, o + j * 3, none⟩), .pointer (some ⟨b, o + k * 3, none⟩)] (wr.drewN m) (fun e w' => e = .returned (.bool (commonB (f k) (f j))) ∧ ∃ m2, w' = (wr.drewN m).drewN m2) from fun m => by rw [commonB_comm]; exact l14Common_calls b (o + j * 3) b (o + k * 3) (f j) (f k) (wr.drewN m) ((hall j hjn2).drewN m) ((hall k hlt).drewN m) (HF.out j hjn2).2.2 (HF.out k hlt).2.2)
              clear hall
              cases q5 : commonB (f k) (f j)
              · rw [q5] at HC2
                go_wp2_with fail
                go_quiet ((go_at_call 133; with_reducible exact quiet_more (HC2.out _)))
                go_wp2
                go_roundw
                case rel => exact ⟨j + 1, by omega, by go_num, Lib.hid (by rw [show allB (fun j => !commonB (f k) (f j)) (j + 1) = (allB (fun j => !commonB (f k) (f j)) j && !commonB (f k) (f j)) from rfl, hgood2.out, q5]; rfl), Lib.hid (by obtain ⟨m, hm⟩ := hwr.out; rw [hm]; exact ⟨_, World.drewN_drewN _ _ _⟩)⟩
                case measure => simp [intOf]; omega
              · rw [q5] at HC2
                have HN : Hid (meltAt' f k = false) := Lib.hid (by unfold meltAt'; rw [anyB_hit (p := fun j => commonB (f k) (f j)) hlt2 q5]; simp)
                go_wp2_with fail
                go_quiet ((go_at_call 133; with_reducible exact quiet_more (HC2.out _)))
                go_wp2
                go_ret
                exact ⟨ret_bool (by rw [← HRES.out]; exact (okMelts_no hlt HN.out).symm), by obtain ⟨m, hm⟩ := hwr.out; rw [hm]; exact ⟨_, World.drewN_drewN _ _ _⟩⟩
            · have hjk : j = k := by omega
              have HY : Hid (meltAt' f k = true) := Lib.hid (by have hg := hgood2.out; rw [hjk] at hg; unfold meltAt' anyB; rw [HK.out, hg]; rfl)
              have hge : (k : Int) ≤ j := by omega
              have hge2 : k ≤ j := by omega
              clear hjk hall
              go_wp2
              go_roundw
              case rel => exact ⟨k + 1, by omega, by go_num, Lib.hid (meltsOk_up hgood.out HY.out), hwr⟩
              case measure => simp [intOf]; omega
        · obtain ⟨j, hj⟩ : ∃ j, k = j + 1 := ⟨k - 1, by omega⟩
          have pr : wr.cell? ⟨b, o + j * 3, none⟩ = some (.string (f j).id) := by obtain ⟨_, _, q, -⟩ := HR.out j (by omega); exact q
          have hd1 : decide ((0 : Int) < (k : Int)) = true := decide_eq_true (by omega)
          have hd2 : decide (0 < k) = true := decide_eq_true (by omega)
          have hw : IntKind.i64.wrap ((k : Int) - 1) = (j : Int) := (IntWalk.i64_in _ ⟨by omega, by omega⟩).trans (by omega)
          have hjn : j < n := by omega
          have hg : goodAt (fun i => meltV (f i)) (fun i => (f i).id) k = Op.bytesLess (f j).id.toList (f k).id.toList := by subst hj; simp [goodAt, q1]
          clear hj hz
          cases q3 : Op.bytesLess (f j).id.toList (f k).id.toList
          · have HK : Hid (meltAt' f k = false) := Lib.hid (by unfold meltAt'; rw [hg, q3]; rfl)
            clear hg
            have HC := Lib.hid (show ∀ m, Calls Tryz.prog 130 #[.pointer (some ⟨b, o + k * 3, none⟩)] (wr.drewN m) (fun e w' => e = .returned (.bool true) ∧ ∃ m2, w' = (wr.drewN m).drewN m2) from fun m => by have hq := l14One_calls b (o + k * 3) (f k) (wr.drewN m) ((HR.out k hlt).drewN m) hfk; rwa [q1] at hq)
            go_wp2_with fail
            go_quiet ((go_at_call 130; with_reducible exact quiet_more (HC.out _)))
            go_wp2
            go_ret
            exact ⟨ret_bool (by rw [← HRES.out]; exact (okMelts_no hlt HK.out).symm), by obtain ⟨m, hm⟩ := hwr.out; rw [hm]; exact ⟨_, World.drewN_drewN _ _ _⟩⟩
          · have HK : Hid (goodAt (fun i => meltV (f i)) (fun i => (f i).id) k = true) := Lib.hid (by rw [hg, q3])
            clear hg
            have HC := Lib.hid (show ∀ m, Calls Tryz.prog 130 #[.pointer (some ⟨b, o + k * 3, none⟩)] (wr.drewN m) (fun e w' => e = .returned (.bool true) ∧ ∃ m2, w' = (wr.drewN m).drewN m2) from fun m => by have hq := l14One_calls b (o + k * 3) (f k) (wr.drewN m) ((HR.out k hlt).drewN m) hfk; rwa [q1] at hq)
            go_wp2_with fail
            go_quiet ((go_at_call 130; with_reducible exact quiet_more (HC.out _)))
            go_wp2
            have HW := Lib.hid (show ∀ q, ∃ m, wr.drewN q = w.drewN m from fun q => by obtain ⟨m, hm⟩ := hwr.out; rw [hm]; exact ⟨_, World.drewN_drewN _ _ _⟩)
            go_loopw [4] (fun i wr => ∃ j : Nat, j ≤ k ∧ i = .int .i64 j ∧ Hid (allB (fun j => !commonB (f k) (f j)) j = true) ∧ Hid (∃ m, wr = w.drewN m)) (fun i _ => k - (intOf i).toNat)
            case atStart => exact ⟨0, by omega, rfl, rfl, Lib.hid (HW.out _)⟩
            case round =>
              clear hwr HR
              obtain ⟨j, hj, rfl, hgood2, hwr⟩ := hrel
              have hall : ∀ i, i < n → MeltAt wr b (o + i * 3) (f i) := fun i hi => by obtain ⟨m, hm⟩ := hwr.out; rw [hm]; exact HR0.out i hi
              by_cases hlt2 : j < k
              · have hjn2 : j < n := by omega
                have HC2 := Lib.hid (show ∀ m, Calls Tryz.prog 133 #[.pointer (some ⟨b, o + j * 3, none⟩), .pointer (some ⟨b, o + k * 3, none⟩)] (wr.drewN m) (fun e w' => e = .returned (.bool (commonB (f k) (f j))) ∧ ∃ m2, w' = (wr.drewN m).drewN m2) from fun m => by rw [commonB_comm]; exact l14Common_calls b (o + j * 3) b (o + k * 3) (f j) (f k) (wr.drewN m) ((hall j hjn2).drewN m) ((hall k hlt).drewN m) (HF.out j hjn2).2.2 (HF.out k hlt).2.2)
                clear hall
                cases q5 : commonB (f k) (f j)
                · rw [q5] at HC2
                  go_wp2_with fail
                  go_quiet ((go_at_call 133; with_reducible exact quiet_more (HC2.out _)))
                  go_wp2
                  go_roundw
                  case rel => exact ⟨j + 1, by omega, by go_num, Lib.hid (by rw [show allB (fun j => !commonB (f k) (f j)) (j + 1) = (allB (fun j => !commonB (f k) (f j)) j && !commonB (f k) (f j)) from rfl, hgood2.out, q5]; rfl), Lib.hid (by obtain ⟨m, hm⟩ := hwr.out; rw [hm]; exact ⟨_, World.drewN_drewN _ _ _⟩)⟩
                  case measure => simp [intOf]; omega
                · rw [q5] at HC2
                  have HN : Hid (meltAt' f k = false) := Lib.hid (by unfold meltAt'; rw [anyB_hit (p := fun j => commonB (f k) (f j)) hlt2 q5]; simp)
                  go_wp2_with fail
                  go_quiet ((go_at_call 133; with_reducible exact quiet_more (HC2.out _)))
                  go_wp2
                  go_ret
                  exact ⟨ret_bool (by rw [← HRES.out]; exact (okMelts_no hlt HN.out).symm), by obtain ⟨m, hm⟩ := hwr.out; rw [hm]; exact ⟨_, World.drewN_drewN _ _ _⟩⟩
              · have hjk : j = k := by omega
                have HY : Hid (meltAt' f k = true) := Lib.hid (by have hg := hgood2.out; rw [hjk] at hg; unfold meltAt' anyB; rw [HK.out, hg]; rfl)
                have hge : (k : Int) ≤ j := by omega
                have hge2 : k ≤ j := by omega
                clear hjk hall
                go_wp2
                go_roundw
                case rel => exact ⟨k + 1, by omega, by go_num, Lib.hid (meltsOk_up hgood.out HY.out), hwr⟩
                case measure => simp [intOf]; omega
    · obtain rfl : k = n := by omega
      by_cases hm : (k : Int) ≤ 12
      all_goals
        go_wp2
        go_ret
        exact ⟨ret_bool (by rw [← HRES.out]; unfold okMelts; rw [hgood.out]; simp [hm] <;> omega), hwr.out⟩
end Go.Proofs.YticnpibkpfpojaaGreatDoor
