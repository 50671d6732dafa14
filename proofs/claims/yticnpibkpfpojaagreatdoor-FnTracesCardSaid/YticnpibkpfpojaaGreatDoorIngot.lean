/- Ingots: how they read, their size, copy and comparison; which are valid. -/
import Derived.Test.YticnpibkpfpojaaGreatDoorBin
import Derived.Test.YticnpibkpfpojaaGreatDoorName
import Derived.Test.YticnpibkpfpojaaGreatDoorPred
import Derived.Test.YticnpibkpfpojaaGreatDoorRowBase
import Derived.Test.YticnpibkpfpojaaGreatDoorFrame
import Derived.Deep.RegionHeld3
import Derived.KernelRfl
import Derived.ShutString
import Derived.ChangeShapes
namespace Go.Proofs.YticnpibkpfpojaaGreatDoor
set_option linter.unusedVariables false
open Go.RowKit

noncomputable def alloyB (c t o : Int) : Bool := inB c 0 1000000 && (inB t 0 1000000 && (inB o 0 1000000 && c + t + o == 1000000))
noncomputable def ingB (s : ByteArray) (m c t o : Int) : Bool := nameB s && (inB m 1 20000000 && alloyB c t o)
theorem alloyB_of {c t o : Int} (h : alloyB c t o = true) : (0 ≤ c ∧ c ≤ 1000000) ∧ (0 ≤ t ∧ t ≤ 1000000) ∧ (0 ≤ o ∧ o ≤ 1000000) ∧ c + t + o = 1000000 := by
  simp only [alloyB, Bool.and_eq_true] at h
  exact ⟨inB_iff.1 h.1, inB_iff.1 h.2.1, inB_iff.1 h.2.2.1, eq_of_beq h.2.2.2⟩
theorem ingB_of {s : ByteArray} {m c t o : Int} (h : ingB s m c t o = true) : (1 ≤ m ∧ m ≤ 20000000) ∧ (0 ≤ c ∧ c ≤ 1000000) ∧ (0 ≤ t ∧ t ≤ 1000000) ∧ (0 ≤ o ∧ o ≤ 1000000) ∧ c + t + o = 1000000 := by
  simp only [ingB, Bool.and_eq_true] at h
  exact ⟨inB_iff.1 h.2.1, alloyB_of h.2.2⟩
/-- element of type Ingot at ⟨b, o⟩ -/
def IngotAt (w : World) (b o : Nat) (s0 : ByteArray) (a1 : Int) (a2 : Int) (a3 : Int) (a4 : Int) : Prop := w.cell? ⟨b, o, none⟩ = some (.string s0) ∧ w.cell? ⟨b, o + 1, none⟩ = some (.int .i64 a1) ∧ w.cell? ⟨b, o + 2, none⟩ = some (.int .i64 a2) ∧ w.cell? ⟨b, o + 3, none⟩ = some (.int .i64 a3) ∧ w.cell? ⟨b, o + 4, none⟩ = some (.int .i64 a4)
/-- the slice at A reads as n elements -/
def IngotRow (w : World) (A : Option Addr) (n : Nat) (s0 : Nat → ByteArray) (a1 : Nat → Int) (a2 : Nat → Int) (a3 : Nat → Int) (a4 : Nat → Int) : Prop := 0 < n → ∃ b o, A = some ⟨b, o, none⟩ ∧ ∀ i, i < n → IngotAt w b (o + i * 5) (s0 i) (a1 i) (a2 i) (a3 i) (a4 i)
theorem IngotAt.lt {w : World} {b o : Nat} {s0 : ByteArray} {a1 : Int} {a2 : Int} {a3 : Int} {a4 : Int} (h : IngotAt w b o s0 a1 a2 a3 a4) : b < w.heap.size := cell_lt h.1
theorem IngotAt.below {w w' : World} {b o B : Nat} {s0 : ByteArray} {a1 : Int} {a2 : Int} {a3 : Int} {a4 : Int} (h : IngotAt w b o s0 a1 a2 a3 a4) (hb : Below B w w') (hB : w.heap.size ≤ B) : IngotAt w' b o s0 a1 a2 a3 a4 :=
  ⟨(hb.cell (p := ⟨b, o, none⟩) (Nat.lt_of_lt_of_le (IngotAt.lt h) hB)).trans h.1, (hb.cell (p := ⟨b, o + 1, none⟩) (Nat.lt_of_lt_of_le (IngotAt.lt h) hB)).trans h.2.1, (hb.cell (p := ⟨b, o + 2, none⟩) (Nat.lt_of_lt_of_le (IngotAt.lt h) hB)).trans h.2.2.1, (hb.cell (p := ⟨b, o + 3, none⟩) (Nat.lt_of_lt_of_le (IngotAt.lt h) hB)).trans h.2.2.2.1, (hb.cell (p := ⟨b, o + 4, none⟩) (Nat.lt_of_lt_of_le (IngotAt.lt h) hB)).trans h.2.2.2.2⟩
theorem IngotRow.below {w w' : World} {A : Option Addr} {n B : Nat} {s0 : Nat → ByteArray} {a1 : Nat → Int} {a2 : Nat → Int} {a3 : Nat → Int} {a4 : Nat → Int} (h : IngotRow w A n s0 a1 a2 a3 a4) (hb : Below B w w') (hB : w.heap.size ≤ B) : IngotRow w' A n s0 a1 a2 a3 a4 := fun hn => by
  obtain ⟨b, o, hA, hall⟩ := h hn
  exact ⟨b, o, hA, fun i hi => (hall i hi).below hb hB⟩
theorem IngotRow.same {w w' : World} {g q n : Nat} {s0 : Nat → ByteArray} {a1 : Nat → Int} {a2 : Nat → Int} {a3 : Nat → Int} {a4 : Nat → Int} (h : IngotRow w (some ⟨g, q, none⟩) n s0 a1 a2 a3 a4) (hb : w'.heap[g]? = w.heap[g]?) : IngotRow w' (some ⟨g, q, none⟩) n s0 a1 a2 a3 a4 := fun hn => by
  obtain ⟨b, o, hA, hall⟩ := h hn
  simp only [Option.some.injEq, Addr.mk.injEq, and_true] at hA
  obtain ⟨rfl, rfl⟩ := hA
  exact ⟨g, q, rfl, fun i hi => ⟨(World.cell?_of_block (w := w) (a := ⟨g, q + i * 5, none⟩) hb).trans (hall i hi).1, (World.cell?_of_block (w := w) (a := ⟨g, q + i * 5 + 1, none⟩) hb).trans (hall i hi).2.1, (World.cell?_of_block (w := w) (a := ⟨g, q + i * 5 + 2, none⟩) hb).trans (hall i hi).2.2.1, (World.cell?_of_block (w := w) (a := ⟨g, q + i * 5 + 3, none⟩) hb).trans (hall i hi).2.2.2.1, (World.cell?_of_block (w := w) (a := ⟨g, q + i * 5 + 4, none⟩) hb).trans (hall i hi).2.2.2.2⟩⟩
set_option maxHeartbeats 1000000 in
theorem sAlloy_calls (b o : Nat) (c t x : Int) (w : World) (c0 : w.cell? ⟨b, o, none⟩ = some (.int .i64 c)) (c1 : w.cell? ⟨b, o + 1, none⟩ = some (.int .i64 t)) (c2 : w.cell? ⟨b, o + 2, none⟩ = some (.int .i64 x)) :
    Calls Tryz.prog 159 #[.pointer (some ⟨b, o, none⟩)] w fun e w' => e = .returned (.bool (alloyB c t x)) ∧ ∃ n, w' = w.drewN n := by
  unfold alloyB
  cases hq0 : inB c 0 1000000
  ·
    (try have b0 := inB_iff.1 hq0)
    (try have b1 := inB_iff.1 hq1)
    (try have b2 := inB_iff.1 hq2)
    have HC0 := Lib.hid (show ∀ m, Calls Tryz.prog 94 #[.int .i64 c, .int .i64 0, .int .i64 1000000] (w.drewN m) (fun e w' => e = .returned (.bool false) ∧ w.drewN m = w') from fun m => by have hq := in_calls c 0 1000000 (w.drewN m); rwa [hq0] at hq)
    go_enter Tryz.func159, Tryz.ntmps159
    go_wp2_with fail
    go_quiet (first | (go_at_call 94; with_reducible exact quiet_left (HC0.out _)))
    go_wp2
    go_ret
    exact ⟨rfl, _, rfl⟩
  ·
    cases hq1 : inB t 0 1000000
    ·
      (try have b0 := inB_iff.1 hq0)
      (try have b1 := inB_iff.1 hq1)
      (try have b2 := inB_iff.1 hq2)
      have HC0 := Lib.hid (show ∀ m, Calls Tryz.prog 94 #[.int .i64 c, .int .i64 0, .int .i64 1000000] (w.drewN m) (fun e w' => e = .returned (.bool true) ∧ w.drewN m = w') from fun m => by have hq := in_calls c 0 1000000 (w.drewN m); rwa [hq0] at hq)
      have HC1 := Lib.hid (show ∀ m, Calls Tryz.prog 94 #[.int .i64 t, .int .i64 0, .int .i64 1000000] (w.drewN m) (fun e w' => e = .returned (.bool false) ∧ w.drewN m = w') from fun m => by have hq := in_calls t 0 1000000 (w.drewN m); rwa [hq1] at hq)
      go_enter Tryz.func159, Tryz.ntmps159
      go_wp2_with fail
      go_quiet (first | (go_at_call 94; with_reducible exact quiet_left (HC0.out _)) | (go_at_call 94; with_reducible exact quiet_left (HC1.out _)))
      go_wp2
      go_ret
      exact ⟨rfl, _, rfl⟩
    ·
      cases hq2 : inB x 0 1000000
      ·
        (try have b0 := inB_iff.1 hq0)
        (try have b1 := inB_iff.1 hq1)
        (try have b2 := inB_iff.1 hq2)
        have HC0 := Lib.hid (show ∀ m, Calls Tryz.prog 94 #[.int .i64 c, .int .i64 0, .int .i64 1000000] (w.drewN m) (fun e w' => e = .returned (.bool true) ∧ w.drewN m = w') from fun m => by have hq := in_calls c 0 1000000 (w.drewN m); rwa [hq0] at hq)
        have HC1 := Lib.hid (show ∀ m, Calls Tryz.prog 94 #[.int .i64 t, .int .i64 0, .int .i64 1000000] (w.drewN m) (fun e w' => e = .returned (.bool true) ∧ w.drewN m = w') from fun m => by have hq := in_calls t 0 1000000 (w.drewN m); rwa [hq1] at hq)
        have HC2 := Lib.hid (show ∀ m, Calls Tryz.prog 94 #[.int .i64 x, .int .i64 0, .int .i64 1000000] (w.drewN m) (fun e w' => e = .returned (.bool false) ∧ w.drewN m = w') from fun m => by have hq := in_calls x 0 1000000 (w.drewN m); rwa [hq2] at hq)
        go_enter Tryz.func159, Tryz.ntmps159
        go_wp2_with fail
        go_quiet (first | (go_at_call 94; with_reducible exact quiet_left (HC0.out _)) | (go_at_call 94; with_reducible exact quiet_left (HC1.out _)) | (go_at_call 94; with_reducible exact quiet_left (HC2.out _)))
        go_wp2
        go_ret
        exact ⟨rfl, _, rfl⟩
      ·
        cases hq3 : c + t + x == 1000000
        ·
          (try have b0 := inB_iff.1 hq0)
          (try have b1 := inB_iff.1 hq1)
          (try have b2 := inB_iff.1 hq2)
          have HC0 := Lib.hid (show ∀ m, Calls Tryz.prog 94 #[.int .i64 c, .int .i64 0, .int .i64 1000000] (w.drewN m) (fun e w' => e = .returned (.bool true) ∧ w.drewN m = w') from fun m => by have hq := in_calls c 0 1000000 (w.drewN m); rwa [hq0] at hq)
          have HC1 := Lib.hid (show ∀ m, Calls Tryz.prog 94 #[.int .i64 t, .int .i64 0, .int .i64 1000000] (w.drewN m) (fun e w' => e = .returned (.bool true) ∧ w.drewN m = w') from fun m => by have hq := in_calls t 0 1000000 (w.drewN m); rwa [hq1] at hq)
          have HC2 := Lib.hid (show ∀ m, Calls Tryz.prog 94 #[.int .i64 x, .int .i64 0, .int .i64 1000000] (w.drewN m) (fun e w' => e = .returned (.bool true) ∧ w.drewN m = w') from fun m => by have hq := in_calls x 0 1000000 (w.drewN m); rwa [hq2] at hq)
          go_enter Tryz.func159, Tryz.ntmps159
          go_wp2_with fail
          go_quiet (first | (go_at_call 94; with_reducible exact quiet_left (HC0.out _)) | (go_at_call 94; with_reducible exact quiet_left (HC1.out _)) | (go_at_call 94; with_reducible exact quiet_left (HC2.out _)))
          go_wp2
          go_ret
          exact ⟨rfl, _, rfl⟩
        ·
          (try have b0 := inB_iff.1 hq0)
          (try have b1 := inB_iff.1 hq1)
          (try have b2 := inB_iff.1 hq2)
          have HC0 := Lib.hid (show ∀ m, Calls Tryz.prog 94 #[.int .i64 c, .int .i64 0, .int .i64 1000000] (w.drewN m) (fun e w' => e = .returned (.bool true) ∧ w.drewN m = w') from fun m => by have hq := in_calls c 0 1000000 (w.drewN m); rwa [hq0] at hq)
          have HC1 := Lib.hid (show ∀ m, Calls Tryz.prog 94 #[.int .i64 t, .int .i64 0, .int .i64 1000000] (w.drewN m) (fun e w' => e = .returned (.bool true) ∧ w.drewN m = w') from fun m => by have hq := in_calls t 0 1000000 (w.drewN m); rwa [hq1] at hq)
          have HC2 := Lib.hid (show ∀ m, Calls Tryz.prog 94 #[.int .i64 x, .int .i64 0, .int .i64 1000000] (w.drewN m) (fun e w' => e = .returned (.bool true) ∧ w.drewN m = w') from fun m => by have hq := in_calls x 0 1000000 (w.drewN m); rwa [hq2] at hq)
          go_enter Tryz.func159, Tryz.ntmps159
          go_wp2_with fail
          go_quiet (first | (go_at_call 94; with_reducible exact quiet_left (HC0.out _)) | (go_at_call 94; with_reducible exact quiet_left (HC1.out _)) | (go_at_call 94; with_reducible exact quiet_left (HC2.out _)))
          go_wp2
          go_ret
          exact ⟨rfl, _, rfl⟩
set_option maxHeartbeats 1000000 in
theorem sIngot_calls (b o : Nat) (s0 : ByteArray) (a1 a2 a3 a4 : Int) (w : World) (hs : s0.size ≤ maxLen) (c0 : w.cell? ⟨b, o, none⟩ = some (.string s0)) (c1 : w.cell? ⟨b, o + 1, none⟩ = some (.int .i64 a1)) (c2 : w.cell? ⟨b, o + 2, none⟩ = some (.int .i64 a2)) (c3 : w.cell? ⟨b, o + 3, none⟩ = some (.int .i64 a3)) (c4 : w.cell? ⟨b, o + 4, none⟩ = some (.int .i64 a4)) :
    Calls Tryz.prog 158 #[.pointer (some ⟨b, o, none⟩)] w fun e w' => e = .returned (.bool (ingB s0 a1 a2 a3 a4)) ∧ ∃ n, w' = w.drewN n := by
  unfold ingB
  cases hq0 : nameB s0
  ·
    go_enter Tryz.func158, Tryz.ntmps158
    go_wp2_with (first | (go_at_call 93; refine (sname_calls _ _ hs).mono ?_; rintro e w1 ⟨rfl, rfl⟩) | (go_at_call 94; refine (in_calls _ _ _ _).mono ?_; rintro e w1 ⟨rfl, rfl⟩) | (go_at_call 159; refine (sAlloy_calls _ _ _ _ _ _ (by assumption) (by assumption) (by assumption)).mono ?_; rintro e w1 ⟨rfl, nd, rfl⟩))
    go_ret
    exact ⟨rfl, by first | exact ⟨_, rfl⟩ | exact ⟨0, rfl⟩⟩
  ·
    cases hq1 : inB a1 1 20000000
    ·
      go_enter Tryz.func158, Tryz.ntmps158
      go_wp2_with (first | (go_at_call 93; refine (sname_calls _ _ hs).mono ?_; rintro e w1 ⟨rfl, rfl⟩) | (go_at_call 94; refine (in_calls _ _ _ _).mono ?_; rintro e w1 ⟨rfl, rfl⟩) | (go_at_call 159; refine (sAlloy_calls _ _ _ _ _ _ (by assumption) (by assumption) (by assumption)).mono ?_; rintro e w1 ⟨rfl, nd, rfl⟩))
      go_ret
      exact ⟨rfl, by first | exact ⟨_, rfl⟩ | exact ⟨0, rfl⟩⟩
    ·
      cases hq2 : alloyB a2 a3 a4
      ·
        go_enter Tryz.func158, Tryz.ntmps158
        go_wp2_with (first | (go_at_call 93; refine (sname_calls _ _ hs).mono ?_; rintro e w1 ⟨rfl, rfl⟩) | (go_at_call 94; refine (in_calls _ _ _ _).mono ?_; rintro e w1 ⟨rfl, rfl⟩) | (go_at_call 159; refine (sAlloy_calls _ _ _ _ _ _ (by assumption) (by assumption) (by assumption)).mono ?_; rintro e w1 ⟨rfl, nd, rfl⟩))
        go_ret
        exact ⟨rfl, by first | exact ⟨_, rfl⟩ | exact ⟨0, rfl⟩⟩
      ·
        go_enter Tryz.func158, Tryz.ntmps158
        go_wp2_with (first | (go_at_call 93; refine (sname_calls _ _ hs).mono ?_; rintro e w1 ⟨rfl, rfl⟩) | (go_at_call 94; refine (in_calls _ _ _ _).mono ?_; rintro e w1 ⟨rfl, rfl⟩) | (go_at_call 159; refine (sAlloy_calls _ _ _ _ _ _ (by assumption) (by assumption) (by assumption)).mono ?_; rintro e w1 ⟨rfl, nd, rfl⟩))
        go_ret
        exact ⟨rfl, by first | exact ⟨_, rfl⟩ | exact ⟨0, rfl⟩⟩
set_option maxHeartbeats 4000000 in
theorem spec_l13Ok_calls (A : Option Addr) (n c : Nat) (s0 : Nat → ByteArray) (a1 : Nat → Int) (a2 : Nat → Int) (a3 : Nat → Int) (a4 : Nat → Int) (w : World) (h : IngotRow w A n s0 a1 a2 a3 a4) (hs : ∀ i, i < n → (s0 i).size ≤ maxLen) (hn : n ≤ maxLen) :
    Calls Tryz.prog 152 #[.slice A n c] w fun e w' => e = .returned (.bool (allB (goodAt (fun i => ingB (s0 i) (a1 i) (a2 i) (a3 i) (a4 i)) s0) n && decide ((n : Int) ≤ 16))) ∧ Below w.heap.size w w' := by
  unfold maxLen at hn
  generalize hres : (allB (goodAt (fun i => ingB (s0 i) (a1 i) (a2 i) (a3 i) (a4 i)) s0) n && decide ((n : Int) ≤ 16)) = R
  have HRES := Lib.hid hres
  have H := Lib.hid h
  have HS := Lib.hid hs
  clear h hs hres
  go_enter Tryz.func152, Tryz.ntmps152
  go_wp2
  go_loopw [3] (fun i wr => ∃ k : Nat, k ≤ n ∧ i = .int .i64 k ∧ Hid (allB (goodAt (fun i => ingB (s0 i) (a1 i) (a2 i) (a3 i) (a4 i)) s0) k = true) ∧ Below w.heap.size w wr) (fun i _ => n - (intOf i).toNat)
  case atStart => exact ⟨0, by omega, rfl, rfl, Below.refl _ _⟩
  case round =>
    obtain ⟨k, hk, rfl, hgood, hbr⟩ := hrel
    by_cases hlt : k < n
    · have hsk := HS.out k hlt
      obtain ⟨b, o, rfl, hrow⟩ := H.out (by omega)
      have hbw := (hrow k hlt).lt
      obtain ⟨c0, c1, c2, c3, c4⟩ := (hrow k hlt).below hbr (Nat.le_refl _)
      have HR := Lib.hid hrow
      clear hrow
      cases q1 : ingB (s0 k) (a1 k) (a2 k) (a3 k) (a4 k)
      · have HK : Hid (goodAt (fun i => ingB (s0 i) (a1 i) (a2 i) (a3 i) (a4 i)) s0 k = false) := Lib.hid (by simp [goodAt, q1])
        have HC := Lib.hid (show ∀ m, Calls Tryz.prog 158 #[.pointer (some ⟨b, o + k * 5, none⟩)] (wr.drewN m) (fun e w' => e = .returned (.bool false) ∧ ∃ m2, w' = (wr.drewN m).drewN m2) from fun m => by have hq := sIngot_calls b (o + k * 5) (s0 k) (a1 k) (a2 k) (a3 k) (a4 k) (wr.drewN m) hsk (by simpa using c0) (by simpa using c1) (by simpa using c2) (by simpa using c3) (by simpa using c4); rwa [q1] at hq)
        go_wp2_with fail
        go_quiet ((go_at_call 158; exact quiet_more (HC.out _)))
        have hbr2 := hbr
        go_wp2
        go_ret
        exact ⟨ret_bool (by rw [← HRES.out, allB_no hlt HK.out]; rfl), below_drewN hbr2 _⟩
      · rcases Nat.eq_zero_or_pos k with hz | hz
        · have hd1 : decide ((0 : Int) < (k : Int)) = false := decide_eq_false (by omega)
          have hd2 : decide (0 < k) = false := decide_eq_false (by omega)
          have HK : Hid (goodAt (fun i => ingB (s0 i) (a1 i) (a2 i) (a3 i) (a4 i)) s0 k = true) := Lib.hid (by subst hz; simp [goodAt, q1])
          clear hz
          have HC := Lib.hid (show ∀ m, Calls Tryz.prog 158 #[.pointer (some ⟨b, o + k * 5, none⟩)] (wr.drewN m) (fun e w' => e = .returned (.bool true) ∧ ∃ m2, w' = (wr.drewN m).drewN m2) from fun m => by have hq := sIngot_calls b (o + k * 5) (s0 k) (a1 k) (a2 k) (a3 k) (a4 k) (wr.drewN m) hsk (by simpa using c0) (by simpa using c1) (by simpa using c2) (by simpa using c3) (by simpa using c4); rwa [q1] at hq)
          go_wp2_with fail
          go_quiet ((go_at_call 158; exact quiet_more (HC.out _)))
          have hbr2 := hbr
          go_wp2
          go_roundw
          case rel => exact ⟨k + 1, by omega, by go_num, Lib.hid (by rw [show allB (goodAt (fun i => ingB (s0 i) (a1 i) (a2 i) (a3 i) (a4 i)) s0) (k + 1) = (allB (goodAt (fun i => ingB (s0 i) (a1 i) (a2 i) (a3 i) (a4 i)) s0) k && goodAt (fun i => ingB (s0 i) (a1 i) (a2 i) (a3 i) (a4 i)) s0 k) from rfl, hgood.out, HK.out]; rfl), below_drewN hbr2 _⟩
          case measure => simp [intOf]; omega
        · obtain ⟨j, hj⟩ : ∃ j, k = j + 1 := ⟨k - 1, by omega⟩
          have pr := (HR.out j (by omega)).below hbr (Nat.le_refl _) |>.1
          have hd1 : decide ((0 : Int) < (k : Int)) = true := decide_eq_true (by omega)
          have hd2 : decide (0 < k) = true := decide_eq_true (by omega)
          have hw : IntKind.i64.wrap ((k : Int) - 1) = (j : Int) := (IntWalk.i64_in _ ⟨by omega, by omega⟩).trans (by omega)
          have hjn : j < n := by omega
          have hg : goodAt (fun i => ingB (s0 i) (a1 i) (a2 i) (a3 i) (a4 i)) s0 k = Op.bytesLess (s0 j).toList (s0 k).toList := by subst hj; simp [goodAt, q1]
          clear hj hz
          cases q3 : Op.bytesLess (s0 j).toList (s0 k).toList
          · have HK : Hid (goodAt (fun i => ingB (s0 i) (a1 i) (a2 i) (a3 i) (a4 i)) s0 k = false) := Lib.hid (by rw [hg, q3])
            clear hg
            have HC := Lib.hid (show ∀ m, Calls Tryz.prog 158 #[.pointer (some ⟨b, o + k * 5, none⟩)] (wr.drewN m) (fun e w' => e = .returned (.bool true) ∧ ∃ m2, w' = (wr.drewN m).drewN m2) from fun m => by have hq := sIngot_calls b (o + k * 5) (s0 k) (a1 k) (a2 k) (a3 k) (a4 k) (wr.drewN m) hsk (by simpa using c0) (by simpa using c1) (by simpa using c2) (by simpa using c3) (by simpa using c4); rwa [q1] at hq)
            go_wp2_with fail
            go_quiet ((go_at_call 158; exact quiet_more (HC.out _)))
            have hbr2 := hbr
            go_wp2
            go_ret
            exact ⟨ret_bool (by rw [← HRES.out, allB_no hlt HK.out]; rfl), below_drewN hbr2 _⟩
          · have HK : Hid (goodAt (fun i => ingB (s0 i) (a1 i) (a2 i) (a3 i) (a4 i)) s0 k = true) := Lib.hid (by rw [hg, q3])
            clear hg
            have HC := Lib.hid (show ∀ m, Calls Tryz.prog 158 #[.pointer (some ⟨b, o + k * 5, none⟩)] (wr.drewN m) (fun e w' => e = .returned (.bool true) ∧ ∃ m2, w' = (wr.drewN m).drewN m2) from fun m => by have hq := sIngot_calls b (o + k * 5) (s0 k) (a1 k) (a2 k) (a3 k) (a4 k) (wr.drewN m) hsk (by simpa using c0) (by simpa using c1) (by simpa using c2) (by simpa using c3) (by simpa using c4); rwa [q1] at hq)
            go_wp2_with fail
            go_quiet ((go_at_call 158; exact quiet_more (HC.out _)))
            have hbr2 := hbr
            go_wp2
            go_roundw
            case rel => exact ⟨k + 1, by omega, by go_num, Lib.hid (by rw [show allB (goodAt (fun i => ingB (s0 i) (a1 i) (a2 i) (a3 i) (a4 i)) s0) (k + 1) = (allB (goodAt (fun i => ingB (s0 i) (a1 i) (a2 i) (a3 i) (a4 i)) s0) k && goodAt (fun i => ingB (s0 i) (a1 i) (a2 i) (a3 i) (a4 i)) s0 k) from rfl, hgood.out, HK.out]; rfl), below_drewN hbr2 _⟩
            case measure => simp [intOf]; omega
    · obtain rfl : k = n := by omega
      by_cases hm : (k : Int) ≤ 16
      ·
        go_wp2
        go_ret
        exact ⟨ret_bool (by rw [← HRES.out, hgood.out]; simp [hm] <;> omega), hbr⟩
      ·
        go_wp2
        go_ret
        exact ⟨ret_bool (by rw [← HRES.out, hgood.out]; simp [hm] <;> omega), hbr⟩
end Go.Proofs.YticnpibkpfpojaaGreatDoor
