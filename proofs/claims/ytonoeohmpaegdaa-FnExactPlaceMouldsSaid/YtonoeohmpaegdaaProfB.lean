/- Which profiles are valid, in the program and in the reference. -/
import Derived.Test.YtonoeohmpaegdaaProf
import Derived.Deep.DeepCutAuto
namespace Go.Proofs.Ytonoeohmpaegdaa
set_option linter.unusedVariables false
open Go.RowKit


def ringB (x y z : Int) : Bool := inB x 500 150000 && (inB y 0 (x - 100) && inB z 10 300000)
def joinB (x y x2 y2 : Int) : Bool := decide (y < x2) && decide (y2 < x)
def jnAt (p q : Nat → Int) (k : Nat) : Bool := k == 0 || joinB (p (k - 1)) (q (k - 1)) (p k) (q k)
def hsum (f : Nat → Int) : Nat → Int
  | 0 => 0
  | n + 1 => hsum f n + f n
noncomputable def profB (s : ByteArray) (n : Nat) (p q h : Nat → Int) : Bool :=
  nameB s && (decide (1 ≤ n) && (decide (n ≤ 32) && (allB (fun i => ringB (p i) (q i) (h i)) n && (allB (jnAt p q) n && decide (hsum h n ≤ 300000)))))
theorem allB_and (f g : Nat → Bool) : ∀ n, allB (fun i => f i && g i) n = (allB f n && allB g n)
  | 0 => rfl
  | n + 1 => by
    show (allB (fun i => f i && g i) n && (f n && g n)) = ((allB f n && f n) && (allB g n && g n))
    rw [allB_and f g n]
    cases allB f n <;> cases allB g n <;> cases f n <;> cases g n <;> rfl
theorem hsum_bd {f : Nat → Int} {n : Nat} (h : ∀ i, i < n → 0 ≤ f i ∧ f i ≤ 300000) : ∀ k, k ≤ n → 0 ≤ hsum f k ∧ hsum f k ≤ 300000 * k
  | 0, _ => by simp [hsum]
  | k + 1, hk => by
    have h1 := hsum_bd h k (by omega)
    have h2 := h k (by omega)
    show 0 ≤ hsum f k + f k ∧ hsum f k + f k ≤ _
    omega
theorem ringB_of {x y z : Int} (h : ringB x y z = true) : (500 ≤ x ∧ x ≤ 150000) ∧ (0 ≤ y ∧ y ≤ x - 100) ∧ (10 ≤ z ∧ z ≤ 300000) := by
  simp only [ringB, Bool.and_eq_true] at h
  exact ⟨inB_iff.1 h.1, inB_iff.1 h.2.1, inB_iff.1 h.2.2⟩
set_option maxHeartbeats 1000000 in
theorem validRing_calls (x y z : Int) (w : World) :
    Calls Try.prog 84 #[.agg #[.int .i64 x, .int .i64 y, .int .i64 z]] w fun e w' => e = .returned (.bool (ringB x y z)) ∧ Below w.heap.size w w' := by
  have hB := (Below.refl w.heap.size w).alloc (Nat.le_refl _) (.cells #[.int .i64 x, .int .i64 y, .int .i64 z] 127)
  cases q1 : inB x 500 150000
  ·
    go_enter Try.func84, Try.ntmps84
    go_wp2_with (go_at_call 87; refine (within_calls _ _ _ _).mono ?_; rintro e w1 ⟨rfl, rfl⟩; first | rw [q1] | rw [q2] | rw [q3])
    go_ret
    exact ⟨ret_bool (by simp only [ringB, q1]; rfl), hB⟩
  · obtain ⟨x0, x1⟩ := inB_iff.1 q1
    have e1 : IntKind.i64.wrap (x - 100) = x - 100 := IntWalk.i64_in _ ⟨by omega, by omega⟩
    cases q2 : inB y 0 (x - 100)
    ·
      go_enter Try.func84, Try.ntmps84
      go_wp2_with (go_at_call 87; refine (within_calls _ _ _ _).mono ?_; rintro e w1 ⟨rfl, rfl⟩; first | rw [q1] | rw [q2] | rw [q3])
      go_ret
      exact ⟨ret_bool (by simp only [ringB, q1, q2]; rfl), hB⟩
    · cases q3 : inB z 10 300000
      ·
        go_enter Try.func84, Try.ntmps84
        go_wp2_with (go_at_call 87; refine (within_calls _ _ _ _).mono ?_; rintro e w1 ⟨rfl, rfl⟩; first | rw [q1] | rw [q2] | rw [q3])
        go_ret
        exact ⟨ret_bool (by simp only [ringB, q1, q2, q3]; rfl), hB⟩
      ·
        go_enter Try.func84, Try.ntmps84
        go_wp2_with (go_at_call 87; refine (within_calls _ _ _ _).mono ?_; rintro e w1 ⟨rfl, rfl⟩; first | rw [q1] | rw [q2] | rw [q3])
        go_ret
        exact ⟨ret_bool (by simp only [ringB, q1, q2, q3]; rfl), hB⟩
set_option maxHeartbeats 2000000 in
theorem l05Ring_calls (b o : Nat) (x y z : Int) (w : World) (c0 : w.cell? ⟨b, o, none⟩ = some (.int .i64 x)) (c1 : w.cell? ⟨b, o + 1, none⟩ = some (.int .i64 y)) (c2 : w.cell? ⟨b, o + 2, none⟩ = some (.int .i64 z)) :
    Calls Try.prog 74 #[.pointer (some ⟨b, o, none⟩)] w fun e w' => e = .returned (.bool (ringB x y z)) ∧ ∃ m, w' = w.drewN m := by
  have hc0 : ∀ m, Calls Try.prog 35 #[.int .i64 x, .int .i64 500, .int .i64 150000] (w.drewN m) (fun e w' => e = .returned (.bool (inB x 500 150000)) ∧ w.drewN m = w') := fun m => in_calls _ _ _ _
  have hc1 : ∀ m, Calls Try.prog 35 #[.int .i64 y, .int .i64 0, .int .i64 (x - 100)] (w.drewN m) (fun e w' => e = .returned (.bool (inB y 0 (x - 100))) ∧ w.drewN m = w') := fun m => in_calls _ _ _ _
  have hc2 : ∀ m, Calls Try.prog 35 #[.int .i64 z, .int .i64 10, .int .i64 300000] (w.drewN m) (fun e w' => e = .returned (.bool (inB z 10 300000)) ∧ w.drewN m = w') := fun m => in_calls _ _ _ _
  cases q1 : inB x 500 150000
  · simp only [q1] at hc0
    have HC0 := Lib.hid hc0
    have HC1 := Lib.hid hc1
    have HC2 := Lib.hid hc2
    clear hc0 hc1 hc2
    go_enter Try.func74, Try.ntmps74
    go_wp2_with fail
    go_quiet (first | (go_at_call 35; with_reducible exact quiet_left (HC0.out _)) | (go_at_call 35; with_reducible exact quiet_left (HC1.out _)) | (go_at_call 35; with_reducible exact quiet_left (HC2.out _)))
    go_wp2
    go_ret
    exact ⟨ret_bool (by simp only [ringB, q1]; rfl), _, rfl⟩
  · obtain ⟨x0, x1⟩ := inB_iff.1 q1
    have e1 : IntKind.i64.wrap (x - 100) = x - 100 := IntWalk.i64_in _ ⟨by omega, by omega⟩
    cases q2 : inB y 0 (x - 100)
    · simp only [q1] at hc0
      simp only [q2] at hc1
      have HC0 := Lib.hid hc0
      have HC1 := Lib.hid hc1
      have HC2 := Lib.hid hc2
      clear hc0 hc1 hc2
      go_enter Try.func74, Try.ntmps74
      go_wp2_with fail
      go_quiet (first | (go_at_call 35; with_reducible exact quiet_left (HC0.out _)) | (go_at_call 35; with_reducible exact quiet_left (HC1.out _)) | (go_at_call 35; with_reducible exact quiet_left (HC2.out _)))
      go_wp2
      go_ret
      exact ⟨ret_bool (by simp only [ringB, q1, q2]; rfl), _, rfl⟩
    · cases q3 : inB z 10 300000
      · simp only [q1] at hc0
        simp only [q2] at hc1
        simp only [q3] at hc2
        have HC0 := Lib.hid hc0
        have HC1 := Lib.hid hc1
        have HC2 := Lib.hid hc2
        clear hc0 hc1 hc2
        go_enter Try.func74, Try.ntmps74
        go_wp2_with fail
        go_quiet (first | (go_at_call 35; with_reducible exact quiet_left (HC0.out _)) | (go_at_call 35; with_reducible exact quiet_left (HC1.out _)) | (go_at_call 35; with_reducible exact quiet_left (HC2.out _)))
        go_wp2
        go_ret
        exact ⟨ret_bool (by simp only [ringB, q1, q2, q3]; rfl), _, rfl⟩
      · simp only [q1] at hc0
        simp only [q2] at hc1
        simp only [q3] at hc2
        have HC0 := Lib.hid hc0
        have HC1 := Lib.hid hc1
        have HC2 := Lib.hid hc2
        clear hc0 hc1 hc2
        go_enter Try.func74, Try.ntmps74
        go_wp2_with fail
        go_quiet (first | (go_at_call 35; with_reducible exact quiet_left (HC0.out _)) | (go_at_call 35; with_reducible exact quiet_left (HC1.out _)) | (go_at_call 35; with_reducible exact quiet_left (HC2.out _)))
        go_wp2
        go_ret
        exact ⟨ret_bool (by simp only [ringB, q1, q2, q3]; rfl), _, rfl⟩
set_option maxHeartbeats 1000000 in
theorem l05Joined_calls (b o b2 o2 : Nat) (x y x2 y2 : Int) (w : World) (c0 : w.cell? ⟨b, o, none⟩ = some (.int .i64 x)) (c1 : w.cell? ⟨b, o + 1, none⟩ = some (.int .i64 y)) (d0 : w.cell? ⟨b2, o2, none⟩ = some (.int .i64 x2)) (d1 : w.cell? ⟨b2, o2 + 1, none⟩ = some (.int .i64 y2)) :
    Calls Try.prog 75 #[.pointer (some ⟨b, o, none⟩), .pointer (some ⟨b2, o2, none⟩)] w fun e w' => e = .returned (.bool (joinB x y x2 y2)) ∧ ∃ m, w' = w.drewN m := by
  cases p1 : decide (y < x2)
  ·
    go_enter Try.func75, Try.ntmps75
    go_wp2_with fail
    go_quiet (fail)
    go_wp2
    go_ret
    exact ⟨ret_bool (by simp only [joinB, p1]; rfl), _, rfl⟩
  · cases p2 : decide (y2 < x)
    ·
      go_enter Try.func75, Try.ntmps75
      go_wp2_with fail
      go_quiet (fail)
      go_wp2
      go_ret
      exact ⟨ret_bool (by simp only [joinB, p1, p2]; rfl), _, rfl⟩
    ·
      go_enter Try.func75, Try.ntmps75
      go_wp2_with fail
      go_quiet (fail)
      go_wp2
      go_ret
      exact ⟨ret_bool (by simp only [joinB, p1, p2]; rfl), _, rfl⟩
set_option maxHeartbeats 400000 in
theorem badRing_calls (x y z : Int) (w : World) :
    Calls Try.prog 83 #[.agg #[.int .i64 x, .int .i64 y, .int .i64 z]] w fun e w' => e = .returned (.bool (!ringB x y z)) ∧ Below w.heap.size w w' := by
  have hB := (Below.refl w.heap.size w).alloc (Nat.le_refl _) (.cells #[.int .i64 x, .int .i64 y, .int .i64 z] 127)
  go_enter Try.func83, Try.ntmps83
  go_wp2_with (go_at_call 84; refine (validRing_calls _ _ _ _).mono ?_; rintro e w1 ⟨rfl, hb⟩)
  go_ret
  exact ⟨rfl, hB.trans (hb.mono (by simp))⟩
set_option maxHeartbeats 1000000 in
theorem anyRing_index (A : Option Addr) (n c : Nat) (a0 a1 a2 : Nat → Int) (p : Nat → Bool) (w : World) (h : RingRow w A n a0 a1 a2) (hn : n ≤ 1048576) (hp : ∀ k W, k < n → Below w.heap.size w W → Calls Try.prog 83 #[.agg #[.int .i64 (a0 k), .int .i64 (a1 k), .int .i64 (a2 k)]] W fun e w' => e = .returned (.bool (p k)) ∧ Below W.heap.size W w') :
    Calls Try.prog 101 #[.slice A n c, .func (.func 83) #[] #[]] w fun e w' => (∃ x : Int, decide (0 ≤ x) = anyB p n ∧ e = .returned (.int .i64 x)) ∧ Below w.heap.size w w' := by
  have H := Lib.hid h
  have HP := Lib.hid hp
  generalize hres : anyB p n = R
  have HRES := Lib.hid hres
  clear h hp hres
  go_enter Try.func101, Try.ntmps101
  go_wp2
  go_loopw [8] (fun i wr => ∃ k : Nat, k ≤ n ∧ i = .int .i64 k ∧ Hid (allB (fun i => !p i) k = true) ∧ Below w.heap.size w wr) (fun i _ => n - (intOf i).toNat)
  case atStart => exact ⟨0, by omega, rfl, rfl, Below.refl _ _⟩
  case round =>
    obtain ⟨k, hk, rfl, hgood, hbr⟩ := hrel
    by_cases hlt : k < n
    · obtain ⟨b, o, rfl, hrow⟩ := H.out (by omega)
      obtain ⟨c0, c1, c2⟩ := (hrow k hlt).below hbr (Nat.le_refl _)
      have HR := Lib.hid hrow
      clear hrow
      have HC := Lib.hid (HP.out k wr hlt hbr)
      cases q1 : p k
      · rw [q1] at HC
        go_wp2_with (go_at_call 83; with_reducible refine HC.out.mono ?_; rintro e w1 ⟨rfl, hb⟩; have hbr2 := hbr.trans (hb.mono hbr.size); clear hb)
        go_roundw
        case rel => exact ⟨k + 1, by omega, by go_num, Lib.hid (by rw [show allB (fun i => !p i) (k + 1) = (allB (fun i => !p i) k && !p k) from rfl, hgood.out, q1]; rfl), hbr2⟩
        case measure => simp [intOf]; omega
      · rw [q1] at HC
        go_wp2_with (go_at_call 83; with_reducible refine HC.out.mono ?_; rintro e w1 ⟨rfl, hb⟩; have hbr2 := hbr.trans (hb.mono hbr.size); clear hb)
        go_ret
        exact ⟨⟨k, by rw [← HRES.out, anyB_hit hlt q1]; exact decide_eq_true (by omega), rfl⟩, hbr2⟩
    · obtain rfl : k = n := by omega
      go_wp2
      go_ret
      exact ⟨⟨-1, by rw [← HRES.out]; simp [anyB, hgood.out], rfl⟩, hbr⟩
set_option maxHeartbeats 400000 in
theorem anyRing (A : Option Addr) (n c : Nat) (a0 a1 a2 : Nat → Int) (p : Nat → Bool) (w : World) (h : RingRow w A n a0 a1 a2) (hn : n ≤ 1048576) (hp : ∀ k W, k < n → Below w.heap.size w W → Calls Try.prog 83 #[.agg #[.int .i64 (a0 k), .int .i64 (a1 k), .int .i64 (a2 k)]] W fun e w' => e = .returned (.bool (p k)) ∧ Below W.heap.size W w') :
    Calls Try.prog 82 #[.slice A n c, .func (.func 83) #[] #[]] w fun e w' => e = .returned (.bool (anyB p n)) ∧ Below w.heap.size w w' := by
  go_enter Try.func82, Try.ntmps82
  go_wp2_with (go_at_call 101; refine (anyRing_index A n c a0 a1 a2 p w h hn hp).mono ?_; rintro e w1 ⟨⟨x, hx, rfl⟩, hb⟩)
  go_ret
  exact ⟨by first | rfl | exact ret_bool hx, hb⟩
set_option maxHeartbeats 1000000 in
theorem height_calls (s : ByteArray) (A : Option Addr) (n c : Nat) (p q h : Nat → Int) (w : World) (hr : RingRow w A n p q h) (hn : n ≤ 1048576) (hh : ∀ i, i < n → 0 ≤ h i ∧ h i ≤ 300000) :
    Calls Try.prog 85 #[.agg #[.string s, .slice A n c]] w fun e w' => e = .returned (.int .i64 (hsum h n)) ∧ Below w.heap.size w w' := by
  have hal := (Below.refl w.heap.size w).alloc (Nat.le_refl _) (.cells #[.string s, .slice A n c] 69)
  have H := Lib.hid hr
  have HH := Lib.hid hh
  clear hr hh
  go_enter Try.func85, Try.ntmps85
  go_wp2
  go_loopw [3, 9] (fun v i wr => ∃ (k : Nat) (x : Int), k ≤ n ∧ v = .int .i64 x ∧ i = .int .i64 k ∧ Hid (x = hsum h k) ∧ Below w.heap.size w wr) (fun _ i _ => n - (intOf i).toNat)
  case atStart => exact ⟨0, 0, by omega, rfl, rfl, rfl, hal⟩
  case round =>
    obtain ⟨k, x, hk, rfl, rfl, hx, hbr⟩ := hrel
    by_cases hlt : k < n
    · obtain ⟨b, o, rfl, hrow⟩ := H.out (by omega)
      obtain ⟨c0, c1, c2⟩ := (hrow k hlt).below hbr (Nat.le_refl _)
      have hbd := hsum_bd HH.out k (by omega)
      rw [← hx.out] at hbd
      obtain ⟨h0, h1⟩ := HH.out k hlt
      have e1 : IntKind.i64.wrap (x + h k) = x + h k := IntWalk.i64_in _ ⟨by omega, by omega⟩
      have HR := Lib.hid hrow
      have hbr2 := Lib.hid (hbr.alloc hbr.size (.cells #[.int .i64 (p k), .int .i64 (q k), .int .i64 (h k)] 127))
      clear hrow
      go_wp2
      go_roundw
      case rel => exact ⟨k + 1, x + h k, by omega, rfl, by go_num, Lib.hid (by rw [hx.out]; rfl), hbr2.out⟩
      case measure => simp [intOf]; omega
    · obtain rfl : k = n := by omega
      go_wp2
      go_ret
      exact ⟨ret_int hx.out, hbr⟩
set_option maxHeartbeats 1000000 in
theorem l05Height_calls (bb oo : Nat) (A : Option Addr) (n c : Nat) (p q h : Nat → Int) (w : World) (hr : RingRow w A n p q h) (hn : n ≤ 1048576) (hh : ∀ i, i < n → 0 ≤ h i ∧ h i ≤ 300000) (c1 : w.cell? ⟨bb, oo + 1, none⟩ = some (.slice A n c)) :
    Calls Try.prog 76 #[.pointer (some ⟨bb, oo, none⟩)] w fun e w' => e = .returned (.int .i64 (hsum h n)) ∧ w = w' := by
  have H := Lib.hid hr
  have HH := Lib.hid hh
  clear hr hh
  go_enter Try.func76, Try.ntmps76
  go_wp2
  go_loopw [3, 4] (fun v i wr => ∃ (k : Nat) (x : Int), k ≤ n ∧ v = .int .i64 x ∧ i = .int .i64 k ∧ Hid (x = hsum h k) ∧ w = wr) (fun _ i _ => n - (intOf i).toNat)
  case atStart => exact ⟨0, 0, by omega, rfl, rfl, rfl, rfl⟩
  case round =>
    obtain ⟨k, x, hk, rfl, rfl, hx, rfl⟩ := hrel
    by_cases hlt : k < n
    · obtain ⟨b, o, rfl, hrow⟩ := H.out (by omega)
      obtain ⟨d0, d1, d2⟩ := hrow k hlt
      have hbd := hsum_bd HH.out k (by omega)
      rw [← hx.out] at hbd
      obtain ⟨h0, h1⟩ := HH.out k hlt
      have e1 : IntKind.i64.wrap (x + h k) = x + h k := IntWalk.i64_in _ ⟨by omega, by omega⟩
      have HR := Lib.hid hrow
      clear hrow
      go_wp2
      go_roundw
      case rel => exact ⟨k + 1, x + h k, by omega, rfl, by go_num, Lib.hid (by rw [hx.out]; rfl), by first | rfl | trivial⟩
      case measure => simp [intOf]; omega
    · obtain rfl : k = n := by omega
      go_wp2
      go_ret
      exact ⟨ret_int hx.out, rfl⟩
end Go.Proofs.Ytonoeohmpaegdaa
