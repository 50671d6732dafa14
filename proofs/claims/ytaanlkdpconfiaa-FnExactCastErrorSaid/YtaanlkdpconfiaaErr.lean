/- CastError, in the program and in the reference. -/
import Derived.Test.YtaanlkdpconfiaaMouldS
namespace Go.Proofs.Ytaanlkdpconfiaa
set_option linter.unusedVariables false
set_option linter.unusedSimpArgs false
open Go.RowKit

theorem hadC_ok {s : ByteArray} {n : Nat} {p q h : Nat → Int} {num den x : Int} (hh : hadB s n p q h num den x = true) : hadC s n p q h num den x = 0 := by
  simp only [hadB, Bool.and_eq_true] at hh
  obtain ⟨h1, h2, h3⟩ := hh
  simp only [hadC, h1, h2, h3, cond_true]
theorem hadC_no {s : ByteArray} {n : Nat} {p q h : Nat → Int} {num den x : Int} (hh : hadB s n p q h num den x = false) : ¬ hadC s n p q h num den x = 0 := by
  unfold hadB at hh
  unfold hadC
  cases h1 : profB s n p q h
  · simp
  · cases h2 : inB x 0 50
    · simp
    · cases h3 : profB s n (rs p num den) (rs q num den) (rs h num den)
      · simp
      · rw [h1, h2, h3] at hh; cases hh
theorem had_rng {s : ByteArray} {n : Nat} {p q h : Nat → Int} {num den x : Int} (hh : hadB s n p q h num den x = true) : profB s n p q h = true ∧ profB s n (rs p num den) (rs q num den) (rs h num den) = true := by
  simp only [hadB, Bool.and_eq_true] at hh
  exact ⟨hh.1, hh.2.2⟩
theorem MouldFor_ok (s : ByteArray) (A : Option Addr) (n c : Nat) (p q h : Nat → Int) (x : Int) (w : World) (hs : s.size ≤ maxLen) (hr : RingRow w A n p q h) (hn : n ≤ 1048576) (q1 : hadB s n p q h (1000 + x) 1000 x = true) :
    Calls Try.prog 61 #[.agg #[.string s, .slice A n c], .int .i64 x] w fun e w' => ∃ A' c' G, e = .returned (.tuple #[.agg #[.string s, .slice A' n c'], .int .i64 0]) ∧ RingOwn w' A' n (rs p (1000 + x) 1000) (rs q (1000 + x) 1000) (rs h (1000 + x) 1000) G ∧ w.heap.size ≤ G ∧ Below w.heap.size w w' :=
  (MouldFor_calls s A n c p q h x w hs hr hn).mono fun e w' he => by
    unfold HadOut at he
    rw [q1, hadC_ok q1] at he
    exact he
theorem MouldFor_no (s : ByteArray) (A : Option Addr) (n c : Nat) (p q h : Nat → Int) (x : Int) (w : World) (hs : s.size ≤ maxLen) (hr : RingRow w A n p q h) (hn : n ≤ 1048576) (q1 : hadB s n p q h (1000 + x) 1000 x = false) :
    Calls Try.prog 61 #[.agg #[.string s, .slice A n c], .int .i64 x] w fun e w' => (∃ A' c', e = .returned (.tuple #[.agg #[.string ⟨#[]⟩, .slice A' 0 c'], .int .i64 (hadC s n p q h (1000 + x) 1000 x)])) ∧ Below w.heap.size w w' :=
  (MouldFor_calls s A n c p q h x w hs hr hn).mono fun e w' he => by
    unfold HadOut at he
    rw [q1] at he
    obtain ⟨A', c', G, he, -, -, hb⟩ := he
    exact ⟨⟨A', c', he⟩, hb⟩
theorem CastFrom_ok (s : ByteArray) (A : Option Addr) (n c : Nat) (p q h : Nat → Int) (x : Int) (w : World) (hs : s.size ≤ maxLen) (hr : RingRow w A n p q h) (hn : n ≤ 1048576) (q1 : hadB s n p q h 1000 (1000 + x) x = true) :
    Calls Try.prog 56 #[.agg #[.string s, .slice A n c], .int .i64 x] w fun e w' => ∃ A' c' G, e = .returned (.tuple #[.agg #[.string s, .slice A' n c'], .int .i64 0]) ∧ RingOwn w' A' n (rs p 1000 (1000 + x)) (rs q 1000 (1000 + x)) (rs h 1000 (1000 + x)) G ∧ w.heap.size ≤ G ∧ Below w.heap.size w w' :=
  (CastFrom_calls s A n c p q h x w hs hr hn).mono fun e w' he => by
    unfold HadOut at he
    rw [q1, hadC_ok q1] at he
    exact he
theorem CastFrom_no (s : ByteArray) (A : Option Addr) (n c : Nat) (p q h : Nat → Int) (x : Int) (w : World) (hs : s.size ≤ maxLen) (hr : RingRow w A n p q h) (hn : n ≤ 1048576) (q1 : hadB s n p q h 1000 (1000 + x) x = false) :
    Calls Try.prog 56 #[.agg #[.string s, .slice A n c], .int .i64 x] w fun e w' => (∃ A' c', e = .returned (.tuple #[.agg #[.string ⟨#[]⟩, .slice A' 0 c'], .int .i64 (hadC s n p q h 1000 (1000 + x) x)])) ∧ Below w.heap.size w w' :=
  (CastFrom_calls s A n c p q h x w hs hr hn).mono fun e w' he => by
    unfold HadOut at he
    rw [q1] at he
    obtain ⟨A', c', G, he, -, -, hb⟩ := he
    exact ⟨⟨A', c', he⟩, hb⟩
theorem sMouldFor_ok (s : ByteArray) (A : Option Addr) (n c : Nat) (p q h : Nat → Int) (x : Int) (w : World) (hs : s.size ≤ maxLen) (hr : RingRow w A n p q h) (hn : n ≤ 1048576) (q1 : hadB s n p q h (1000 + x) 1000 x = true) :
    Calls Try.prog 60 #[.agg #[.string s, .slice A n c], .int .i64 x] w fun e w' => ∃ A' c' G, e = .returned (.tuple #[.agg #[.string s, .slice A' n c'], .int .i64 0]) ∧ RingOwn w' A' n (rs p (1000 + x) 1000) (rs q (1000 + x) 1000) (rs h (1000 + x) 1000) G ∧ w.heap.size ≤ G ∧ Below w.heap.size w w' :=
  (sMouldFor_calls s A n c p q h x w hs hr hn).mono fun e w' he => by
    unfold HadOut at he
    rw [q1, hadC_ok q1] at he
    exact he
theorem sMouldFor_no (s : ByteArray) (A : Option Addr) (n c : Nat) (p q h : Nat → Int) (x : Int) (w : World) (hs : s.size ≤ maxLen) (hr : RingRow w A n p q h) (hn : n ≤ 1048576) (q1 : hadB s n p q h (1000 + x) 1000 x = false) :
    Calls Try.prog 60 #[.agg #[.string s, .slice A n c], .int .i64 x] w fun e w' => (∃ A' c', e = .returned (.tuple #[.agg #[.string ⟨#[]⟩, .slice A' 0 c'], .int .i64 (hadC s n p q h (1000 + x) 1000 x)])) ∧ Below w.heap.size w w' :=
  (sMouldFor_calls s A n c p q h x w hs hr hn).mono fun e w' he => by
    unfold HadOut at he
    rw [q1] at he
    obtain ⟨A', c', G, he, -, -, hb⟩ := he
    exact ⟨⟨A', c', he⟩, hb⟩
theorem sCastFrom_ok (s : ByteArray) (A : Option Addr) (n c : Nat) (p q h : Nat → Int) (x : Int) (w : World) (hs : s.size ≤ maxLen) (hr : RingRow w A n p q h) (hn : n ≤ 1048576) (q1 : hadB s n p q h 1000 (1000 + x) x = true) :
    Calls Try.prog 54 #[.agg #[.string s, .slice A n c], .int .i64 x] w fun e w' => ∃ A' c' G, e = .returned (.tuple #[.agg #[.string s, .slice A' n c'], .int .i64 0]) ∧ RingOwn w' A' n (rs p 1000 (1000 + x)) (rs q 1000 (1000 + x)) (rs h 1000 (1000 + x)) G ∧ w.heap.size ≤ G ∧ Below w.heap.size w w' :=
  (sCastFrom_calls s A n c p q h x w hs hr hn).mono fun e w' he => by
    unfold HadOut at he
    rw [q1, hadC_ok q1] at he
    exact he
theorem sCastFrom_no (s : ByteArray) (A : Option Addr) (n c : Nat) (p q h : Nat → Int) (x : Int) (w : World) (hs : s.size ≤ maxLen) (hr : RingRow w A n p q h) (hn : n ≤ 1048576) (q1 : hadB s n p q h 1000 (1000 + x) x = false) :
    Calls Try.prog 54 #[.agg #[.string s, .slice A n c], .int .i64 x] w fun e w' => (∃ A' c', e = .returned (.tuple #[.agg #[.string ⟨#[]⟩, .slice A' 0 c'], .int .i64 (hadC s n p q h 1000 (1000 + x) x)])) ∧ Below w.heap.size w w' :=
  (sCastFrom_calls s A n c p q h x w hs hr hn).mono fun e w' he => by
    unfold HadOut at he
    rw [q1] at he
    obtain ⟨A', c', G, he, -, -, hb⟩ := he
    exact ⟨⟨A', c', he⟩, hb⟩
def apart (a b : Int) : Int := max (a - b) (b - a)
theorem abs_apart (a b : Int) : (if a - b < 0 then -(a - b) else a - b) = apart a b := by unfold apart; omega
def worst (p q h a b d : Nat → Int) : Nat → Int
  | 0 => 0
  | k + 1 => max (worst p q h a b d k) (max (apart (p k) (a k)) (max (apart (q k) (b k)) (apart (h k) (d k))))
theorem run_max4 (P : Program) (ts : Array TypeId) (t : TypeId) (x y z u v : Int) (w : World) (hv : v = max x (max y (max z u))) : (Builtin.max_ ts t #[.int .i64 x, .int .i64 y, .int .i64 z, .int .i64 u]).run P w = .ok (.int .i64 v) w := by
  subst hv
  simp [Builtin.max_, Builtin.max2]
  omega
theorem worst_bd {p q h a b d : Nat → Int} {n : Nat} (h1 : ∀ i, i < n → (0 ≤ p i ∧ p i ≤ 300000) ∧ (0 ≤ q i ∧ q i ≤ 300000) ∧ (0 ≤ h i ∧ h i ≤ 300000)) (h2 : ∀ i, i < n → (0 ≤ a i ∧ a i ≤ 300000) ∧ (0 ≤ b i ∧ b i ≤ 300000) ∧ (0 ≤ d i ∧ d i ≤ 300000)) : ∀ k, k ≤ n → 0 ≤ worst p q h a b d k ∧ worst p q h a b d k ≤ 300000
  | 0, _ => by simp [worst]
  | k + 1, hk => by
    have := worst_bd h1 h2 k (by omega)
    have := h1 k (by omega)
    have := h2 k (by omega)
    simp only [worst, apart]
    omega
noncomputable def errV (s : ByteArray) (n : Nat) (p q h : Nat → Int) (x : Int) : Int :=
  bif hadB s n p q h (1000 + x) 1000 x then (bif hadB s n (rs p (1000 + x) 1000) (rs q (1000 + x) 1000) (rs h (1000 + x) 1000) 1000 (1000 + x) x then worst p q h (rs (rs p (1000 + x) 1000) 1000 (1000 + x)) (rs (rs q (1000 + x) 1000) 1000 (1000 + x)) (rs (rs h (1000 + x) 1000) 1000 (1000 + x)) n else 0) else 0
noncomputable def errC (s : ByteArray) (n : Nat) (p q h : Nat → Int) (x : Int) : Int :=
  bif hadB s n p q h (1000 + x) 1000 x then (bif hadB s n (rs p (1000 + x) 1000) (rs q (1000 + x) 1000) (rs h (1000 + x) 1000) 1000 (1000 + x) x then 0 else hadC s n (rs p (1000 + x) 1000) (rs q (1000 + x) 1000) (rs h (1000 + x) 1000) 1000 (1000 + x) x) else hadC s n p q h (1000 + x) 1000 x
theorem ret_two {P : Program} {f : Func} {a b a' b' : Int} {w : World} (h1 : a = a') (h2 : b = b') : Ending.returned (.tuple #[.int .i64 a, .int .i64 b]) = .returned (.tuple #[.int .i64 a', .int .i64 b']) := by rw [h1, h2]
set_option maxRecDepth 20000 in
set_option maxHeartbeats 8000000 in
theorem CastError_calls (s : ByteArray) (A : Option Addr) (n c : Nat) (p q h : Nat → Int) (x : Int) (w : World) (hs : s.size ≤ maxLen) (hr : RingRow w A n p q h) (hn : n ≤ 1048576) :
    Calls Try.prog 63 #[.agg #[.string s, .slice A n c], .int .i64 x] w fun e w' => e = .returned (.tuple #[.int .i64 (errV s n p q h x), .int .i64 (errC s n p q h x)]) ∧ Below w.heap.size w w' := by
  have HR := Lib.hid hr
  have HS := Lib.hid hs
  have HAL := Lib.hid ((Below.refl w.heap.size w).alloc (Nat.le_refl _) (.cells #[.string s, .slice A n c] 84))
  clear hr hs
  cases q1 : hadB s n p q h (1000 + x) 1000 x
  · have e1 : errV s n p q h x = 0 := by unfold errV; rw [q1]; rfl
    have e2 : errC s n p q h x = hadC s n p q h (1000 + x) 1000 x := by unfold errC; rw [q1]; rfl
    rw [e1, e2]
    have hz := hadC_no q1
    generalize hC : hadC s n p q h (1000 + x) 1000 x = C1 at *
    have HC := Lib.hid hC
    clear hC e2 e1
    go_enter Try.func63, Try.ntmps63
    go_wp2_with (go_at_call 61; refine (MouldFor_no s A n c p q h x _ HS.out (HR.out.below HAL.out (Nat.le_refl _)) hn q1).mono ?_; rw [HC.out]; rintro e w1 ⟨⟨A', c', rfl⟩, hb⟩; have HB := Lib.hid (HAL.out.trans (hb.mono HAL.out.size)); clear hb)
    exact bodyPost_ret (v := .tuple #[.int .i64 0, .int .i64 C1]) (by simp [results, Try.results63, go_sem]) rfl ⟨rfl, HB.out.alloc HB.out.size _⟩
  · cases q2 : hadB s n (rs p (1000 + x) 1000) (rs q (1000 + x) 1000) (rs h (1000 + x) 1000) 1000 (1000 + x) x
    · have e1 : errV s n p q h x = 0 := by unfold errV; rw [q1, q2]; rfl
      have e2 : errC s n p q h x = hadC s n (rs p (1000 + x) 1000) (rs q (1000 + x) 1000) (rs h (1000 + x) 1000) 1000 (1000 + x) x := by unfold errC; rw [q1, q2]; rfl
      rw [e1, e2]
      have hz := hadC_no q2
      generalize hC : hadC s n (rs p (1000 + x) 1000) (rs q (1000 + x) 1000) (rs h (1000 + x) 1000) 1000 (1000 + x) x = C1 at *
      have HC := Lib.hid hC
      clear hC e2 e1
      go_enter Try.func63, Try.ntmps63
      go_wp2_with (first | (go_at_call 61; refine (MouldFor_ok s A n c p q h x _ HS.out (HR.out.below HAL.out (Nat.le_refl _)) hn q1).mono ?_; rintro e w1 ⟨A', c', G, rfl, hro, hG, hb⟩; have HB := Lib.hid (HAL.out.trans (hb.mono HAL.out.size)); have HO := Lib.hid hro; have HX := Lib.hid ((Blk.new w 84 #[.string s, .slice A n c]).keep hb); clear hb hro hG) | (go_at_call 56; have hal := (Below.refl w1.heap.size w1).alloc (Nat.le_refl _) (.cells #[.string s, .slice A' n c'] 84); refine (CastFrom_no s A' n c' _ _ _ x _ HS.out (HO.out.keep hal).row hn q2).mono ?_; rw [HC.out]; rintro e w2 ⟨⟨A2, c2, rfl⟩, hb⟩; have HB2 := Lib.hid (HB.out.trans ((hal.trans (hb.mono hal.size)).mono HB.out.size)); clear hb hal))
      exact bodyPost_ret (v := .tuple #[.int .i64 0, .int .i64 C1]) (by simp [results, Try.results63, go_sem]) rfl ⟨rfl, HB2.out.alloc HB2.out.size _⟩
    · have e1 : errV s n p q h x = worst p q h (rs (rs p (1000 + x) 1000) 1000 (1000 + x)) (rs (rs q (1000 + x) 1000) 1000 (1000 + x)) (rs (rs h (1000 + x) 1000) 1000 (1000 + x)) n := by unfold errV; rw [q1, q2]; rfl
      have e2 : errC s n p q h x = 0 := by unfold errC; rw [q1, q2]; rfl
      rw [e1, e2]
      clear e1 e2
      obtain ⟨hn0, hn32, hx1⟩ := prof_rng (had_rng q1).1
      obtain ⟨-, -, hx2⟩ := prof_rng (had_rng q2).2
      have HX1 := Lib.hid hx1
      have HX2 := Lib.hid hx2
      have HW := Lib.hid (worst_bd hx1 hx2)
      clear hx1 hx2
      obtain ⟨a, ha⟩ : ∃ a, a = rs (rs p (1000 + x) 1000) 1000 (1000 + x) := ⟨_, rfl⟩
      obtain ⟨b, hb⟩ : ∃ a, a = rs (rs q (1000 + x) 1000) 1000 (1000 + x) := ⟨_, rfl⟩
      obtain ⟨d, hd⟩ : ∃ a, a = rs (rs h (1000 + x) 1000) 1000 (1000 + x) := ⟨_, rfl⟩
      rw [← ha, ← hb, ← hd] at HX2 HW
      rw [← ha, ← hb, ← hd]
      have HA := Lib.hid ha
      have HBB := Lib.hid hb
      have HD := Lib.hid hd
      clear ha hb hd
      go_enter Try.func63, Try.ntmps63
      go_wp2_with (first | (go_at_call 61; refine (MouldFor_ok s A n c p q h x _ HS.out (HR.out.below HAL.out (Nat.le_refl _)) hn q1).mono ?_; rintro e w1 ⟨A', c', G, rfl, hro, hG, hb⟩; have HB := Lib.hid (HAL.out.trans (hb.mono HAL.out.size)); have HO := Lib.hid hro; have HX := Lib.hid ((Blk.new w 84 #[.string s, .slice A n c]).keep hb); clear hb hro hG) | (go_at_call 56; have hal := (Below.refl w1.heap.size w1).alloc (Nat.le_refl _) (.cells #[.string s, .slice A' n c'] 84); refine (CastFrom_ok s A' n c' _ _ _ x _ HS.out (HO.out.keep hal).row hn q2).mono ?_; rintro e w2 ⟨A2, c2, G2, rfl, hro2, -, hb⟩; have HB2 := Lib.hid (HB.out.trans ((hal.trans (hb.mono hal.size)).mono HB.out.size)); rw [← HA.out, ← HBB.out, ← HD.out] at hro2; have HO2 := Lib.hid hro2; have HX3 := Lib.hid ((HX.out.keep hal).keep hb); have x0 := (HX3.out.cell 0).trans rfl; have x1 := (HX3.out.cell 1).trans rfl; have x0a := cell_al x0; have x1a := cell_al x1; clear hb hal hro2))
      refine wp_gen (fun wl hwl => ?_)
      have hbl : Below w.heap.size w wl := by rw [hwl]; exact HB2.out.alloc HB2.out.size _
      have hxl : Blk wl w2.heap.size 84 #[.string s, .slice A2 n c2] := by rw [hwl]; exact Blk.new _ _ _
      have hol : RingOwn wl A2 n a b d G2 := by rw [hwl]; exact HO2.out.keep ((Below.refl _ _).alloc (Nat.le_refl _) _)
      have HBL := Lib.hid hbl
      have HXL := Lib.hid hxl
      have HOL := Lib.hid hol
      clear hbl hxl hol hwl x0 x1 x0a x1a HB HB2 HO HO2 HX HX3 HAL
      go_loopw [9, 34] (fun m i wr => ∃ k : Nat, k ≤ n ∧ m = .int .i64 (worst p q h a b d k) ∧ i = .int .i64 k ∧ Hid (Below wl.heap.size wl wr)) (fun _ i _ => n - (intOf i).toNat)
      case atStart => exact ⟨0, by omega, rfl, rfl, Lib.hid (Below.refl _ _)⟩
      case round =>
        obtain ⟨k, hk, rfl, rfl, hbr⟩ := hrel
        by_cases hlt : k < n
        · obtain ⟨b1, o1, rfl, hrow⟩ := HR.out (by omega)
          obtain ⟨rfl, arr, hblk, -, harr⟩ := HOL.out (by omega)
          obtain ⟨u0, u1, u2⟩ := (hrow k hlt).below (HBL.out.trans (hbr.out.mono HBL.out.size)) (Nat.le_refl _)
          obtain ⟨v0, v1, v2⟩ := harr k hlt
          have hb2 := hblk.keep hbr.out
          have v0a := cell_al ((hb2.cell _).trans v0)
          have v1a := cell_al ((hb2.cell _).trans v1)
          have v2a := cell_al ((hb2.cell _).trans v2)
          have y1a := cell_al (((HXL.out.keep hbr.out).cell 1).trans rfl)
          obtain ⟨t1, t2, t3⟩ := HX1.out k hlt
          obtain ⟨t4, t5, t6⟩ := HX2.out k hlt
          obtain ⟨t7, t8⟩ := HW.out k hk
          have e1 : IntKind.i64.wrap (p k - a k) = p k - a k := IntWalk.i64_in _ ⟨by omega, by omega⟩
          have e2 : IntKind.i64.wrap (q k - b k) = q k - b k := IntWalk.i64_in _ ⟨by omega, by omega⟩
          have e3 : IntKind.i64.wrap (h k - d k) = h k - d k := IntWalk.i64_in _ ⟨by omega, by omega⟩
          have HR2 := Lib.hid hrow
          have HA2 := Lib.hid harr
          have hmx : ∀ (ts : Array TypeId) (t : TypeId) (W : World), (Builtin.max_ ts t #[.int .i64 (worst p q h a b d k), .int .i64 (apart (p k) (a k)), .int .i64 (apart (q k) (b k)), .int .i64 (apart (h k) (d k))]).run Try.prog W = .ok (.int .i64 (worst p q h a b d (k + 1))) W := fun ts t W => run_max4 _ _ _ _ _ _ _ _ _ rfl
          clear hrow harr hblk hb2 v0 v1 v2
          go_wp2_with fail
          refine wp_gen (fun W0 hW0 => ?_)
          have s0_ : Below wl.heap.size wl W0 := by rw [hW0]; exact (hbr.out.alloc hbr.out.size _).alloc (by have := hbr.out.size; simp; omega) _
          have s1_ : W0.cell? ⟨wr.heap.size, 0, none⟩ = some (.int .i64 (p k)) := by simp [hW0]
          have s2_ : W0.cell? ⟨wr.heap.size, 1, none⟩ = some (.int .i64 (q k)) := by simp [hW0]
          have s3_ : W0.cell? ⟨wr.heap.size, 2, none⟩ = some (.int .i64 (h k)) := by simp [hW0]
          have s4_ : W0.cell? ⟨wr.heap.size + 1, 0, none⟩ = some (.int .i64 (a k)) := by rw [hW0]; exact ((Blk.new2 wr _ _ _).cell 0).trans rfl
          have s5_ : W0.cell? ⟨wr.heap.size + 1, 1, none⟩ = some (.int .i64 (b k)) := by rw [hW0]; exact ((Blk.new2 wr _ _ _).cell 1).trans rfl
          have s6_ : W0.cell? ⟨wr.heap.size + 1, 2, none⟩ = some (.int .i64 (d k)) := by rw [hW0]; exact ((Blk.new2 wr _ _ _).cell 2).trans rfl
          clear hW0
          refine wp_region_held_drew (S := fun w' => Below wl.heap.size wl w' ∧ w'.cell? ⟨wr.heap.size, 0, none⟩ = some (.int .i64 (p k)) ∧ w'.cell? ⟨wr.heap.size, 1, none⟩ = some (.int .i64 (q k)) ∧ w'.cell? ⟨wr.heap.size, 2, none⟩ = some (.int .i64 (h k)) ∧ w'.cell? ⟨wr.heap.size + 1, 0, none⟩ = some (.int .i64 (a k)) ∧ w'.cell? ⟨wr.heap.size + 1, 1, none⟩ = some (.int .i64 (b k)) ∧ w'.cell? ⟨wr.heap.size + 1, 2, none⟩ = some (.int .i64 (d k))) (by kernel_rfl) ?_ (fun hHeld => ?_)
          · exact ⟨s0_.drew, s1_, s2_, s3_, s4_, s5_, s6_⟩
          clear s0_ s1_ s2_ s3_ s4_ s5_ s6_
          refine take_yes (i := 0) (d := 44) (v := ?_) _ rfl rfl (by kernel_rfl) (by kernel_rfl) (by kernel_rfl) (fun _ _ _ _ h => h) (by rfl) ?_ (by assumption) ?_
          rotate_left 1
          · ((intro w hSw; (try dsimp only at hSw); go_simp) <;> (try with_reducible rfl))
          (try simp only [Act.put, List.setIfInBounds_toArray, List.set_cons_zero, List.set_cons_succ])
          refine take_yes (i := 1) (d := 45) (v := ?_) _ rfl rfl (by kernel_rfl) (by kernel_rfl) (by kernel_rfl) (fun _ _ _ _ h => h) (by rfl) ?_ (by assumption) ?_
          rotate_left 1
          · ((intro w hSw; (try dsimp only at hSw); go_simp) <;> (try with_reducible rfl))
          (try simp only [Act.put, List.setIfInBounds_toArray, List.set_cons_zero, List.set_cons_succ])
          refine take_yes (i := 2) (d := 46) (v := ?_) _ rfl rfl (by kernel_rfl) (by kernel_rfl) (by kernel_rfl) (fun _ _ _ _ h => h) (by rfl) ?_ (by assumption) ?_
          rotate_left 1
          · ((intro w hSw; (try dsimp only at hSw); go_simp) <;> (try with_reducible rfl))
          (try simp only [Act.put, List.setIfInBounds_toArray, List.set_cons_zero, List.set_cons_succ])
          refine take_yes (i := 3) (d := 47) (v := ?_) _ rfl rfl (by kernel_rfl) (by kernel_rfl) (by kernel_rfl) (fun _ _ _ _ h => h) (by rfl) ?_ (by assumption) ?_
          rotate_left 1
          · ((intro w hSw; (try dsimp only at hSw); go_simp) <;> (try with_reducible rfl))
          (try simp only [Act.put, List.setIfInBounds_toArray, List.set_cons_zero, List.set_cons_succ])
          refine take_yes (i := 4) (d := 48) (v := ?_) _ rfl rfl (by kernel_rfl) (by kernel_rfl) (by kernel_rfl) (fun _ _ _ _ h => h) (by rfl) ?_ (by assumption) ?_
          rotate_left 1
          · ((intro w hSw; (try dsimp only at hSw); go_simp) <;> (try with_reducible rfl))
          (try simp only [Act.put, List.setIfInBounds_toArray, List.set_cons_zero, List.set_cons_succ])
          refine take_yes (i := 5) (d := 49) (v := ?_) _ rfl rfl (by kernel_rfl) (by kernel_rfl) (by kernel_rfl) (fun _ _ _ _ h => h) (by rfl) ?_ (by assumption) ?_
          rotate_left 1
          · ((intro w hSw; (try dsimp only at hSw); go_simp) <;> (try with_reducible rfl))
          (try simp only [Act.put, List.setIfInBounds_toArray, List.set_cons_zero, List.set_cons_succ])
          refine take_yes (i := 7) (d := 51) (v := ?_) _ rfl rfl (by kernel_rfl) (by kernel_rfl) (by kernel_rfl) (fun _ _ _ _ h => h) (by rfl) ?_ (by assumption) ?_
          rotate_left 1
          · ((intro w hSw; (try dsimp only at hSw); go_simp) <;> (try with_reducible rfl))
          (try simp only [Act.put, List.setIfInBounds_toArray, List.set_cons_zero, List.set_cons_succ])
          refine take_yes (i := 8) (d := 52) (v := ?_) _ rfl rfl (by kernel_rfl) (by kernel_rfl) (by kernel_rfl) (fun _ _ _ _ h => h) (by rfl) ?_ (by assumption) ?_
          rotate_left 1
          · ((intro w hSw; (try dsimp only at hSw); go_simp) <;> (try with_reducible rfl))
          (try simp only [Act.put, List.setIfInBounds_toArray, List.set_cons_zero, List.set_cons_succ])
          refine take_yes (i := 9) (d := 53) (v := ?_) _ rfl rfl (by kernel_rfl) (by kernel_rfl) (by kernel_rfl) (fun _ _ _ _ h => h) (by rfl) ?_ (by assumption) ?_
          rotate_left 1
          · ((intro w hSw; (try dsimp only at hSw); go_simp) <;> (try with_reducible rfl))
          (try simp only [Act.put, List.setIfInBounds_toArray, List.set_cons_zero, List.set_cons_succ])
          refine take_yes (i := 10) (d := 54) (v := ?_) _ rfl rfl (by kernel_rfl) (by kernel_rfl) (by kernel_rfl) (fun _ _ _ _ h => h) (by rfl) ?_ (by assumption) ?_
          rotate_left 1
          · ((intro w hSw; (try dsimp only at hSw); go_simp) <;> (try with_reducible rfl))
          (try simp only [Act.put, List.setIfInBounds_toArray, List.set_cons_zero, List.set_cons_succ])
          refine take_yes (i := 11) (d := 55) (v := ?_) _ rfl rfl (by kernel_rfl) (by kernel_rfl) (by kernel_rfl) (fun _ _ _ _ h => h) (by rfl) ?_ (by assumption) ?_
          rotate_left 1
          · ((intro w hSw; (try dsimp only at hSw); go_simp) <;> (try with_reducible rfl))
          (try simp only [Act.put, List.setIfInBounds_toArray, List.set_cons_zero, List.set_cons_succ])
          refine take_yes (i := 13) (d := 57) (v := ?_) _ rfl rfl (by kernel_rfl) (by kernel_rfl) (by kernel_rfl) (fun _ _ _ _ h => h) (by rfl) ?_ (by assumption) ?_
          rotate_left 1
          · ((intro w hSw; (try dsimp only at hSw); go_simp) <;> (try with_reducible rfl))
          (try simp only [Act.put, List.setIfInBounds_toArray, List.set_cons_zero, List.set_cons_succ])
          refine take_yes (i := 14) (d := 58) (v := ?_) _ rfl rfl (by kernel_rfl) (by kernel_rfl) (by kernel_rfl) (fun _ _ _ _ h => h) (by rfl) ?_ (by assumption) ?_
          rotate_left 1
          · ((intro w hSw; (try dsimp only at hSw); go_simp) <;> (try with_reducible rfl))
          (try simp only [Act.put, List.setIfInBounds_toArray, List.set_cons_zero, List.set_cons_succ])
          refine take_yes (i := 15) (d := 59) (v := ?_) _ rfl rfl (by kernel_rfl) (by kernel_rfl) (by kernel_rfl) (fun _ _ _ _ h => h) (by rfl) ?_ (by assumption) ?_
          rotate_left 1
          · ((intro w hSw; (try dsimp only at hSw); go_simp) <;> (try with_reducible rfl))
          (try simp only [Act.put, List.setIfInBounds_toArray, List.set_cons_zero, List.set_cons_succ])
          refine take_yes (i := 16) (d := 60) (v := ?_) _ rfl rfl (by kernel_rfl) (by kernel_rfl) (by kernel_rfl) (fun _ _ _ _ h => h) (by rfl) ?_ (by assumption) ?_
          rotate_left 1
          · ((intro w hSw; (try dsimp only at hSw); go_simp) <;> (try with_reducible rfl))
          (try simp only [Act.put, List.setIfInBounds_toArray, List.set_cons_zero, List.set_cons_succ])
          refine take_yes (i := 17) (d := 61) (v := ?_) _ rfl rfl (by kernel_rfl) (by kernel_rfl) (by kernel_rfl) (fun _ _ _ _ h => h) (by rfl) ?_ (by assumption) ?_
          rotate_left 1
          · ((intro w hSw; (try dsimp only at hSw); go_simp) <;> (try with_reducible rfl))
          (try simp only [Act.put, List.setIfInBounds_toArray, List.set_cons_zero, List.set_cons_succ])
          (refine wpAnyH_ready (rs := [6]) (by kernel_rfl) (by simp) ?_; refine AllReadyH.cons rfl (fun K hK => ?_) AllReadyH.nil; go_simp; go_at_call 135; refine (abs_calls _ _ (by omega) (by omega)).mono ?_; rw [abs_apart]; rintro e wd ⟨rfl, rfl⟩; refine hK.out _ _ (by assumption) (fun hHeld2 => ?_); clear hK K hHeld; have hHeld := hHeld2; clear hHeld2; (try simp only [Act.put, List.setIfInBounds_toArray, List.set_cons_zero, List.set_cons_succ]))
          (refine wpAnyH_ready (rs := [12]) (by kernel_rfl) (by simp) ?_; refine AllReadyH.cons rfl (fun K hK => ?_) AllReadyH.nil; go_simp; go_at_call 135; refine (abs_calls _ _ (by omega) (by omega)).mono ?_; rw [abs_apart]; rintro e wd ⟨rfl, rfl⟩; refine hK.out _ _ (by assumption) (fun hHeld2 => ?_); clear hK K hHeld; have hHeld := hHeld2; clear hHeld2; (try simp only [Act.put, List.setIfInBounds_toArray, List.set_cons_zero, List.set_cons_succ]))
          (refine wpAnyH_ready (rs := [18]) (by kernel_rfl) (by simp) ?_; refine AllReadyH.cons rfl (fun K hK => ?_) AllReadyH.nil; go_simp; go_at_call 135; refine (abs_calls _ _ (by omega) (by omega)).mono ?_; rw [abs_apart]; rintro e wd ⟨rfl, rfl⟩; refine hK.out _ _ (by assumption) (fun hHeld2 => ?_); clear hK K hHeld; have hHeld := hHeld2; clear hHeld2; (try simp only [Act.put, List.setIfInBounds_toArray, List.set_cons_zero, List.set_cons_succ]))
          refine take_yes (i := 19) (d := 63) (v := ?_) _ rfl rfl (by kernel_rfl) (by kernel_rfl) (by kernel_rfl) (fun _ _ _ _ h => h) (by rfl) ?_ (by assumption) ?_
          rotate_left 1
          · ((intro w hSw; (try dsimp only at hSw); go_simp) <;> (try with_reducible rfl))
          (try simp only [Act.put, List.setIfInBounds_toArray, List.set_cons_zero, List.set_cons_succ])
          refine take_yes (i := 20) (d := 9) (v := ?_) _ rfl rfl (by kernel_rfl) (by kernel_rfl) (by kernel_rfl) (fun _ _ _ _ h => h) (by rfl) ?_ (by assumption) ?_
          rotate_left 1
          · ((intro w hSw; (try dsimp only at hSw); go_simp) <;> (try with_reducible rfl))
          (try simp only [Act.put, List.setIfInBounds_toArray, List.set_cons_zero, List.set_cons_succ])
          refine wpAnyH_done (by kernel_rfl) ?_ _
          obtain ⟨z0, z1, z2, z3, z4, z5, z6⟩ := hHeld
          clear z1 z2 z3 z4 z5 z6
          go_wp2
          go_roundw
          case rel => exact ⟨k + 1, by omega, rfl, by go_num, Lib.hid z0⟩
          case measure => simp [intOf]; omega
        · obtain rfl : k = n := by omega
          go_wp2
          exact bodyPost_ret (v := .tuple #[.int .i64 (worst p q h a b d k), .int .i64 0]) (by simp [results, Try.results63, go_sem]) rfl ⟨rfl, HBL.out.trans (hbr.out.mono HBL.out.size)⟩
theorem l15Apart_calls (a b : Int) (w : World) (h1 : 0 ≤ a) (h2 : a ≤ 300000) (h3 : 0 ≤ b) (h4 : b ≤ 300000) : Calls Try.prog 134 #[.int .i64 a, .int .i64 b] w fun e w' => e = .returned (.int .i64 (apart a b)) ∧ w = w' := by
  have e1 : IntKind.i64.wrap (a - b) = a - b := IntWalk.i64_in _ ⟨by omega, by omega⟩
  have e2 : IntKind.i64.wrap (b - a) = b - a := IntWalk.i64_in _ ⟨by omega, by omega⟩
  go_enter Try.func134, Try.ntmps134
  go_wp2_with (go_at_call 133; refine (max_calls _ _ _).mono ?_; rintro e w1 ⟨rfl, rfl⟩)
  go_ret
  exact ⟨rfl, rfl⟩
set_option maxRecDepth 20000 in
set_option maxHeartbeats 8000000 in
theorem sCastError_calls (s : ByteArray) (A : Option Addr) (n c : Nat) (p q h : Nat → Int) (x : Int) (w : World) (hs : s.size ≤ maxLen) (hr : RingRow w A n p q h) (hn : n ≤ 1048576) :
    Calls Try.prog 62 #[.agg #[.string s, .slice A n c], .int .i64 x] w fun e w' => e = .returned (.tuple #[.int .i64 (errV s n p q h x), .int .i64 (errC s n p q h x)]) ∧ Below w.heap.size w w' := by
  have HR := Lib.hid hr
  have HS := Lib.hid hs
  have HAL := Lib.hid ((Below.refl w.heap.size w).alloc (Nat.le_refl _) (.cells #[.string s, .slice A n c] 84))
  clear hr hs
  cases q1 : hadB s n p q h (1000 + x) 1000 x
  · have e1 : errV s n p q h x = 0 := by unfold errV; rw [q1]; rfl
    have e2 : errC s n p q h x = hadC s n p q h (1000 + x) 1000 x := by unfold errC; rw [q1]; rfl
    rw [e1, e2]
    have hz := hadC_no q1
    generalize hC : hadC s n p q h (1000 + x) 1000 x = C1 at *
    have HC := Lib.hid hC
    clear hC e2 e1
    go_enter Try.func62, Try.ntmps62
    go_wp2_with (go_at_call 60; refine (sMouldFor_no s A n c p q h x _ HS.out (HR.out.below HAL.out (Nat.le_refl _)) hn q1).mono ?_; rw [HC.out]; rintro e w1 ⟨⟨A', c', rfl⟩, hb⟩; have HB := Lib.hid (HAL.out.trans (hb.mono HAL.out.size)); clear hb)
    exact bodyPost_ret (v := .tuple #[.int .i64 0, .int .i64 C1]) (by simp [results, Try.results62, go_sem]) rfl ⟨rfl, HB.out.alloc HB.out.size _⟩
  · cases q2 : hadB s n (rs p (1000 + x) 1000) (rs q (1000 + x) 1000) (rs h (1000 + x) 1000) 1000 (1000 + x) x
    · have e1 : errV s n p q h x = 0 := by unfold errV; rw [q1, q2]; rfl
      have e2 : errC s n p q h x = hadC s n (rs p (1000 + x) 1000) (rs q (1000 + x) 1000) (rs h (1000 + x) 1000) 1000 (1000 + x) x := by unfold errC; rw [q1, q2]; rfl
      rw [e1, e2]
      have hz := hadC_no q2
      generalize hC : hadC s n (rs p (1000 + x) 1000) (rs q (1000 + x) 1000) (rs h (1000 + x) 1000) 1000 (1000 + x) x = C1 at *
      have HC := Lib.hid hC
      clear hC e2 e1
      go_enter Try.func62, Try.ntmps62
      go_wp2_with (first | (go_at_call 60; refine (sMouldFor_ok s A n c p q h x _ HS.out (HR.out.below HAL.out (Nat.le_refl _)) hn q1).mono ?_; rintro e w1 ⟨A', c', G, rfl, hro, hG, hb⟩; have HB := Lib.hid (HAL.out.trans (hb.mono HAL.out.size)); have HO := Lib.hid hro; have HX := Lib.hid ((Blk.new w 84 #[.string s, .slice A n c]).keep hb); clear hb hro hG) | (go_at_call 54; have hal := (Below.refl w1.heap.size w1).alloc (Nat.le_refl _) (.cells #[.string s, .slice A' n c'] 84); refine (sCastFrom_no s A' n c' _ _ _ x _ HS.out (HO.out.keep hal).row hn q2).mono ?_; rw [HC.out]; rintro e w2 ⟨⟨A2, c2, rfl⟩, hb⟩; have HB2 := Lib.hid (HB.out.trans ((hal.trans (hb.mono hal.size)).mono HB.out.size)); clear hb hal))
      exact bodyPost_ret (v := .tuple #[.int .i64 0, .int .i64 C1]) (by simp [results, Try.results62, go_sem]) rfl ⟨rfl, HB2.out.alloc HB2.out.size _⟩
    · have e1 : errV s n p q h x = worst p q h (rs (rs p (1000 + x) 1000) 1000 (1000 + x)) (rs (rs q (1000 + x) 1000) 1000 (1000 + x)) (rs (rs h (1000 + x) 1000) 1000 (1000 + x)) n := by unfold errV; rw [q1, q2]; rfl
      have e2 : errC s n p q h x = 0 := by unfold errC; rw [q1, q2]; rfl
      rw [e1, e2]
      clear e1 e2
      obtain ⟨hn0, hn32, hx1⟩ := prof_rng (had_rng q1).1
      obtain ⟨-, -, hx2⟩ := prof_rng (had_rng q2).2
      have HX1 := Lib.hid hx1
      have HX2 := Lib.hid hx2
      have HW := Lib.hid (worst_bd hx1 hx2)
      clear hx1 hx2
      obtain ⟨a, ha⟩ : ∃ a, a = rs (rs p (1000 + x) 1000) 1000 (1000 + x) := ⟨_, rfl⟩
      obtain ⟨b, hb⟩ : ∃ a, a = rs (rs q (1000 + x) 1000) 1000 (1000 + x) := ⟨_, rfl⟩
      obtain ⟨d, hd⟩ : ∃ a, a = rs (rs h (1000 + x) 1000) 1000 (1000 + x) := ⟨_, rfl⟩
      rw [← ha, ← hb, ← hd] at HX2 HW
      rw [← ha, ← hb, ← hd]
      have HA := Lib.hid ha
      have HBB := Lib.hid hb
      have HD := Lib.hid hd
      clear ha hb hd
      go_enter Try.func62, Try.ntmps62
      go_wp2_with (first | (go_at_call 60; refine (sMouldFor_ok s A n c p q h x _ HS.out (HR.out.below HAL.out (Nat.le_refl _)) hn q1).mono ?_; rintro e w1 ⟨A', c', G, rfl, hro, hG, hb⟩; have HB := Lib.hid (HAL.out.trans (hb.mono HAL.out.size)); have HO := Lib.hid hro; have HX := Lib.hid ((Blk.new w 84 #[.string s, .slice A n c]).keep hb); clear hb hro hG) | (go_at_call 54; have hal := (Below.refl w1.heap.size w1).alloc (Nat.le_refl _) (.cells #[.string s, .slice A' n c'] 84); refine (sCastFrom_ok s A' n c' _ _ _ x _ HS.out (HO.out.keep hal).row hn q2).mono ?_; rintro e w2 ⟨A2, c2, G2, rfl, hro2, -, hb⟩; have HB2 := Lib.hid (HB.out.trans ((hal.trans (hb.mono hal.size)).mono HB.out.size)); rw [← HA.out, ← HBB.out, ← HD.out] at hro2; have HO2 := Lib.hid hro2; have HX3 := Lib.hid ((HX.out.keep hal).keep hb); have x0 := (HX3.out.cell 0).trans rfl; have x1 := (HX3.out.cell 1).trans rfl; have x0a := cell_al x0; have x1a := cell_al x1; clear hb hal hro2))
      refine wp_gen (fun wl hwl => ?_)
      have hbl : Below w.heap.size w wl := by rw [hwl]; exact HB2.out.alloc HB2.out.size _
      have hxl : Blk wl w2.heap.size 84 #[.string s, .slice A2 n c2] := by rw [hwl]; exact Blk.new _ _ _
      have hol : RingOwn wl A2 n a b d G2 := by rw [hwl]; exact HO2.out.keep ((Below.refl _ _).alloc (Nat.le_refl _) _)
      have hxa : Blk wl w.heap.size 84 #[.string s, .slice A n c] := by rw [hwl]; exact HX3.out.alloc _
      have HXA := Lib.hid hxa
      clear hxa
      have HBL := Lib.hid hbl
      have HXL := Lib.hid hxl
      have HOL := Lib.hid hol
      clear hbl hxl hol hwl x0 x1 x0a x1a HB HB2 HO HO2 HX HX3 HAL
      go_loopw [9, 10] (fun m i wr => ∃ k : Nat, k ≤ n ∧ m = .int .i64 (worst p q h a b d k) ∧ i = .int .i64 k ∧ Hid (Below wl.heap.size wl wr)) (fun _ i _ => n - (intOf i).toNat)
      case atStart => exact ⟨0, by omega, rfl, rfl, Lib.hid (Below.refl _ _)⟩
      case round =>
        obtain ⟨k, hk, rfl, rfl, hbr⟩ := hrel
        have x1 := ((HXA.out.keep hbr.out).cell 1).trans rfl
        have x1a := cell_al x1
        by_cases hlt : k < n
        · obtain ⟨b1, o1, rfl, hrow⟩ := HR.out (by omega)
          obtain ⟨rfl, arr, hblk, -, harr⟩ := HOL.out (by omega)
          obtain ⟨u0, u1, u2⟩ := (hrow k hlt).below (HBL.out.trans (hbr.out.mono HBL.out.size)) (Nat.le_refl _)
          obtain ⟨v0, v1, v2⟩ := harr k hlt
          have hb2 := hblk.keep hbr.out
          have v0a := cell_al ((hb2.cell _).trans v0)
          have v1a := cell_al ((hb2.cell _).trans v1)
          have v2a := cell_al ((hb2.cell _).trans v2)
          have y1a := cell_al (((HXL.out.keep hbr.out).cell 1).trans rfl)
          obtain ⟨t1, t2, t3⟩ := HX1.out k hlt
          obtain ⟨t4, t5, t6⟩ := HX2.out k hlt
          obtain ⟨t7, t8⟩ := HW.out k hk
          have HR2 := Lib.hid hrow
          have HA2 := Lib.hid harr
          clear hrow harr hblk hb2 v0 v1 v2
          go_wp2_with fail
          refine wp_gen (fun W0 hW0 => ?_)
          have s0_ : Below wl.heap.size wl W0 := by rw [hW0]; exact (hbr.out.alloc hbr.out.size _).alloc (by have := hbr.out.size; simp; omega) _
          have s1_ : W0.cell? ⟨wr.heap.size, 0, none⟩ = some (.int .i64 (p k)) := by simp [hW0]
          have s2_ : W0.cell? ⟨wr.heap.size, 1, none⟩ = some (.int .i64 (q k)) := by simp [hW0]
          have s3_ : W0.cell? ⟨wr.heap.size, 2, none⟩ = some (.int .i64 (h k)) := by simp [hW0]
          have s4_ : W0.cell? ⟨wr.heap.size + 1, 0, none⟩ = some (.int .i64 (a k)) := by rw [hW0]; exact ((Blk.new2 wr _ _ _).cell 0).trans rfl
          have s5_ : W0.cell? ⟨wr.heap.size + 1, 1, none⟩ = some (.int .i64 (b k)) := by rw [hW0]; exact ((Blk.new2 wr _ _ _).cell 1).trans rfl
          have s6_ : W0.cell? ⟨wr.heap.size + 1, 2, none⟩ = some (.int .i64 (d k)) := by rw [hW0]; exact ((Blk.new2 wr _ _ _).cell 2).trans rfl
          clear hW0
          refine wp_region_held_drew (S := fun w' => Below wl.heap.size wl w' ∧ w'.cell? ⟨wr.heap.size, 0, none⟩ = some (.int .i64 (p k)) ∧ w'.cell? ⟨wr.heap.size, 1, none⟩ = some (.int .i64 (q k)) ∧ w'.cell? ⟨wr.heap.size, 2, none⟩ = some (.int .i64 (h k)) ∧ w'.cell? ⟨wr.heap.size + 1, 0, none⟩ = some (.int .i64 (a k)) ∧ w'.cell? ⟨wr.heap.size + 1, 1, none⟩ = some (.int .i64 (b k)) ∧ w'.cell? ⟨wr.heap.size + 1, 2, none⟩ = some (.int .i64 (d k))) (by kernel_rfl) ?_ (fun hHeld => ?_)
          · exact ⟨s0_.drew, s1_, s2_, s3_, s4_, s5_, s6_⟩
          clear s0_ s1_ s2_ s3_ s4_ s5_ s6_
          refine take_yes (i := 0) (d := 48) (v := ?_) _ rfl rfl (by kernel_rfl) (by kernel_rfl) (by kernel_rfl) (fun _ _ _ _ h => h) (by rfl) ?_ (by assumption) ?_
          rotate_left 1
          · ((intro w hSw; (try dsimp only at hSw); go_simp) <;> (try with_reducible rfl))
          (try simp only [Act.put, List.setIfInBounds_toArray, List.set_cons_zero, List.set_cons_succ])
          refine take_yes (i := 1) (d := 49) (v := ?_) _ rfl rfl (by kernel_rfl) (by kernel_rfl) (by kernel_rfl) (fun _ _ _ _ h => h) (by rfl) ?_ (by assumption) ?_
          rotate_left 1
          · ((intro w hSw; (try dsimp only at hSw); go_simp) <;> (try with_reducible rfl))
          (try simp only [Act.put, List.setIfInBounds_toArray, List.set_cons_zero, List.set_cons_succ])
          refine take_yes (i := 2) (d := 50) (v := ?_) _ rfl rfl (by kernel_rfl) (by kernel_rfl) (by kernel_rfl) (fun _ _ _ _ h => h) (by rfl) ?_ (by assumption) ?_
          rotate_left 1
          · ((intro w hSw; (try dsimp only at hSw); go_simp) <;> (try with_reducible rfl))
          (try simp only [Act.put, List.setIfInBounds_toArray, List.set_cons_zero, List.set_cons_succ])
          refine take_yes (i := 3) (d := 51) (v := ?_) _ rfl rfl (by kernel_rfl) (by kernel_rfl) (by kernel_rfl) (fun _ _ _ _ h => h) (by rfl) ?_ (by assumption) ?_
          rotate_left 1
          · ((intro w hSw; (try dsimp only at hSw); go_simp) <;> (try with_reducible rfl))
          (try simp only [Act.put, List.setIfInBounds_toArray, List.set_cons_zero, List.set_cons_succ])
          refine take_yes (i := 4) (d := 52) (v := ?_) _ rfl rfl (by kernel_rfl) (by kernel_rfl) (by kernel_rfl) (fun _ _ _ _ h => h) (by rfl) ?_ (by assumption) ?_
          rotate_left 1
          · ((intro w hSw; (try dsimp only at hSw); go_simp) <;> (try with_reducible rfl))
          (try simp only [Act.put, List.setIfInBounds_toArray, List.set_cons_zero, List.set_cons_succ])
          refine take_yes (i := 6) (d := 54) (v := ?_) _ rfl rfl (by kernel_rfl) (by kernel_rfl) (by kernel_rfl) (fun _ _ _ _ h => h) (by rfl) ?_ (by assumption) ?_
          rotate_left 1
          · ((intro w hSw; (try dsimp only at hSw); go_simp) <;> (try with_reducible rfl))
          (try simp only [Act.put, List.setIfInBounds_toArray, List.set_cons_zero, List.set_cons_succ])
          refine take_yes (i := 7) (d := 55) (v := ?_) _ rfl rfl (by kernel_rfl) (by kernel_rfl) (by kernel_rfl) (fun _ _ _ _ h => h) (by rfl) ?_ (by assumption) ?_
          rotate_left 1
          · ((intro w hSw; (try dsimp only at hSw); go_simp) <;> (try with_reducible rfl))
          (try simp only [Act.put, List.setIfInBounds_toArray, List.set_cons_zero, List.set_cons_succ])
          refine take_yes (i := 8) (d := 56) (v := ?_) _ rfl rfl (by kernel_rfl) (by kernel_rfl) (by kernel_rfl) (fun _ _ _ _ h => h) (by rfl) ?_ (by assumption) ?_
          rotate_left 1
          · ((intro w hSw; (try dsimp only at hSw); go_simp) <;> (try with_reducible rfl))
          (try simp only [Act.put, List.setIfInBounds_toArray, List.set_cons_zero, List.set_cons_succ])
          refine take_yes (i := 9) (d := 57) (v := ?_) _ rfl rfl (by kernel_rfl) (by kernel_rfl) (by kernel_rfl) (fun _ _ _ _ h => h) (by rfl) ?_ (by assumption) ?_
          rotate_left 1
          · ((intro w hSw; (try dsimp only at hSw); go_simp) <;> (try with_reducible rfl))
          (try simp only [Act.put, List.setIfInBounds_toArray, List.set_cons_zero, List.set_cons_succ])
          refine take_yes (i := 11) (d := 59) (v := ?_) _ rfl rfl (by kernel_rfl) (by kernel_rfl) (by kernel_rfl) (fun _ _ _ _ h => h) (by rfl) ?_ (by assumption) ?_
          rotate_left 1
          · ((intro w hSw; (try dsimp only at hSw); go_simp) <;> (try with_reducible rfl))
          (try simp only [Act.put, List.setIfInBounds_toArray, List.set_cons_zero, List.set_cons_succ])
          refine take_yes (i := 12) (d := 60) (v := ?_) _ rfl rfl (by kernel_rfl) (by kernel_rfl) (by kernel_rfl) (fun _ _ _ _ h => h) (by rfl) ?_ (by assumption) ?_
          rotate_left 1
          · ((intro w hSw; (try dsimp only at hSw); go_simp) <;> (try with_reducible rfl))
          (try simp only [Act.put, List.setIfInBounds_toArray, List.set_cons_zero, List.set_cons_succ])
          refine take_yes (i := 13) (d := 61) (v := ?_) _ rfl rfl (by kernel_rfl) (by kernel_rfl) (by kernel_rfl) (fun _ _ _ _ h => h) (by rfl) ?_ (by assumption) ?_
          rotate_left 1
          · ((intro w hSw; (try dsimp only at hSw); go_simp) <;> (try with_reducible rfl))
          (try simp only [Act.put, List.setIfInBounds_toArray, List.set_cons_zero, List.set_cons_succ])
          refine take_yes (i := 14) (d := 62) (v := ?_) _ rfl rfl (by kernel_rfl) (by kernel_rfl) (by kernel_rfl) (fun _ _ _ _ h => h) (by rfl) ?_ (by assumption) ?_
          rotate_left 1
          · ((intro w hSw; (try dsimp only at hSw); go_simp) <;> (try with_reducible rfl))
          (try simp only [Act.put, List.setIfInBounds_toArray, List.set_cons_zero, List.set_cons_succ])
          (refine wpAnyH_ready (rs := [5]) (by kernel_rfl) (by simp) ?_; refine AllReadyH.cons rfl (fun K hK => ?_) AllReadyH.nil; go_simp; go_at_call 134; refine (l15Apart_calls _ _ _ (by omega) (by omega) (by omega) (by omega)).mono ?_; rintro e wd ⟨rfl, rfl⟩; refine hK.out _ _ (by assumption) (fun hHeld2 => ?_); clear hK K hHeld; have hHeld := hHeld2; clear hHeld2; (try simp only [Act.put, List.setIfInBounds_toArray, List.set_cons_zero, List.set_cons_succ]))
          (refine wpAnyH_ready (rs := [10]) (by kernel_rfl) (by simp) ?_; refine AllReadyH.cons rfl (fun K hK => ?_) AllReadyH.nil; go_simp; go_at_call 134; refine (l15Apart_calls _ _ _ (by omega) (by omega) (by omega) (by omega)).mono ?_; rintro e wd ⟨rfl, rfl⟩; refine hK.out _ _ (by assumption) (fun hHeld2 => ?_); clear hK K hHeld; have hHeld := hHeld2; clear hHeld2; (try simp only [Act.put, List.setIfInBounds_toArray, List.set_cons_zero, List.set_cons_succ]))
          (refine wpAnyH_ready (rs := [15]) (by kernel_rfl) (by simp) ?_; refine AllReadyH.cons rfl (fun K hK => ?_) AllReadyH.nil; go_simp; go_at_call 134; refine (l15Apart_calls _ _ _ (by omega) (by omega) (by omega) (by omega)).mono ?_; rintro e wd ⟨rfl, rfl⟩; refine hK.out _ _ (by assumption) (fun hHeld2 => ?_); clear hK K hHeld; have hHeld := hHeld2; clear hHeld2; (try simp only [Act.put, List.setIfInBounds_toArray, List.set_cons_zero, List.set_cons_succ]))
          (refine wpAnyH_ready (rs := [16]) (by kernel_rfl) (by simp) ?_; refine AllReadyH.cons rfl (fun K hK => ?_) AllReadyH.nil; go_simp; go_at_call 133; refine (max_calls _ _ _).mono ?_; rintro e wd ⟨rfl, rfl⟩; refine hK.out _ _ (by assumption) (fun hHeld2 => ?_); clear hK K hHeld; have hHeld := hHeld2; clear hHeld2; (try simp only [Act.put, List.setIfInBounds_toArray, List.set_cons_zero, List.set_cons_succ]))
          (refine wpAnyH_ready (rs := [17]) (by kernel_rfl) (by simp) ?_; refine AllReadyH.cons rfl (fun K hK => ?_) AllReadyH.nil; go_simp; go_at_call 133; refine (max_calls _ _ _).mono ?_; rintro e wd ⟨rfl, rfl⟩; refine hK.out _ _ (by assumption) (fun hHeld2 => ?_); clear hK K hHeld; have hHeld := hHeld2; clear hHeld2; (try simp only [Act.put, List.setIfInBounds_toArray, List.set_cons_zero, List.set_cons_succ]))
          (refine wpAnyH_ready (rs := [18]) (by kernel_rfl) (by simp) ?_; refine AllReadyH.cons rfl (fun K hK => ?_) AllReadyH.nil; go_simp; go_at_call 133; refine (max_calls _ _ _).mono ?_; rintro e wd ⟨rfl, rfl⟩; refine hK.out _ _ (by assumption) (fun hHeld2 => ?_); clear hK K hHeld; have hHeld := hHeld2; clear hHeld2; (try simp only [Act.put, List.setIfInBounds_toArray, List.set_cons_zero, List.set_cons_succ]))
          refine take_yes (i := 19) (d := 9) (v := ?_) _ rfl rfl (by kernel_rfl) (by kernel_rfl) (by kernel_rfl) (fun _ _ _ _ h => h) (by rfl) ?_ (by assumption) ?_
          rotate_left 1
          · ((intro w hSw; (try dsimp only at hSw); go_simp) <;> (try with_reducible rfl))
          (try simp only [Act.put, List.setIfInBounds_toArray, List.set_cons_zero, List.set_cons_succ])
          refine wpAnyH_done (by kernel_rfl) ?_ _
          obtain ⟨z0, z1, z2, z3, z4, z5, z6⟩ := hHeld
          clear z1 z2 z3 z4 z5 z6
          go_wp2
          go_roundw
          case rel => exact ⟨k + 1, by omega, rfl, by go_num, Lib.hid z0⟩
          case measure => simp [intOf]; omega
        · obtain rfl : k = n := by omega
          go_wp2
          exact bodyPost_ret (v := .tuple #[.int .i64 (worst p q h a b d k), .int .i64 0]) (by simp [results, Try.results62, go_sem]) rfl ⟨rfl, HBL.out.trans (hbr.out.mono HBL.out.size)⟩
end Go.Proofs.Ytaanlkdpconfiaa
