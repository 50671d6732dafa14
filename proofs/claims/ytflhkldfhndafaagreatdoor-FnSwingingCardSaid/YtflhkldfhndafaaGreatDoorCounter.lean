/- Counterweight: a hung bell with a further mass at the other side, in the program and in the reference. For all fields. -/
import Derived.Test.YtflhkldfhndafaaGreatDoorSwing
import Derived.Test.YtflhkldfhndafaaGreatDoorRowBase
import Derived.Deep.RegionHeld3
import Derived.StillTailTactics
import Derived.Deep.DeepCutAuto
namespace Go.Proofs.YtflhkldfhndafaaGreatDoor
set_option linter.unusedVariables false
set_option linter.unusedSimpArgs false
open Go.RowKit

def cwM (m a ms ar : Int) : Int := m * a - ms * ar
def cwA (m a ms ar : Int) : Int := nr (cwM m a ms ar) (m + ms)
def cwI (m a f ms ar : Int) : Int := m * a / 1000 * sl a f + ms * ar / 1000 * ar
def cwL (m a f ms ar : Int) : Int := nr (cwI m a f ms ar) (max (cwM m a ms ar / 1000) 1)
def cwF (m a f ms ar : Int) : Int := nr (1000 * cwA m a ms ar) (max (cwL m a f ms ar) 1)
/-- how it comes out: the fields of the result and the code -/
def CwOut (s : ByteArray) (m a f g ms ar : Int) (x0 : ByteArray) (x1 x2 x3 x4 z : Int) : Prop :=
  (hungB s m a f g = false ∧ x0 = ⟨#[]⟩ ∧ x1 = 0 ∧ x2 = 0 ∧ x3 = 0 ∧ x4 = 0 ∧ z = 1) ∨
  (hungB s m a f g = true ∧ (inB ms 1 20000000 && inB ar 1 30000) = false ∧ x0 = ⟨#[]⟩ ∧ x1 = 0 ∧ x2 = 0 ∧ x3 = 0 ∧ x4 = 0 ∧ z = 2) ∨
  (hungB s m a f g = true ∧ (inB ms 1 20000000 && inB ar 1 30000) = true ∧ cwM m a ms ar ≤ 0 ∧ x0 = ⟨#[]⟩ ∧ x1 = 0 ∧ x2 = 0 ∧ x3 = 0 ∧ x4 = 0 ∧ z = 6) ∨
  (hungB s m a f g = true ∧ (inB ms 1 20000000 && inB ar 1 30000) = true ∧ 1 ≤ cwM m a ms ar ∧ hungB s (m + ms) (cwA m a ms ar) (cwF m a f ms ar) g = false ∧ x0 = ⟨#[]⟩ ∧ x1 = 0 ∧ x2 = 0 ∧ x3 = 0 ∧ x4 = 0 ∧ z = 6) ∨
  (hungB s m a f g = true ∧ (inB ms 1 20000000 && inB ar 1 30000) = true ∧ 1 ≤ cwM m a ms ar ∧ hungB s (m + ms) (cwA m a ms ar) (cwF m a f ms ar) g = true ∧ x0 = s ∧ x1 = m + ms ∧ x2 = cwA m a ms ar ∧ x3 = cwF m a f ms ar ∧ x4 = g ∧ z = 0)
theorem cwOut (s : ByteArray) (m a f g ms ar : Int) : ∃ x0 x1 x2 x3 x4 z, CwOut s m a f g ms ar x0 x1 x2 x3 x4 z := by
  unfold CwOut
  cases h1 : hungB s m a f g
  · exact ⟨_, _, _, _, _, _, .inl ⟨rfl, rfl, rfl, rfl, rfl, rfl, rfl⟩⟩
  · cases h2 : (inB ms 1 20000000 && inB ar 1 30000)
    · exact ⟨_, _, _, _, _, _, .inr (.inl ⟨rfl, rfl, rfl, rfl, rfl, rfl, rfl, rfl⟩)⟩
    · by_cases h3 : cwM m a ms ar ≤ 0
      · exact ⟨_, _, _, _, _, _, .inr (.inr (.inl ⟨rfl, rfl, h3, rfl, rfl, rfl, rfl, rfl, rfl⟩))⟩
      · cases h4 : hungB s (m + ms) (cwA m a ms ar) (cwF m a f ms ar) g
        · exact ⟨_, _, _, _, _, _, .inr (.inr (.inr (.inl ⟨rfl, rfl, by omega, rfl, rfl, rfl, rfl, rfl, rfl, rfl⟩)))⟩
        · exact ⟨_, _, _, _, _, _, .inr (.inr (.inr (.inr ⟨rfl, rfl, by omega, rfl, rfl, rfl, rfl, rfl, rfl, rfl⟩)))⟩
theorem mul_bd {x y X Y : Int} (x0 : 0 ≤ x) (x1 : x ≤ X) (y0 : 0 ≤ y) (y1 : y ≤ Y) : 0 ≤ x * y ∧ x * y ≤ X * Y :=
  ⟨Int.mul_nonneg x0 y0, Int.le_trans (Int.mul_le_mul_of_nonneg_right x1 y0) (Int.mul_le_mul_of_nonneg_left y1 (Int.le_trans x0 x1))⟩
theorem nr_self {a b : Int} (h : 0 ≤ a) (hb : 1 ≤ b) : 0 ≤ nr a b ∧ nr a b ≤ a := by
  refine ⟨nr_nonneg h (by omega), nr_le (by omega) h ?_⟩
  have := Int.mul_le_mul_of_nonneg_left hb h
  omega
/-- the numbers on the way, each between bounds -/
theorem cw_bd {m a f ms ar : Int} (m0 : 1 ≤ m) (m1 : m ≤ 20000000) (a0 : 1 ≤ a) (a1 : a ≤ 30000) (f0 : 1 ≤ f) (f1 : f ≤ 1000) (s0 : 1 ≤ ms) (s1 : ms ≤ 20000000) (r0 : 1 ≤ ar) (r1 : ar ≤ 30000) (h : 1 ≤ cwM m a ms ar) :
    (0 ≤ m * a ∧ m * a ≤ 600000000000) ∧ (0 ≤ ms * ar ∧ ms * ar ≤ 600000000000) ∧ (0 ≤ m * a / 1000 * sl a f ∧ m * a / 1000 * sl a f ≤ 18000000000000000) ∧ (0 ≤ ms * ar / 1000 * ar ∧ ms * ar / 1000 * ar ≤ 18000000000000) ∧
    (0 ≤ cwA m a ms ar ∧ cwA m a ms ar ≤ 600000000000) ∧ (0 ≤ cwI m a f ms ar ∧ cwI m a f ms ar ≤ 18018000000000000) ∧ (0 ≤ cwL m a f ms ar ∧ cwL m a f ms ar ≤ 18018000000000000) ∧ cwM m a ms ar ≤ 600000000000 := by
  have hM := mul_bd (x := m) (y := a) (by omega) m1 (by omega) a1
  have hK := mul_bd (x := ms) (y := ar) (by omega) s1 (by omega) r1
  obtain ⟨l0, l1⟩ := sl_bd a0 a1 f0 f1
  have hP := mul_bd (x := m * a / 1000) (y := sl a f) (X := 600000000) (by omega) (by omega) (by omega) l1
  have hQ := mul_bd (x := ms * ar / 1000) (y := ar) (X := 600000000) (by omega) (by omega) (by omega) r1
  have hm : cwM m a ms ar ≤ 600000000000 := by unfold cwM; omega
  have hA := nr_self (a := cwM m a ms ar) (b := m + ms) (by omega) (by omega)
  have hI : 0 ≤ cwI m a f ms ar ∧ cwI m a f ms ar ≤ 18018000000000000 := by unfold cwI; omega
  have hL := nr_self (a := cwI m a f ms ar) (b := max (cwM m a ms ar / 1000) 1) hI.1 (by omega)
  refine ⟨by omega, by omega, by omega, by omega, ?_, hI, ?_, hm⟩
  · unfold cwA; omega
  · unfold cwL; omega
set_option maxHeartbeats 4000000 in
theorem counter_late (s : ByteArray) (m a f g ms ar : Int) (x0 : ByteArray) (x1 x2 x3 x4 z : Int) (o : Bool) (w : World) (hs : s.size ≤ maxLen) (hv : hungB s m a f g = true) (hr : (inB ms 1 20000000 && inB ar 1 30000) = true) (hm : 1 ≤ cwM m a ms ar)
    (ho : hungB s (m + ms) (cwA m a ms ar) (cwF m a f ms ar) g = o)
    (hx : (o = false ∧ x0 = ⟨#[]⟩ ∧ x1 = 0 ∧ x2 = 0 ∧ x3 = 0 ∧ x4 = 0 ∧ z = 6) ∨ (o = true ∧ x0 = s ∧ x1 = m + ms ∧ x2 = cwA m a ms ar ∧ x3 = cwF m a f ms ar ∧ x4 = g ∧ z = 0)) :
    Calls Tryz.prog 14 #[.agg #[.string s, .int .i64 m, .int .i64 a, .int .i64 f, .int .i64 g], .int .i64 ms, .int .i64 ar] w fun e w' => e = .returned (.tuple #[.agg #[.string x0, .int .i64 x1, .int .i64 x2, .int .i64 x3, .int .i64 x4], .int .i64 z]) ∧ Below w.heap.size w w' := by
  have hB := Below.refl w.heap.size w
  have h1 : inB ms 1 20000000 = true := by simp only [Bool.and_eq_true] at hr; exact hr.1
  have h2 : inB ar 1 30000 = true := by simp only [Bool.and_eq_true] at hr; exact hr.2
  obtain ⟨-, ⟨m0, m1⟩, ⟨a0, a1⟩, ⟨f0, f1⟩, -⟩ := hungB_of hv
  obtain ⟨s0, s1⟩ := inB_iff.1 h1
  obtain ⟨r0, r1⟩ := inB_iff.1 h2
  obtain ⟨l0, l1⟩ := sl_bd a0 a1 f0 f1
  obtain ⟨⟨b0, b1⟩, ⟨b2, b3⟩, ⟨b4, b5⟩, ⟨b6, b7⟩, ⟨b8, b9⟩, ⟨b10, b11⟩, ⟨b12, b13⟩, b14⟩ := cw_bd m0 m1 a0 a1 f0 f1 s0 s1 r0 r1 hm
  have HL := Lib.hid (show ∀ W, Calls Tryz.prog 27 #[.agg #[.string s, .int .i64 m, .int .i64 a, .int .i64 f, .int .i64 g]] W (fun e w' => e = .returned (.int .i64 (sl a f)) ∧ Below W.heap.size W w') from fun W => swingLength_calls s m a f g W a0 a1 f0 f1)
  have HN1 := Lib.hid (show ∀ W, Calls Tryz.prog 26 #[.int .i64 (m * a - ms * ar), .int .i64 (m + ms)] W (fun e w' => e = .returned (.int .i64 (cwA m a ms ar)) ∧ ∃ n, w' = W.drewN n) from fun W => nearest_calls _ _ W (by omega) (by omega) (by unfold cwM at hm; omega) (by unfold cwM at b14; omega))
  have N2 : ∀ q W, max ((m * a - ms * ar) / 1000) 1 = q → Calls Tryz.prog 26 #[.int .i64 (m * a / 1000 * sl a f + ms * ar / 1000 * ar), .int .i64 q] W (fun e w' => e = .returned (.int .i64 (cwL m a f ms ar)) ∧ ∃ n, w' = W.drewN n) := fun q W hq => by
    subst hq
    exact nearest_calls _ _ W (by omega) (by unfold cwM at b14; omega) (by unfold cwI at b10; omega) (by unfold cwI at b11; omega)
  have N3 : ∀ q W, max (cwL m a f ms ar) 1 = q → Calls Tryz.prog 26 #[.int .i64 (1000 * cwA m a ms ar), .int .i64 q] W (fun e w' => e = .returned (.int .i64 (cwF m a f ms ar)) ∧ ∃ n, w' = W.drewN n) := fun q W hq => by
    subst hq
    exact nearest_calls _ _ W (by omega) (by omega) (by omega) (by omega)
  have HN2 := Lib.hid N2
  have HN3 := Lib.hid N3
  clear N2 N3
  unfold cwI at b10 b11
  unfold cwM at hm b14
  generalize cwA m a ms ar = A2 at *
  generalize cwL m a f ms ar = LE at *
  generalize cwF m a f ms ar = FO at *
  generalize sl a f = L at *
  have HE := Lib.hid (show (IntKind.i64.wrap (m * a) = m * a ∧ IntKind.i64.wrap (ms * ar) = ms * ar ∧ IntKind.i64.wrap ((m * a).tdiv 1000) = m * a / 1000 ∧ IntKind.i64.wrap (m * a / 1000 * L) = m * a / 1000 * L ∧ IntKind.i64.wrap ((ms * ar).tdiv 1000) = ms * ar / 1000 ∧ IntKind.i64.wrap (ms * ar / 1000 * ar) = ms * ar / 1000 * ar ∧ IntKind.i64.wrap (m * a / 1000 * L + ms * ar / 1000 * ar) = m * a / 1000 * L + ms * ar / 1000 * ar) from
    ⟨IntWalk.i64_in _ ⟨by omega, by omega⟩, IntWalk.i64_in _ ⟨by omega, by omega⟩, quo_nonneg (by omega) (by omega) (by omega), IntWalk.i64_in _ ⟨by omega, by omega⟩, quo_nonneg (by omega) (by omega) (by omega), IntWalk.i64_in _ ⟨by omega, by omega⟩, IntWalk.i64_in _ ⟨by omega, by omega⟩⟩)
  have HO := Lib.hid ho
  have HX := Lib.hid hx
  clear hr ho hx
  go_enter Tryz.func14, Tryz.ntmps14
  go_wp2_with (first | (go_at_call 19; refine (validHung_calls _ _ _ _ _ _ hs).mono ?_; rintro e w1 ⟨rfl, hb⟩; have hb1 := Lib.hid hb; obtain ⟨hc, hf⟩ := bcell hb; have hz := hb.size; (try simp at hz); (try have hl0 : w.heap.size < w1.heap.size := by omega); (try have hl1 : w.heap.size + 1 < w1.heap.size := by omega); (try have hl2 : w.heap.size + 1 + 1 < w1.heap.size := by omega); replace hB : Below w.heap.size w w1 := Below.trans (by go_grown) (hb.mono (by go_size)); clear hb) | (go_at_call 24; refine (isMass_calls _ _).mono ?_; rintro e w1 ⟨rfl, rfl⟩) | (go_at_call 25; refine (within_calls _ _ _ _).mono ?_; rintro e w1 ⟨rfl, rfl⟩))
  go_wp2_with (go_at_call 26; with_reducible refine (HN1.out _).mono ?_; rintro e w2 ⟨rfl, n2, rfl⟩)
  have B3 : Blk w1 w.heap.size 27 #[.string s, .int .i64 m, .int .i64 a, .int .i64 f, .int .i64 g] := ((Blk.new w _ _).alloc _).below hb1.out (by simp <;> omega)
  have B6 : Blk w1 (w.heap.size + 1) 27 #[.string ⟨#[]⟩, .int .i64 0, .int .i64 0, .int .i64 0, .int .i64 0] := (Blk.new2 w _ _ _).below hb1.out (by simp)
  have B9 : Blk _ w1.heap.size _ _ := ((Blk.new w1 27 #[.string s, .int .i64 (m + ms), .int .i64 a, .int .i64 f, .int .i64 g]).drewN n2).set_ 2 (.int .i64 A2)
  clear hc hf
  obtain ⟨e1, e2, e3, e4, e5, e6, e7⟩ := HE.out
  refine wp_gen (fun W0 hW0 => ?_)
  have s0_ : Below w.heap.size w W0 := (by rw [hW0]; exact hB.trans (((below_drewN ((Below.refl _ w1).alloc (Nat.le_refl _) _) n2).setCell (Nat.le_refl _) _).mono hB.size))
  have s1_ : w1.heap.size < W0.heap.size := (by rw [hW0]; exact B9.lt)
  have s2_ : Blk W0 w.heap.size 27 #[.string s, .int .i64 m, .int .i64 a, .int .i64 f, .int .i64 g] := (by rw [hW0]; exact B3.below ((below_drewN ((Below.refl _ w1).alloc (Nat.le_refl _) _) n2).setCell (Nat.le_refl _) _) hl0)
  have s3_ : Blk W0 (w.heap.size + 1) 27 #[.string ⟨#[]⟩, .int .i64 0, .int .i64 0, .int .i64 0, .int .i64 0] := (by rw [hW0]; exact B6.below ((below_drewN ((Below.refl _ w1).alloc (Nat.le_refl _) _) n2).setCell (Nat.le_refl _) _) hl1)
  have s4_ : Blk W0 w1.heap.size 27 #[.string s, .int .i64 (m + ms), .int .i64 A2, .int .i64 f, .int .i64 g] := (by rw [hW0]; exact B9)
  have s5_ : W0.cell? ⟨w.heap.size, 0, none⟩ = some (.string s) := (s2_.cell 0).trans rfl
  have s6_ : W0.cell? ⟨w.heap.size, 1, none⟩ = some (.int .i64 m) := (s2_.cell 1).trans rfl
  have s7_ : W0.cell? ⟨w.heap.size, 2, none⟩ = some (.int .i64 a) := (s2_.cell 2).trans rfl
  have s8_ : W0.cell? ⟨w.heap.size, 3, none⟩ = some (.int .i64 f) := (s2_.cell 3).trans rfl
  have s9_ : W0.cell? ⟨w.heap.size, 4, none⟩ = some (.int .i64 g) := (s2_.cell 4).trans rfl
  clear hW0
  refine wp_region_held_drew (S := fun w' => Below w.heap.size w w' ∧ w1.heap.size < w'.heap.size ∧ Blk w' w.heap.size 27 #[.string s, .int .i64 m, .int .i64 a, .int .i64 f, .int .i64 g] ∧ Blk w' (w.heap.size + 1) 27 #[.string ⟨#[]⟩, .int .i64 0, .int .i64 0, .int .i64 0, .int .i64 0] ∧ Blk w' w1.heap.size 27 #[.string s, .int .i64 (m + ms), .int .i64 A2, .int .i64 f, .int .i64 g] ∧ w'.cell? ⟨w.heap.size, 0, none⟩ = some (.string s) ∧ w'.cell? ⟨w.heap.size, 1, none⟩ = some (.int .i64 m) ∧ w'.cell? ⟨w.heap.size, 2, none⟩ = some (.int .i64 a) ∧ w'.cell? ⟨w.heap.size, 3, none⟩ = some (.int .i64 f) ∧ w'.cell? ⟨w.heap.size, 4, none⟩ = some (.int .i64 g)) (by kernel_rfl) ?_ (fun hHeld => ?_)
  · exact ⟨s0_.drew, s1_, s2_, s3_, s4_, s5_, s6_, s7_, s8_, s9_⟩
  clear s0_ s1_ s2_ s3_ s4_ s5_ s6_ s7_ s8_ s9_
  refine take_yes (i := 0) (d := 48) (v := ?_) _ rfl rfl (by kernel_rfl) (by kernel_rfl) (by kernel_rfl) (fun _ _ _ _ h => h) (by rfl) ?_ (by assumption) ?_
  rotate_left 1
  · ((intro w hSw; (try dsimp only at hSw); go_simp) <;> (try with_reducible rfl))
  (try simp only [Act.put, List.setIfInBounds_toArray, List.set_cons_zero, List.set_cons_succ])
  refine take_yes (i := 1) (d := 49) (v := ?_) _ rfl rfl (by kernel_rfl) (by kernel_rfl) (by kernel_rfl) (fun _ _ _ _ h => h) (by rfl) ?_ (by assumption) ?_
  rotate_left 1
  · ((intro w hSw; (try dsimp only at hSw); go_simp) <;> (try with_reducible rfl))
  (try simp only [Act.put, List.setIfInBounds_toArray, List.set_cons_zero, List.set_cons_succ])
  refine take_yes (i := 2) (d := 50) (v := ?_) _ rfl rfl (by kernel_rfl) (by kernel_rfl) (by kernel_rfl) (fun _ _ _ _ h => h) (by rfl) ?_ (by assumption) ?_
  rotate_left 1
  · ((intro w hSw; (try dsimp only at hSw); go_simp) <;> (try with_reducible rfl))
  (try simp only [Act.put, List.setIfInBounds_toArray, List.set_cons_zero, List.set_cons_succ])
  refine take_yes (i := 3) (d := 51) (v := ?_) _ rfl rfl (by kernel_rfl) (by kernel_rfl) (by kernel_rfl) (fun _ _ _ _ h => h) (by rfl) ?_ (by assumption) ?_
  rotate_left 1
  · ((intro w hSw; (try dsimp only at hSw); go_simp) <;> (try with_reducible rfl))
  (try simp only [Act.put, List.setIfInBounds_toArray, List.set_cons_zero, List.set_cons_succ])
  refine take_yes (i := 4) (d := 52) (v := ?_) _ rfl rfl (by kernel_rfl) (by kernel_rfl) (by kernel_rfl) (fun _ _ _ _ h => h) (by rfl) ?_ (by assumption) ?_
  rotate_left 1
  · ((intro w hSw; (try dsimp only at hSw); go_simp) <;> (try with_reducible rfl))
  (try simp only [Act.put, List.setIfInBounds_toArray, List.set_cons_zero, List.set_cons_succ])
  refine take_yes (i := 5) (d := 53) (v := ?_) _ rfl rfl (by kernel_rfl) (by kernel_rfl) (by kernel_rfl) (fun _ _ _ _ h => h) (by rfl) ?_ (by assumption) ?_
  rotate_left 1
  · ((intro w hSw; (try dsimp only at hSw); go_simp) <;> (try with_reducible rfl))
  (try simp only [Act.put, List.setIfInBounds_toArray, List.set_cons_zero, List.set_cons_succ])
  refine take_yes (i := 6) (d := 54) (v := ?_) _ rfl rfl (by kernel_rfl) (by kernel_rfl) (by kernel_rfl) (fun _ _ _ _ h => h) (by rfl) ?_ (by assumption) ?_
  rotate_left 1
  · ((intro w hSw; (try dsimp only at hSw); go_simp) <;> (try with_reducible rfl))
  (try simp only [Act.put, List.setIfInBounds_toArray, List.set_cons_zero, List.set_cons_succ])
  refine take_yes (i := 9) (d := 57) (v := ?_) _ rfl rfl (by kernel_rfl) (by kernel_rfl) (by kernel_rfl) (fun _ _ _ _ h => h) (by rfl) ?_ (by assumption) ?_
  rotate_left 1
  · ((intro w hSw; (try dsimp only at hSw); go_simp) <;> (try with_reducible rfl))
  (try simp only [Act.put, List.setIfInBounds_toArray, List.set_cons_zero, List.set_cons_succ])
  refine take_yes (i := 10) (d := 58) (v := ?_) _ rfl rfl (by kernel_rfl) (by kernel_rfl) (by kernel_rfl) (fun _ _ _ _ h => h) (by rfl) ?_ (by assumption) ?_
  rotate_left 1
  · ((intro w hSw; (try dsimp only at hSw); go_simp) <;> (try with_reducible rfl))
  (try simp only [Act.put, List.setIfInBounds_toArray, List.set_cons_zero, List.set_cons_succ])
  refine take_yes (i := 11) (d := 59) (v := ?_) _ rfl rfl (by kernel_rfl) (by kernel_rfl) (by kernel_rfl) (fun _ _ _ _ h => h) (by rfl) ?_ (by assumption) ?_
  rotate_left 1
  · ((intro w hSw; (try dsimp only at hSw); go_simp) <;> (try with_reducible rfl))
  (try simp only [Act.put, List.setIfInBounds_toArray, List.set_cons_zero, List.set_cons_succ])
  refine take_yes (i := 12) (d := 60) (v := ?_) _ rfl rfl (by kernel_rfl) (by kernel_rfl) (by kernel_rfl) (fun _ _ _ _ h => h) (by rfl) ?_ (by assumption) ?_
  rotate_left 1
  · ((intro w hSw; (try dsimp only at hSw); go_simp) <;> (try with_reducible rfl))
  (try simp only [Act.put, List.setIfInBounds_toArray, List.set_cons_zero, List.set_cons_succ])
  refine take_yes (i := 13) (d := 61) (v := ?_) _ rfl rfl (by kernel_rfl) (by kernel_rfl) (by kernel_rfl) (fun _ _ _ _ h => h) (by rfl) ?_ (by assumption) ?_
  rotate_left 1
  · ((intro w hSw; (try dsimp only at hSw); go_simp) <;> (try with_reducible rfl))
  (try simp only [Act.put, List.setIfInBounds_toArray, List.set_cons_zero, List.set_cons_succ])
  refine take_yes (i := 14) (d := 62) (v := ?_) _ rfl rfl (by kernel_rfl) (by kernel_rfl) (by kernel_rfl) (fun _ _ _ _ h => h) (by rfl) ?_ (by assumption) ?_
  rotate_left 1
  · ((intro w hSw; (try dsimp only at hSw); go_simp) <;> (try with_reducible rfl))
  (try simp only [Act.put, List.setIfInBounds_toArray, List.set_cons_zero, List.set_cons_succ])
  (refine wpAnyH_ready (rs := [7]) (by kernel_rfl) (by simp) ?_; refine AllReadyH.cons rfl (fun K hK => ?_) AllReadyH.nil; go_simp; go_at_call 27; refine (HL.out _).mono ?_; rintro e wd ⟨rfl, hb⟩; refine hK.out _ _ (by obtain ⟨x0_, x1_, x2_, x3_, x4_, x5_, x6_, x7_, x8_, x9_⟩ := hHeld; exact ⟨x0_.trans (hb.mono x0_.size), Nat.lt_of_lt_of_le x1_ hb.size, x2_.keep hb, x3_.keep hb, x4_.keep hb, cell_keep hb x5_, cell_keep hb x6_, cell_keep hb x7_, cell_keep hb x8_, cell_keep hb x9_⟩) (fun hHeld2 => ?_); clear hK K hHeld hb; have hHeld := hHeld2; clear hHeld2; (try simp only [Act.put, List.setIfInBounds_toArray, List.set_cons_zero, List.set_cons_succ]))
  refine take_yes (i := 8) (d := 56) (v := ?_) _ rfl rfl (by kernel_rfl) (by kernel_rfl) (by kernel_rfl) (fun _ _ _ _ h => h) (by rfl) ?_ (by assumption) ?_
  rotate_left 1
  · ((intro w hSw; (try dsimp only at hSw); go_simp) <;> (try with_reducible rfl))
  (try simp only [Act.put, List.setIfInBounds_toArray, List.set_cons_zero, List.set_cons_succ])
  refine take_yes (i := 15) (d := 63) (v := ?_) _ rfl rfl (by kernel_rfl) (by kernel_rfl) (by kernel_rfl) (fun _ _ _ _ h => h) (by rfl) ?_ (by assumption) ?_
  rotate_left 1
  · ((intro w hSw; (try dsimp only at hSw); go_simp) <;> (try with_reducible rfl))
  (try simp only [Act.put, List.setIfInBounds_toArray, List.set_cons_zero, List.set_cons_succ])
  refine take_yes (i := 16) (d := 10) (v := ?_) _ rfl rfl (by kernel_rfl) (by kernel_rfl) (by kernel_rfl) (fun _ _ _ _ h => h) (by rfl) ?_ (by assumption) ?_
  rotate_left 1
  · ((intro w hSw; (try dsimp only at hSw); go_simp) <;> (try with_reducible rfl))
  (try simp only [Act.put, List.setIfInBounds_toArray, List.set_cons_zero, List.set_cons_succ])
  refine wpAnyH_done (by kernel_rfl) ?_ _
  obtain ⟨z0, z1, z2, z3, z4, z5, z6, z7, z8, z9⟩ := hHeld
  have y0 := (z4.cell 0).trans rfl
  have y1 := (z4.cell 1).trans rfl
  have y2 := (z4.cell 2).trans rfl
  have y3 := (z4.cell 3).trans rfl
  have y4 := (z4.cell 4).trans rfl
  have yf9 := z4.frozen
  have hl3 := z3.lt
  have hb0 := Lib.hid z0
  have C6 := Lib.hid z3
  have C9 := Lib.hid z4
  clear e1 e2 e3 e4 e5 e6 e7 B3 B6 B9 z0 z2 z3 z4 z5 z6 z7 z8 z9
  rcases HX.out with ⟨rfl, rfl, rfl, rfl, rfl, rfl, rfl⟩ | ⟨rfl, rfl, rfl, rfl, rfl, rfl, rfl⟩
  all_goals
    clear HX
    go_wp2_with (first
      | (go_at_call 26; with_reducible refine (HN2.out _ _ (by omega)).mono ?_; rintro e w2 ⟨rfl, n3, rfl⟩)
      | (go_at_call 26; with_reducible refine (HN3.out _ _ (by omega)).mono ?_; rintro e w2 ⟨rfl, n4, rfl⟩)
      | (go_at_call 19; refine (validHung_calls _ _ _ _ _ _ hs).mono ?_; simp only [HO.out]; rintro e w3 ⟨rfl, hb⟩; have D6 := ((C6.out.drewN _).far (by simp <;> omega) _).keep hb; have D9 := ((C9.out.drewN _).set_ _ _).keep hb; have hbz := Lib.hid (((below_drewN hb0.out _).setCell (by simp <;> omega) _).trans (hb.mono (by simp <;> omega))); clear hb; have d0 := (D6.cell 0).trans rfl; have d1 := (D6.cell 1).trans rfl; have d2 := (D6.cell 2).trans rfl; have d3 := (D6.cell 3).trans rfl; have d4 := (D6.cell 4).trans rfl; have df := D6.frozen; have d5 := (D9.cell 0).trans rfl; have d6 := (D9.cell 1).trans rfl; have d7 := (D9.cell 2).trans rfl; have d8 := (D9.cell 3).trans rfl; have d9 := (D9.cell 4).trans rfl; clear D6 D9 C6 C9))
  all_goals first
    | exact bodyPost_ret (v := .tuple #[.agg #[.string ⟨#[]⟩, .int .i64 0, .int .i64 0, .int .i64 0, .int .i64 0], .int .i64 6]) (by simp [results, Tryz.results14, go_sem, d0, d1, d2, d3, d4]) rfl ⟨rfl, ((((hbz.out.setCell (by simp) _).setCell (by simp) _).setCell (by simp) _).setCell (by simp) _).setCell (by simp) _⟩
    | exact bodyPost_ret (v := .tuple #[.agg #[.string x0, .int .i64 (m + ms), .int .i64 x2, .int .i64 x3, .int .i64 x4], .int .i64 0]) (by simp [results, Tryz.results14, go_sem, d0, d1, d2, d3, d4]) rfl ⟨rfl, ((((hbz.out.setCell (by simp) _).setCell (by simp) _).setCell (by simp) _).setCell (by simp) _).setCell (by simp) _⟩
set_option maxHeartbeats 4000000 in
theorem counter_calls (s : ByteArray) (m a f g ms ar : Int) (x0 : ByteArray) (x1 x2 x3 x4 z : Int) (w : World) (hs : s.size ≤ maxLen) (hx : CwOut s m a f g ms ar x0 x1 x2 x3 x4 z) :
    Calls Tryz.prog 14 #[.agg #[.string s, .int .i64 m, .int .i64 a, .int .i64 f, .int .i64 g], .int .i64 ms, .int .i64 ar] w fun e w' => e = .returned (.tuple #[.agg #[.string x0, .int .i64 x1, .int .i64 x2, .int .i64 x3, .int .i64 x4], .int .i64 z]) ∧ Below w.heap.size w w' := by
  have hB := Below.refl w.heap.size w
  rcases hx with ⟨hv, rfl, rfl, rfl, rfl, rfl, rfl⟩ | ⟨hv, hr, rfl, rfl, rfl, rfl, rfl, rfl⟩ | ⟨hv, hr, hm, rfl, rfl, rfl, rfl, rfl, rfl⟩ | ⟨hv, hr, hm, ho, hx⟩ | ⟨hv, hr, hm, ho, hx⟩
  · go_enter Tryz.func14, Tryz.ntmps14
    go_wp2_with (first | (go_at_call 19; refine (validHung_calls _ _ _ _ _ _ hs).mono ?_; rintro e w1 ⟨rfl, hb⟩; obtain ⟨hc, hf⟩ := bcell hb; have hz := hb.size; (try simp at hz); (try have hl0 : w.heap.size < w1.heap.size := by omega); (try have hl1 : w.heap.size + 1 < w1.heap.size := by omega); (try have hl2 : w.heap.size + 1 + 1 < w1.heap.size := by omega); replace hB : Below w.heap.size w w1 := Below.trans (by go_grown) (hb.mono (by go_size)); clear hb) | (go_at_call 24; refine (isMass_calls _ _).mono ?_; rintro e w1 ⟨rfl, rfl⟩) | (go_at_call 25; refine (within_calls _ _ _ _).mono ?_; rintro e w1 ⟨rfl, rfl⟩))
    have k0 : w1.cell? ⟨w.heap.size + 1, 0, none⟩ = some (.string ⟨#[]⟩) := (hc _ _ (by simp)).trans (by simp)
    have k1 : w1.cell? ⟨w.heap.size + 1, 1, none⟩ = some (.int .i64 0) := (hc _ _ (by simp)).trans (by simp)
    have k2 : w1.cell? ⟨w.heap.size + 1, 2, none⟩ = some (.int .i64 0) := (hc _ _ (by simp)).trans (by simp)
    have k3 : w1.cell? ⟨w.heap.size + 1, 3, none⟩ = some (.int .i64 0) := (hc _ _ (by simp)).trans (by simp)
    have k4 : w1.cell? ⟨w.heap.size + 1, 4, none⟩ = some (.int .i64 0) := (hc _ _ (by simp)).trans (by simp)
    refine bodyPost_ret (v := .tuple #[.agg #[.string ⟨#[]⟩, .int .i64 0, .int .i64 0, .int .i64 0, .int .i64 0], .int .i64 1]) (by simp [results, Tryz.results14, go_sem, k0, k1, k2, k3, k4]) rfl ⟨rfl, ?_⟩
    go_grown
  · cases h1 : inB ms 1 20000000
    · go_enter Tryz.func14, Tryz.ntmps14
      go_wp2_with (first | (go_at_call 19; refine (validHung_calls _ _ _ _ _ _ hs).mono ?_; rintro e w1 ⟨rfl, hb⟩; obtain ⟨hc, hf⟩ := bcell hb; have hz := hb.size; (try simp at hz); (try have hl0 : w.heap.size < w1.heap.size := by omega); (try have hl1 : w.heap.size + 1 < w1.heap.size := by omega); (try have hl2 : w.heap.size + 1 + 1 < w1.heap.size := by omega); replace hB : Below w.heap.size w w1 := Below.trans (by go_grown) (hb.mono (by go_size)); clear hb) | (go_at_call 24; refine (isMass_calls _ _).mono ?_; rintro e w1 ⟨rfl, rfl⟩) | (go_at_call 25; refine (within_calls _ _ _ _).mono ?_; rintro e w1 ⟨rfl, rfl⟩))
      have k0 : w1.cell? ⟨w.heap.size + 1, 0, none⟩ = some (.string ⟨#[]⟩) := (hc _ _ (by simp)).trans (by simp)
      have k1 : w1.cell? ⟨w.heap.size + 1, 1, none⟩ = some (.int .i64 0) := (hc _ _ (by simp)).trans (by simp)
      have k2 : w1.cell? ⟨w.heap.size + 1, 2, none⟩ = some (.int .i64 0) := (hc _ _ (by simp)).trans (by simp)
      have k3 : w1.cell? ⟨w.heap.size + 1, 3, none⟩ = some (.int .i64 0) := (hc _ _ (by simp)).trans (by simp)
      have k4 : w1.cell? ⟨w.heap.size + 1, 4, none⟩ = some (.int .i64 0) := (hc _ _ (by simp)).trans (by simp)
      refine bodyPost_ret (v := .tuple #[.agg #[.string ⟨#[]⟩, .int .i64 0, .int .i64 0, .int .i64 0, .int .i64 0], .int .i64 2]) (by simp [results, Tryz.results14, go_sem, k0, k1, k2, k3, k4]) rfl ⟨rfl, ?_⟩
      go_grown
    · have h2 : inB ar 1 30000 = false := by rw [h1] at hr; exact hr
      clear hr
      go_enter Tryz.func14, Tryz.ntmps14
      go_wp2_with (first | (go_at_call 19; refine (validHung_calls _ _ _ _ _ _ hs).mono ?_; rintro e w1 ⟨rfl, hb⟩; obtain ⟨hc, hf⟩ := bcell hb; have hz := hb.size; (try simp at hz); (try have hl0 : w.heap.size < w1.heap.size := by omega); (try have hl1 : w.heap.size + 1 < w1.heap.size := by omega); (try have hl2 : w.heap.size + 1 + 1 < w1.heap.size := by omega); replace hB : Below w.heap.size w w1 := Below.trans (by go_grown) (hb.mono (by go_size)); clear hb) | (go_at_call 24; refine (isMass_calls _ _).mono ?_; rintro e w1 ⟨rfl, rfl⟩) | (go_at_call 25; refine (within_calls _ _ _ _).mono ?_; rintro e w1 ⟨rfl, rfl⟩))
      have k0 : w1.cell? ⟨w.heap.size + 1, 0, none⟩ = some (.string ⟨#[]⟩) := (hc _ _ (by simp)).trans (by simp)
      have k1 : w1.cell? ⟨w.heap.size + 1, 1, none⟩ = some (.int .i64 0) := (hc _ _ (by simp)).trans (by simp)
      have k2 : w1.cell? ⟨w.heap.size + 1, 2, none⟩ = some (.int .i64 0) := (hc _ _ (by simp)).trans (by simp)
      have k3 : w1.cell? ⟨w.heap.size + 1, 3, none⟩ = some (.int .i64 0) := (hc _ _ (by simp)).trans (by simp)
      have k4 : w1.cell? ⟨w.heap.size + 1, 4, none⟩ = some (.int .i64 0) := (hc _ _ (by simp)).trans (by simp)
      refine bodyPost_ret (v := .tuple #[.agg #[.string ⟨#[]⟩, .int .i64 0, .int .i64 0, .int .i64 0, .int .i64 0], .int .i64 2]) (by simp [results, Tryz.results14, go_sem, k0, k1, k2, k3, k4]) rfl ⟨rfl, ?_⟩
      go_grown
  · obtain ⟨-, ⟨m0, m1⟩, ⟨a0, a1⟩, -, -⟩ := hungB_of hv
    have h1 : inB ms 1 20000000 = true := by simp only [Bool.and_eq_true] at hr; exact hr.1
    have h2 : inB ar 1 30000 = true := by simp only [Bool.and_eq_true] at hr; exact hr.2
    obtain ⟨s0, s1⟩ := inB_iff.1 h1
    obtain ⟨r0, r1⟩ := inB_iff.1 h2
    obtain ⟨b0, b1⟩ := mul_bd (x := m) (y := a) (by omega) m1 (by omega) a1
    obtain ⟨b2, b3⟩ := mul_bd (x := ms) (y := ar) (by omega) s1 (by omega) r1
    unfold cwM at hm
    have e1 : IntKind.i64.wrap (m * a) = m * a := IntWalk.i64_in _ ⟨by omega, by omega⟩
    have e2 : IntKind.i64.wrap (ms * ar) = ms * ar := IntWalk.i64_in _ ⟨by omega, by omega⟩
    have e3 : IntKind.i64.wrap (m * a - ms * ar) = m * a - ms * ar := IntWalk.i64_in _ ⟨by omega, by omega⟩
    clear hr
    go_enter Tryz.func14, Tryz.ntmps14
    go_wp2_with (first | (go_at_call 19; refine (validHung_calls _ _ _ _ _ _ hs).mono ?_; rintro e w1 ⟨rfl, hb⟩; obtain ⟨hc, hf⟩ := bcell hb; have hz := hb.size; (try simp at hz); (try have hl0 : w.heap.size < w1.heap.size := by omega); (try have hl1 : w.heap.size + 1 < w1.heap.size := by omega); (try have hl2 : w.heap.size + 1 + 1 < w1.heap.size := by omega); replace hB : Below w.heap.size w w1 := Below.trans (by go_grown) (hb.mono (by go_size)); clear hb) | (go_at_call 24; refine (isMass_calls _ _).mono ?_; rintro e w1 ⟨rfl, rfl⟩) | (go_at_call 25; refine (within_calls _ _ _ _).mono ?_; rintro e w1 ⟨rfl, rfl⟩))
    have k0 : w1.cell? ⟨w.heap.size + 1, 0, none⟩ = some (.string ⟨#[]⟩) := (hc _ _ (by simp)).trans (by simp)
    have k1 : w1.cell? ⟨w.heap.size + 1, 1, none⟩ = some (.int .i64 0) := (hc _ _ (by simp)).trans (by simp)
    have k2 : w1.cell? ⟨w.heap.size + 1, 2, none⟩ = some (.int .i64 0) := (hc _ _ (by simp)).trans (by simp)
    have k3 : w1.cell? ⟨w.heap.size + 1, 3, none⟩ = some (.int .i64 0) := (hc _ _ (by simp)).trans (by simp)
    have k4 : w1.cell? ⟨w.heap.size + 1, 4, none⟩ = some (.int .i64 0) := (hc _ _ (by simp)).trans (by simp)
    refine bodyPost_ret (v := .tuple #[.agg #[.string ⟨#[]⟩, .int .i64 0, .int .i64 0, .int .i64 0, .int .i64 0], .int .i64 6]) (by simp [results, Tryz.results14, go_sem, k0, k1, k2, k3, k4]) rfl ⟨rfl, ?_⟩
    go_grown
  · exact counter_late s m a f g ms ar x0 x1 x2 x3 x4 z false w hs hv hr hm ho (.inl ⟨rfl, hx⟩)
  · exact counter_late s m a f g ms ar x0 x1 x2 x3 x4 z true w hs hv hr hm ho (.inr ⟨rfl, hx⟩)
end Go.Proofs.YtflhkldfhndafaaGreatDoor
