/- The period of a hung bell and its strokes in a minute, in the program and in the reference. For every hung bell, where the table of sines reads as its initialiser lays it. -/
import Derived.Test.YtflhkldfhndafaaGreatDoorSwing
import Derived.Test.YtflhkldfhndafaaGreatDoorRoot
import Derived.Test.YtflhkldfhndafaaGreatDoorForce
namespace Go.Proofs.YtflhkldfhndafaaGreatDoor
set_option linter.unusedVariables false
open Go.RowKit

/-- the period for small angles -/
def rtF (a f : Int) : Int := isq (40243 * sl a f / 100)
def qF (g : Int) : Int := sinF (g / 2) * sinF (g / 2) / 1000
/-- the period -/
def perF (a f g : Int) : Int := rtF a f + nr (rtF a f * (16000 * qF g + 9 * qF g * qF g)) 64000000
theorem rtF_bd {a f : Int} (a0 : 1 ≤ a) (a1 : a ≤ 30000) (f0 : 1 ≤ f) (f1 : f ≤ 1000) : 0 ≤ rtF a f ∧ rtF a f ≤ 110000 := by
  obtain ⟨h0, h1⟩ := sl_bd a0 a1 f0 f1
  unfold rtF
  exact ⟨isq_nonneg _, isq_le (by omega) (by omega)⟩
theorem qF_bd (g : Int) : 0 ≤ qF g ∧ qF g ≤ 1000 := by
  obtain ⟨h0, h1⟩ := sinF_bd (g / 2)
  obtain ⟨h2, h3⟩ := mul_box h0 h1 h0 h1
  have h4 : 0 ≤ sinF (g / 2) * sinF (g / 2) := by
    rcases Int.le_total 0 (sinF (g / 2)) with h | h
    · exact Int.mul_nonneg h h
    · rw [← Int.neg_mul_neg]; exact Int.mul_nonneg (by omega) (by omega)
  unfold qF
  omega
theorem per_in {r q : Int} (r0 : 0 ≤ r) (r1 : r ≤ 110000) (q0 : 0 ≤ q) (q1 : q ≤ 1000) : (0 ≤ 9 * q * q ∧ 9 * q * q ≤ 9000000) ∧ (0 ≤ r * (16000 * q + 9 * q * q) ∧ r * (16000 * q + 9 * q * q) ≤ 2750000000000) ∧
    (0 ≤ nr (r * (16000 * q + 9 * q * q)) 64000000 ∧ nr (r * (16000 * q + 9 * q * q)) 64000000 ≤ 43000) := by
  have a1 := Int.mul_le_mul (show 9 * q ≤ 9000 by omega) q1 q0 (by omega)
  have a0 := Int.mul_nonneg (show 0 ≤ 9 * q by omega) q0
  have b1 := Int.mul_le_mul r1 (show 16000 * q + 9 * q * q ≤ 25000000 by omega) (by omega) (by omega)
  have b0 := Int.mul_nonneg r0 (show 0 ≤ 16000 * q + 9 * q * q by omega)
  exact ⟨⟨a0, by omega⟩, ⟨b0, by omega⟩, nr_nonneg b0 (by omega), nr_le (by omega) (by omega) (by omega)⟩
theorem perF_bd {a f : Int} (g : Int) (a0 : 1 ≤ a) (a1 : a ≤ 30000) (f0 : 1 ≤ f) (f1 : f ≤ 1000) : 0 ≤ perF a f g ∧ perF a f g ≤ 153000 := by
  obtain ⟨h0, h1⟩ := rtF_bd a0 a1 f0 f1
  obtain ⟨h2, h3⟩ := qF_bd g
  obtain ⟨_, _, h4, h5⟩ := per_in h0 h1 h2 h3
  unfold perF
  omega

set_option maxHeartbeats 2000000 in
theorem periodOf_calls (s : ByteArray) (m a f g : Int) (w : World) (hT : HasTab w) (a0 : 1 ≤ a) (a1 : a ≤ 30000) (f0 : 1 ≤ f) (f1 : f ≤ 1000) (g0 : 1 ≤ g) (g1 : g ≤ 180) :
    Calls Tryz.prog 20 #[.agg #[.string s, .int .i64 m, .int .i64 a, .int .i64 f, .int .i64 g]] w fun e w' => e = .returned (.int .i64 (perF a f g)) ∧ Below w.heap.size w w' := by
  obtain ⟨h0, h1⟩ := sl_bd a0 a1 f0 f1
  obtain ⟨r0, r1⟩ := rtF_bd a0 a1 f0 f1
  obtain ⟨q0, q1⟩ := qF_bd g
  obtain ⟨⟨p1, p2⟩, ⟨p3, p4⟩, p5, p6⟩ := per_in r0 r1 q0 q1
  obtain ⟨s0, s1⟩ := sinF_bd (g / 2)
  obtain ⟨t0, t1⟩ := mul_box s0 s1 s0 s1
  have t2 : 0 ≤ sinF (g / 2) * sinF (g / 2) := by
    rcases Int.le_total 0 (sinF (g / 2)) with h | h
    · exact Int.mul_nonneg h h
    · rw [← Int.neg_mul_neg]; exact Int.mul_nonneg (by omega) (by omega)
  have HT := Lib.hid hT
  have hlt := hT.lt
  clear hT
  have e1 : IntKind.i64.wrap (40243 * sl a f) = 40243 * sl a f := IntWalk.i64_in _ ⟨by omega, by omega⟩
  have e2 := quo_nonneg (show 0 ≤ 40243 * sl a f by omega) (by omega) (show (1 : Int) ≤ 100 by omega)
  have e3 := quo_nonneg (show 0 ≤ g by omega) (by omega) (show (1 : Int) ≤ 2 by omega)
  unfold perF
  have hr := Lib.hid (show isq (40243 * sl a f / 100) = rtF a f from rfl)
  have hq := (show sinF (g / 2) * sinF (g / 2) / 1000 = qF g from rfl)
  go_enter Tryz.func20, Tryz.ntmps20
  go_wp2_with fail
  generalize hW0 : w.alloc (.cells #[.string s, .int .i64 m, .int .i64 a, .int .i64 f, .int .i64 g] 27) = W0
  have u0 : Below w.heap.size w W0 := by rw [← hW0]; go_grown
  have u1 : w.heap.size < W0.heap.size := by rw [← hW0]; simp
  have c0 : W0.cell? ⟨w.heap.size, 0, none⟩ = some (.string s) := by rw [← hW0]; simp
  have c1 : W0.cell? ⟨w.heap.size, 1, none⟩ = some (.int .i64 m) := by rw [← hW0]; simp
  have c2 : W0.cell? ⟨w.heap.size, 2, none⟩ = some (.int .i64 a) := by rw [← hW0]; simp
  have c3 : W0.cell? ⟨w.heap.size, 3, none⟩ = some (.int .i64 f) := by rw [← hW0]; simp
  have c4 : W0.cell? ⟨w.heap.size, 4, none⟩ = some (.int .i64 g) := by rw [← hW0]; simp
  clear hW0
  go_region_held3 (fun w' => Below w.heap.size w w' ∧ w.heap.size < w'.heap.size ∧ w'.cell? ⟨w.heap.size, 0, none⟩ = some (.string s) ∧ w'.cell? ⟨w.heap.size, 1, none⟩ = some (.int .i64 m) ∧ w'.cell? ⟨w.heap.size, 2, none⟩ = some (.int .i64 a) ∧ w'.cell? ⟨w.heap.size, 3, none⟩ = some (.int .i64 f) ∧ w'.cell? ⟨w.heap.size, 4, none⟩ = some (.int .i64 g))
    (first
      | exact ⟨u0.drew, u1, c0, c1, c2, c3, c4⟩
      | assumption
      | (obtain ⟨x0, x1, x2, x3, x4, x5, x6⟩ := ‹Below _ _ _ ∧ _›; exact ⟨x0.trans (hb.mono (Nat.le_of_lt x1)), Nat.lt_of_lt_of_le x1 hb.size, (hb.cell (p := ⟨_, _, none⟩) x1).trans x2, (hb.cell (p := ⟨_, _, none⟩) x1).trans x3, (hb.cell (p := ⟨_, _, none⟩) x1).trans x4, (hb.cell (p := ⟨_, _, none⟩) x1).trans x5, (hb.cell (p := ⟨_, _, none⟩) x1).trans x6⟩)
      | (obtain ⟨x0, x1, x2, x3, x4, x5, x6⟩ := ‹Below _ _ _ ∧ _›; exact ⟨below_drewN x0 _, x1, x2, x3, x4, x5, x6⟩))
    (first
      | (go_at_call 27; refine (swingLength_calls _ _ _ _ _ _ a0 a1 f0 f1).mono ?_; rintro e w1 ⟨rfl, hb⟩)
      | (go_at_call 32; refine (root_calls _ _ (by omega)).mono ?_; rintro e w1 ⟨rfl, rfl⟩; rw [hr.out])
      | (go_at_call 6; refine (SineOf_calls _ _ (HT.out.below (‹Below _ _ _ ∧ _›).1 hlt)).mono ?_; rintro e w1 ⟨rfl, rfl⟩))
  all_goals
    clear e1 e2 e3
    have hB := (‹Below _ _ _ ∧ _›).1
    go_wp2_with (go_at_call 26; refine (nearest_calls _ _ _ (by omega) (by omega) (by omega) (by omega)).mono ?_; rintro e w2 ⟨rfl, nd, rfl⟩)
    go_ret
    exact ⟨rfl, below_drewN hB _⟩

noncomputable def peV (s : ByteArray) (m a f g : Int) : Int := if hungB s m a f g = true then perF a f g else 0
noncomputable def stV (s : ByteArray) (m a f g : Int) : Int := if hungB s m a f g = true then 120000 / (max (perF a f g) 1) else 0
noncomputable def okH (b : Bool) : Int := if b = true then 0 else 1

set_option maxHeartbeats 1000000 in
theorem PeriodOf_calls (s : ByteArray) (m a f g : Int) (w : World) (hs : s.size ≤ maxLen) (hT : HasTab w) :
    Calls Tryz.prog 10 #[.agg #[.string s, .int .i64 m, .int .i64 a, .int .i64 f, .int .i64 g]] w fun e w' => e = .returned (.tuple #[.int .i64 (peV s m a f g), .int .i64 (okH (hungB s m a f g))]) ∧ Below w.heap.size w w' := by
  have hB := Below.refl w.heap.size w
  have HT := Lib.hid hT
  have hlt := hT.lt
  clear hT
  cases h : hungB s m a f g
  · rw [show peV s m a f g = 0 by simp [peV, h], show okH false = 1 from rfl]
    go_enter Tryz.func10, Tryz.ntmps10
    go_wp2_with (go_at_call 19; refine (validHung_calls _ _ _ _ _ _ hs).mono ?_; rintro e w1 ⟨rfl, hb⟩; obtain ⟨hc, hf⟩ := bcell hb; have hz := hb.size; (try simp at hz); (try have hl0 : w.heap.size < w1.heap.size := by omega); (try have hl1 : w.heap.size + 1 < w1.heap.size := by omega); (try have hl2 : w.heap.size + 1 + 1 < w1.heap.size := by omega); replace hB : Below w.heap.size w w1 := Below.trans (by go_grown) (hb.mono (by go_size)); clear hb)
    go_ret2
    exact ⟨rfl, hB⟩
  · rw [show peV s m a f g = perF a f g by simp [peV, h], show okH true = 0 from rfl]
    obtain ⟨_, _, ⟨a0, a1⟩, ⟨f0, f1⟩, ⟨g0, g1⟩⟩ := hungB_of h
    obtain ⟨p0, p1⟩ := perF_bd g a0 a1 f0 f1
    rcases (show (1 ≤ perF a f g ∧ max (perF a f g) 1 = perF a f g) ∨ (perF a f g ≤ 0 ∧ max (perF a f g) 1 = 1) by omega) with ⟨hp, hm⟩ | ⟨hp, hm⟩
    all_goals
      try rw [hm]
      clear hm
      go_enter Tryz.func10, Tryz.ntmps10
      go_wp2_with (first | (go_at_call 19; refine (validHung_calls _ _ _ _ _ _ hs).mono ?_; rintro e w1 ⟨rfl, hb⟩; obtain ⟨hc, hf⟩ := bcell hb; have hz := hb.size; (try simp at hz); (try have hl0 : w.heap.size < w1.heap.size := by omega); (try have hl1 : w.heap.size + 1 < w1.heap.size := by omega); (try have hl2 : w.heap.size + 1 + 1 < w1.heap.size := by omega); replace hB : Below w.heap.size w w1 := Below.trans (by go_grown) (hb.mono (by go_size)); clear hb) | (go_at_call 20; refine (periodOf_calls _ _ _ _ _ _ (HT.out.below hB hlt) a0 a1 f0 f1 g0 g1).mono ?_; rintro e w1 ⟨rfl, hb⟩; obtain ⟨hc, hf⟩ := bcell hb; have hz := hb.size; (try simp at hz); (try have hl0 : w.heap.size < w1.heap.size := by omega); (try have hl1 : w.heap.size + 1 < w1.heap.size := by omega); (try have hl2 : w.heap.size + 1 + 1 < w1.heap.size := by omega); replace hB : Below w.heap.size w w1 := Below.trans (by go_grown) (hb.mono (by go_size)); clear hb))
      go_ret2
      exact ⟨rfl, hB⟩
set_option maxHeartbeats 1000000 in
theorem StrokesOf_calls (s : ByteArray) (m a f g : Int) (w : World) (hs : s.size ≤ maxLen) (hT : HasTab w) :
    Calls Tryz.prog 11 #[.agg #[.string s, .int .i64 m, .int .i64 a, .int .i64 f, .int .i64 g]] w fun e w' => e = .returned (.tuple #[.int .i64 (stV s m a f g), .int .i64 (okH (hungB s m a f g))]) ∧ Below w.heap.size w w' := by
  have hB := Below.refl w.heap.size w
  have HT := Lib.hid hT
  have hlt := hT.lt
  clear hT
  cases h : hungB s m a f g
  · rw [show stV s m a f g = 0 by simp [stV, h], show okH false = 1 from rfl]
    go_enter Tryz.func11, Tryz.ntmps11
    go_wp2_with (go_at_call 19; refine (validHung_calls _ _ _ _ _ _ hs).mono ?_; rintro e w1 ⟨rfl, hb⟩; obtain ⟨hc, hf⟩ := bcell hb; have hz := hb.size; (try simp at hz); (try have hl0 : w.heap.size < w1.heap.size := by omega); (try have hl1 : w.heap.size + 1 < w1.heap.size := by omega); (try have hl2 : w.heap.size + 1 + 1 < w1.heap.size := by omega); replace hB : Below w.heap.size w w1 := Below.trans (by go_grown) (hb.mono (by go_size)); clear hb)
    go_ret2
    exact ⟨rfl, hB⟩
  · rw [show stV s m a f g = 120000 / (max (perF a f g) 1) by simp [stV, h], show okH true = 0 from rfl]
    obtain ⟨_, _, ⟨a0, a1⟩, ⟨f0, f1⟩, ⟨g0, g1⟩⟩ := hungB_of h
    obtain ⟨p0, p1⟩ := perF_bd g a0 a1 f0 f1
    rcases (show (1 ≤ perF a f g ∧ max (perF a f g) 1 = perF a f g) ∨ (perF a f g ≤ 0 ∧ max (perF a f g) 1 = 1) by omega) with ⟨hp, hm⟩ | ⟨hp, hm⟩
    all_goals
      try rw [hm]
      clear hm
      go_enter Tryz.func11, Tryz.ntmps11
      go_wp2_with (first | (go_at_call 19; refine (validHung_calls _ _ _ _ _ _ hs).mono ?_; rintro e w1 ⟨rfl, hb⟩; obtain ⟨hc, hf⟩ := bcell hb; have hz := hb.size; (try simp at hz); (try have hl0 : w.heap.size < w1.heap.size := by omega); (try have hl1 : w.heap.size + 1 < w1.heap.size := by omega); (try have hl2 : w.heap.size + 1 + 1 < w1.heap.size := by omega); replace hB : Below w.heap.size w w1 := Below.trans (by go_grown) (hb.mono (by go_size)); clear hb) | (go_at_call 20; refine (periodOf_calls _ _ _ _ _ _ (HT.out.below hB hlt) a0 a1 f0 f1 g0 g1).mono ?_; rintro e w1 ⟨rfl, hb⟩; obtain ⟨hc, hf⟩ := bcell hb; have hz := hb.size; (try simp at hz); (try have hl0 : w.heap.size < w1.heap.size := by omega); (try have hl1 : w.heap.size + 1 < w1.heap.size := by omega); (try have hl2 : w.heap.size + 1 + 1 < w1.heap.size := by omega); replace hB : Below w.heap.size w w1 := Below.trans (by go_grown) (hb.mono (by go_size)); clear hb))
      go_ret2
      exact ⟨rfl, hB⟩
end Go.Proofs.YtflhkldfhndafaaGreatDoor
