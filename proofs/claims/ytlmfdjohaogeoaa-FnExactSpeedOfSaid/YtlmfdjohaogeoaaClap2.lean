/- Clappers: the fall, the energy, the share, the speed, in the program and in the reference. For all valid fields. -/
import Derived.Test.YtlmfdjohaogeoaaClapper
import Derived.Test.YtlmfdjohaogeoaaRoot
import Derived.Deep.RegionHeld3
namespace Go.Proofs.Ytlmfdjohaogeoaa
set_option linter.unusedVariables false
open Go.RowKit

theorem mul_le_mul' {a b c d : Int} (h1 : a ≤ b) (h2 : c ≤ d) (h3 : 0 ≤ c) (h4 : 0 ≤ b) : a * c ≤ b * d := Int.mul_le_mul h1 h2 h3 h4
/-- the fall of the ball -/
def dr (l g : Int) : Int := nr (g * g) (2 * l)
theorem dr_bd {l g : Int} (h0 : 1000 ≤ l) (h2 : 10 ≤ g) (h3 : g ≤ 50000) : 0 ≤ dr l g ∧ dr l g ≤ 1250000 := by
  have q := mul_le_mul' h3 h3 (by omega) (by omega)
  have q0 := Int.mul_nonneg (show 0 ≤ g by omega) (show 0 ≤ g by omega)
  unfold dr
  exact ⟨nr_nonneg q0 (by omega), nr_le (by omega) (by omega) (by omega)⟩
/-- the energy of a stroke -/
def en (m l g : Int) : Int := nr (m * dr l g * 980665) 10000000
def dr3 (_m l g : Int) : Int := dr l g
def drV (m l g : Int) : Int := if clapperB m l g = true then dr3 m l g else 0
def enV (m l g : Int) : Int := if clapperB m l g = true then en m l g else 0
def okC (b : Bool) : Int := if b = true then 0 else 1
def shV (m l g n : Int) : Int := if clapperB m l g = true then if inB n 1 30000000 = true then nr (1000 * m) n else 0 else 0
def shC (m l g n : Int) : Int := if clapperB m l g = true then if inB n 1 30000000 = true then 0 else 2 else 1
def spV (d : Int) : Int := if inB d 0 1250000 = true then isq (nr (196133 * d) 1000) else 0
def spC (d : Int) : Int := if inB d 0 1250000 = true then 0 else 2

set_option maxHeartbeats 400000 in
theorem drop_calls (m l g : Int) (w : World) (h0 : 1000 ≤ l) (h1 : l ≤ 300000) (h2 : 10 ≤ g) (h3 : g ≤ 50000) :
    Calls Try.prog 58 #[.agg #[.int .i64 m, .int .i64 l, .int .i64 g]] w fun e w' => e = .returned (.int .i64 (dr l g)) ∧ Below w.heap.size w w' := by
  have q := mul_le_mul' h3 h3 (by omega) (by omega)
  have q0 := Int.mul_nonneg (show 0 ≤ g by omega) (show 0 ≤ g by omega)
  unfold dr
  go_enter Try.func58, Try.ntmps58
  go_wp2_with (go_at_call 64; refine (nearest_calls _ _ _ (by omega) (by omega) (by omega) (by omega)).mono ?_; rintro e w1 ⟨rfl, n, rfl⟩)
  go_ret
  exact ⟨rfl, below_drewN ((Below.refl _ _).alloc (Nat.le_refl _) _) _⟩

set_option maxHeartbeats 400000 in
theorem sdrop_calls (b o : Nat) (l g : Int) (w : World) (h0 : 1000 ≤ l) (h1 : l ≤ 300000) (h2 : 10 ≤ g) (h3 : g ≤ 50000)
    (c1 : w.cell? ⟨b, o + 1, none⟩ = some (.int .i64 l)) (c2 : w.cell? ⟨b, o + 2, none⟩ = some (.int .i64 g)) :
    Calls Try.prog 57 #[.pointer (some ⟨b, o, none⟩)] w fun e w' => e = .returned (.int .i64 (dr l g)) ∧ ∃ n, w' = w.drewN n := by
  have q := mul_le_mul' h3 h3 (by omega) (by omega)
  have q0 := Int.mul_nonneg (show 0 ≤ g by omega) (show 0 ≤ g by omega)
  have e1 : IntKind.i64.wrap (g * g) = g * g := IntWalk.i64_in _ ⟨by omega, by omega⟩
  have e2 : IntKind.i64.wrap (2 * l) = 2 * l := IntWalk.i64_in _ ⟨by omega, by omega⟩
  unfold dr
  go_enter Try.func57, Try.ntmps57
  go_wp2_with fail
  go_quiet ((go_at_call 62; exact quiet_left (div_calls _ _ _ (by omega) (by omega) (by omega) (by omega))))
  go_wp2
  go_ret
  exact ⟨rfl, _, rfl⟩

set_option maxHeartbeats 400000 in
theorem energy_calls (m l g : Int) (w : World) (hm0 : 10 ≤ m) (hm1 : m ≤ 1000000) (h0 : 1000 ≤ l) (h1 : l ≤ 300000) (h2 : 10 ≤ g) (h3 : g ≤ 50000) :
    Calls Try.prog 60 #[.agg #[.int .i64 m, .int .i64 l, .int .i64 g]] w fun e w' => e = .returned (.int .i64 (en m l g)) ∧ Below w.heap.size w w' := by
  obtain ⟨b0, b1⟩ := dr_bd h0 h2 h3
  have q := mul_le_mul' hm1 b1 b0 (by omega)
  have q0 := Int.mul_nonneg (show 0 ≤ m by omega) b0
  have e1 : IntKind.i64.wrap (m * dr l g) = m * dr l g := IntWalk.i64_in _ ⟨by omega, by omega⟩
  have e2 : IntKind.i64.wrap (m * dr l g * 980665) = m * dr l g * 980665 := IntWalk.i64_in _ ⟨by omega, by omega⟩
  unfold en
  go_enter Try.func60, Try.ntmps60
  go_wp2_with fail
  generalize hW0 : w.alloc (.cells #[.int .i64 m, .int .i64 l, .int .i64 g] 25) = W0
  have s0 : Below w.heap.size w W0 := by rw [← hW0]; go_grown
  have s1 : w.heap.size < W0.heap.size := by rw [← hW0]; simp
  have s2 : W0.cell? ⟨w.heap.size, 0, none⟩ = some (.int .i64 m) := by rw [← hW0]; simp
  have s3 : W0.cell? ⟨w.heap.size, 1, none⟩ = some (.int .i64 l) := by rw [← hW0]; simp
  have s4 : W0.cell? ⟨w.heap.size, 2, none⟩ = some (.int .i64 g) := by rw [← hW0]; simp
  clear hW0
  go_region_held3 (fun w' => Below w.heap.size w w' ∧ w.heap.size < w'.heap.size ∧ w'.cell? ⟨w.heap.size, 0, none⟩ = some (.int .i64 m) ∧ w'.cell? ⟨w.heap.size, 1, none⟩ = some (.int .i64 l) ∧ w'.cell? ⟨w.heap.size, 2, none⟩ = some (.int .i64 g))
    (first
      | exact ⟨s0.drew, s1, s2, s3, s4⟩
      | assumption
      | (obtain ⟨x0, x1, x2, x3, x4⟩ := ‹Below _ _ _ ∧ _›; exact ⟨x0.trans (hb.mono (Nat.le_of_lt x1)), Nat.lt_of_lt_of_le x1 hb.size, (hb.cell (p := ⟨_, _, none⟩) x1).trans x2, (hb.cell (p := ⟨_, _, none⟩) x1).trans x3, (hb.cell (p := ⟨_, _, none⟩) x1).trans x4⟩)
      | (obtain ⟨x0, x1, x2, x3, x4⟩ := ‹Below _ _ _ ∧ _›; exact ⟨below_drewN x0 _, x1, x2, x3, x4⟩)
      | go_keep)
    (first
      | (go_at_call 58; refine (drop_calls _ _ _ _ h0 h1 h2 h3).mono ?_; rintro e w1 ⟨rfl, hb⟩)
      | (go_at_call 64; refine (nearest_calls _ _ _ (by omega) (by omega) (by omega) (by omega)).mono ?_; rintro e w1 ⟨rfl, n, rfl⟩))
  have hfin : Below w.heap.size w (w1.drewN n) := (‹Below _ _ _ ∧ _›).1
  go_wp2
  go_ret
  exact ⟨rfl, hfin⟩

set_option maxHeartbeats 400000 in
theorem senergy_calls (b o : Nat) (m l g : Int) (w : World) (hm0 : 10 ≤ m) (hm1 : m ≤ 1000000) (h0 : 1000 ≤ l) (h1 : l ≤ 300000) (h2 : 10 ≤ g) (h3 : g ≤ 50000)
    (c0 : w.cell? ⟨b, o, none⟩ = some (.int .i64 m)) (c1 : w.cell? ⟨b, o + 1, none⟩ = some (.int .i64 l)) (c2 : w.cell? ⟨b, o + 2, none⟩ = some (.int .i64 g)) :
    Calls Try.prog 59 #[.pointer (some ⟨b, o, none⟩)] w fun e w' => e = .returned (.int .i64 (en m l g)) ∧ ∃ n, w' = w.drewN n := by
  obtain ⟨b0, b1⟩ := dr_bd h0 h2 h3
  have q := mul_le_mul' hm1 b1 b0 (by omega)
  have q0 := Int.mul_nonneg (show 0 ≤ m by omega) b0
  have e1 : IntKind.i64.wrap (m * dr l g) = m * dr l g := IntWalk.i64_in _ ⟨by omega, by omega⟩
  have e2 : IntKind.i64.wrap (m * dr l g * 980665) = m * dr l g * 980665 := IntWalk.i64_in _ ⟨by omega, by omega⟩
  unfold en
  go_enter Try.func59, Try.ntmps59
  go_wp2_with fail
  go_quiet ((first | (go_at_call 57; exact quiet_more (sdrop_calls _ _ l g _ h0 h1 h2 h3 (by simpa using c1) (by simpa using c2))) | (go_at_call 62; exact quiet_left (div_calls _ _ _ (by omega) (by omega) (by omega) (by omega)))))
  go_wp2
  go_ret
  exact ⟨rfl, _, rfl⟩

set_option maxHeartbeats 400000 in
theorem DropOf_calls (m l g : Int) (w : World) :
    Calls Try.prog 21 #[.agg #[.int .i64 m, .int .i64 l, .int .i64 g]] w fun e w' => e = .returned (.tuple #[.int .i64 (drV m l g), .int .i64 (okC (clapperB m l g))]) ∧ Below w.heap.size w w' := by
  have hB := Below.refl w.heap.size w
  cases h : clapperB m l g
  · rw [show drV m l g = 0 by simp [drV, h], show okC false = 1 from rfl]
    go_enter Try.func21, Try.ntmps21
    go_wp2_with (go_at_call 17; refine (validClapper_calls _ _ _ _).mono ?_; rintro e w1 ⟨rfl, hb⟩; obtain ⟨hc, hf⟩ := bcell hb; have hz := hb.size; (try simp at hz); (try have hl0 : w.heap.size < w1.heap.size := by omega); (try have hl1 : w.heap.size + 1 < w1.heap.size := by omega); (try have hl2 : w.heap.size + 1 + 1 < w1.heap.size := by omega); replace hB : Below w.heap.size w w1 := Below.trans (by go_grown) (hb.mono (by go_size)); clear hb)
    go_ret2
    exact ⟨rfl, hB⟩
  · rw [show drV m l g = dr3 m l g by simp [drV, h], show okC true = 0 from rfl]
    try unfold dr3
    obtain ⟨b0, b1, b2⟩ := clapperB_of h
    go_enter Try.func21, Try.ntmps21
    go_wp2_with (first | (go_at_call 17; refine (validClapper_calls _ _ _ _).mono ?_; rintro e w1 ⟨rfl, hb⟩; obtain ⟨hc, hf⟩ := bcell hb; have hz := hb.size; (try simp at hz); (try have hl0 : w.heap.size < w1.heap.size := by omega); (try have hl1 : w.heap.size + 1 < w1.heap.size := by omega); (try have hl2 : w.heap.size + 1 + 1 < w1.heap.size := by omega); replace hB : Below w.heap.size w w1 := Below.trans (by go_grown) (hb.mono (by go_size)); clear hb) | (go_at_call 58; refine (drop_calls _ _ _ _ b1.1 b1.2 b2.1 b2.2).mono ?_; rintro e w1 ⟨rfl, hb⟩; obtain ⟨hc, hf⟩ := bcell hb; have hz := hb.size; (try simp at hz); (try have hl0 : w.heap.size < w1.heap.size := by omega); (try have hl1 : w.heap.size + 1 < w1.heap.size := by omega); (try have hl2 : w.heap.size + 1 + 1 < w1.heap.size := by omega); replace hB : Below w.heap.size w w1 := Below.trans (by go_grown) (hb.mono (by go_size)); clear hb))
    go_ret2
    exact ⟨rfl, hB⟩
set_option maxHeartbeats 400000 in
theorem sDropOf_calls (m l g : Int) (w : World) :
    Calls Try.prog 20 #[.agg #[.int .i64 m, .int .i64 l, .int .i64 g]] w fun e w' => e = .returned (.tuple #[.int .i64 (drV m l g), .int .i64 (okC (clapperB m l g))]) ∧ Below w.heap.size w w' := by
  cases h : clapperB m l g
  · rw [show drV m l g = 0 by simp [drV, h], show okC false = 1 from rfl]
    go_enter Try.func20, Try.ntmps20
    go_wp2_with (go_at_call 51; refine (sokClapper_calls _ 0 m l g _ (by simp) (by simp) (by simp)).mono ?_; rintro e w1 ⟨rfl, rfl⟩)
    go_ret2
    exact ⟨rfl, (Below.refl _ _).alloc (Nat.le_refl _) _⟩
  · rw [show drV m l g = dr3 m l g by simp [drV, h], show okC true = 0 from rfl]
    try unfold dr3
    obtain ⟨b0, b1, b2⟩ := clapperB_of h
    go_enter Try.func20, Try.ntmps20
    go_wp2_with (first | (go_at_call 51; refine (sokClapper_calls _ 0 m l g _ (by simp) (by simp) (by simp)).mono ?_; rintro e w1 ⟨rfl, rfl⟩) | (go_at_call 57; refine (sdrop_calls _ 0 l g _ b1.1 b1.2 b2.1 b2.2 (by simp) (by simp)).mono ?_; rintro e w1 ⟨rfl, nd, rfl⟩))
    go_ret2
    exact ⟨rfl, below_drewN ((Below.refl _ _).alloc (Nat.le_refl _) _) _⟩
set_option maxHeartbeats 400000 in
theorem EnergyOf_calls (m l g : Int) (w : World) :
    Calls Try.prog 23 #[.agg #[.int .i64 m, .int .i64 l, .int .i64 g]] w fun e w' => e = .returned (.tuple #[.int .i64 (enV m l g), .int .i64 (okC (clapperB m l g))]) ∧ Below w.heap.size w w' := by
  have hB := Below.refl w.heap.size w
  cases h : clapperB m l g
  · rw [show enV m l g = 0 by simp [enV, h], show okC false = 1 from rfl]
    go_enter Try.func23, Try.ntmps23
    go_wp2_with (go_at_call 17; refine (validClapper_calls _ _ _ _).mono ?_; rintro e w1 ⟨rfl, hb⟩; obtain ⟨hc, hf⟩ := bcell hb; have hz := hb.size; (try simp at hz); (try have hl0 : w.heap.size < w1.heap.size := by omega); (try have hl1 : w.heap.size + 1 < w1.heap.size := by omega); (try have hl2 : w.heap.size + 1 + 1 < w1.heap.size := by omega); replace hB : Below w.heap.size w w1 := Below.trans (by go_grown) (hb.mono (by go_size)); clear hb)
    go_ret2
    exact ⟨rfl, hB⟩
  · rw [show enV m l g = en m l g by simp [enV, h], show okC true = 0 from rfl]
    try unfold dr3
    obtain ⟨b0, b1, b2⟩ := clapperB_of h
    go_enter Try.func23, Try.ntmps23
    go_wp2_with (first | (go_at_call 17; refine (validClapper_calls _ _ _ _).mono ?_; rintro e w1 ⟨rfl, hb⟩; obtain ⟨hc, hf⟩ := bcell hb; have hz := hb.size; (try simp at hz); (try have hl0 : w.heap.size < w1.heap.size := by omega); (try have hl1 : w.heap.size + 1 < w1.heap.size := by omega); (try have hl2 : w.heap.size + 1 + 1 < w1.heap.size := by omega); replace hB : Below w.heap.size w w1 := Below.trans (by go_grown) (hb.mono (by go_size)); clear hb) | (go_at_call 60; refine (energy_calls _ _ _ _ b0.1 b0.2 b1.1 b1.2 b2.1 b2.2).mono ?_; rintro e w1 ⟨rfl, hb⟩; obtain ⟨hc, hf⟩ := bcell hb; have hz := hb.size; (try simp at hz); (try have hl0 : w.heap.size < w1.heap.size := by omega); (try have hl1 : w.heap.size + 1 < w1.heap.size := by omega); (try have hl2 : w.heap.size + 1 + 1 < w1.heap.size := by omega); replace hB : Below w.heap.size w w1 := Below.trans (by go_grown) (hb.mono (by go_size)); clear hb))
    go_ret2
    exact ⟨rfl, hB⟩
set_option maxHeartbeats 400000 in
theorem sEnergyOf_calls (m l g : Int) (w : World) :
    Calls Try.prog 22 #[.agg #[.int .i64 m, .int .i64 l, .int .i64 g]] w fun e w' => e = .returned (.tuple #[.int .i64 (enV m l g), .int .i64 (okC (clapperB m l g))]) ∧ Below w.heap.size w w' := by
  cases h : clapperB m l g
  · rw [show enV m l g = 0 by simp [enV, h], show okC false = 1 from rfl]
    go_enter Try.func22, Try.ntmps22
    go_wp2_with (go_at_call 51; refine (sokClapper_calls _ 0 m l g _ (by simp) (by simp) (by simp)).mono ?_; rintro e w1 ⟨rfl, rfl⟩)
    go_ret2
    exact ⟨rfl, (Below.refl _ _).alloc (Nat.le_refl _) _⟩
  · rw [show enV m l g = en m l g by simp [enV, h], show okC true = 0 from rfl]
    try unfold dr3
    obtain ⟨b0, b1, b2⟩ := clapperB_of h
    go_enter Try.func22, Try.ntmps22
    go_wp2_with (first | (go_at_call 51; refine (sokClapper_calls _ 0 m l g _ (by simp) (by simp) (by simp)).mono ?_; rintro e w1 ⟨rfl, rfl⟩) | (go_at_call 59; refine (senergy_calls _ 0 m l g _ b0.1 b0.2 b1.1 b1.2 b2.1 b2.2 (by simp) (by simp) (by simp)).mono ?_; rintro e w1 ⟨rfl, nd, rfl⟩))
    go_ret2
    exact ⟨rfl, below_drewN ((Below.refl _ _).alloc (Nat.le_refl _) _) _⟩
set_option maxHeartbeats 400000 in
theorem ClapperShare_calls (m l g n : Int) (w : World) :
    Calls Try.prog 25 #[.agg #[.int .i64 m, .int .i64 l, .int .i64 g], .int .i64 n] w fun e w' => e = .returned (.tuple #[.int .i64 (shV m l g n), .int .i64 (shC m l g n)]) ∧ Below w.heap.size w w' := by
  have hB := Below.refl w.heap.size w
  cases h : clapperB m l g
  · rw [show shV m l g n = 0 by simp [shV, h], show shC m l g n = 1 by simp [shC, h]]
    go_enter Try.func25, Try.ntmps25
    go_wp2_with (go_at_call 17; refine (validClapper_calls _ _ _ _).mono ?_; rintro e w1 ⟨rfl, hb⟩; obtain ⟨hc, hf⟩ := bcell hb; have hz := hb.size; (try simp at hz); (try have hl0 : w.heap.size < w1.heap.size := by omega); (try have hl1 : w.heap.size + 1 < w1.heap.size := by omega); (try have hl2 : w.heap.size + 1 + 1 < w1.heap.size := by omega); replace hB : Below w.heap.size w w1 := Below.trans (by go_grown) (hb.mono (by go_size)); clear hb)
    go_ret2
    exact ⟨rfl, hB⟩
  · obtain ⟨b0, b1, b2⟩ := clapperB_of h
    cases hn : inB n 1 30000000
    · rw [show shV m l g n = 0 by simp [shV, h, hn], show shC m l g n = 2 by simp [shC, h, hn]]
      go_enter Try.func25, Try.ntmps25
      go_wp2_with (first | (go_at_call 17; refine (validClapper_calls _ _ _ _).mono ?_; rintro e w1 ⟨rfl, hb⟩; obtain ⟨hc, hf⟩ := bcell hb; have hz := hb.size; (try simp at hz); (try have hl0 : w.heap.size < w1.heap.size := by omega); (try have hl1 : w.heap.size + 1 < w1.heap.size := by omega); (try have hl2 : w.heap.size + 1 + 1 < w1.heap.size := by omega); replace hB : Below w.heap.size w w1 := Below.trans (by go_grown) (hb.mono (by go_size)); clear hb) | (go_at_call 63; refine (isBellMass_calls _ _).mono ?_; rintro e w1 ⟨rfl, rfl⟩))
      go_ret2
      exact ⟨rfl, hB⟩
    · rw [show shV m l g n = nr (1000 * m) n by simp [shV, h, hn], show shC m l g n = 0 by simp [shC, h, hn]]
      obtain ⟨n0, n1⟩ := inB_iff.1 hn
      go_enter Try.func25, Try.ntmps25
      go_wp2_with (first | (go_at_call 17; refine (validClapper_calls _ _ _ _).mono ?_; rintro e w1 ⟨rfl, hb⟩; obtain ⟨hc, hf⟩ := bcell hb; have hz := hb.size; (try simp at hz); (try have hl0 : w.heap.size < w1.heap.size := by omega); (try have hl1 : w.heap.size + 1 < w1.heap.size := by omega); (try have hl2 : w.heap.size + 1 + 1 < w1.heap.size := by omega); replace hB : Below w.heap.size w w1 := Below.trans (by go_grown) (hb.mono (by go_size)); clear hb) | (go_at_call 63; refine (isBellMass_calls _ _).mono ?_; rintro e w1 ⟨rfl, rfl⟩) | (go_at_call 64; refine (nearest_calls _ _ _ (by omega) (by omega) (by omega) (by omega)).mono ?_; rintro e w1 ⟨rfl, nd, rfl⟩; replace hB := below_drewN hB nd))
      go_ret2
      exact ⟨rfl, hB⟩
set_option maxHeartbeats 400000 in
theorem sClapperShare_calls (m l g n : Int) (w : World) :
    Calls Try.prog 24 #[.agg #[.int .i64 m, .int .i64 l, .int .i64 g], .int .i64 n] w fun e w' => e = .returned (.tuple #[.int .i64 (shV m l g n), .int .i64 (shC m l g n)]) ∧ Below w.heap.size w w' := by
  have hB := (Below.refl w.heap.size w)
  cases h : clapperB m l g
  · rw [show shV m l g n = 0 by simp [shV, h], show shC m l g n = 1 by simp [shC, h]]
    go_enter Try.func24, Try.ntmps24
    go_wp2_with (go_at_call 51; refine (sokClapper_calls _ 0 m l g _ (by simp) (by simp) (by simp)).mono ?_; rintro e w1 ⟨rfl, rfl⟩)
    go_ret2
    exact ⟨rfl, (Below.refl _ _).alloc (Nat.le_refl _) _⟩
  · obtain ⟨b0, b1, b2⟩ := clapperB_of h
    cases hn : inB n 1 30000000
    · rw [show shV m l g n = 0 by simp [shV, h, hn], show shC m l g n = 2 by simp [shC, h, hn]]
      go_enter Try.func24, Try.ntmps24
      go_wp2_with (first | (go_at_call 51; refine (sokClapper_calls _ 0 m l g _ (by simp) (by simp) (by simp)).mono ?_; rintro e w1 ⟨rfl, rfl⟩) | (go_at_call 61; refine (sMass_calls _ _).mono ?_; rintro e w1 ⟨rfl, rfl⟩))
      go_ret2
      exact ⟨rfl, (Below.refl _ _).alloc (Nat.le_refl _) _⟩
    · rw [show shV m l g n = nr (1000 * m) n by simp [shV, h, hn], show shC m l g n = 0 by simp [shC, h, hn]]
      obtain ⟨n0, n1⟩ := inB_iff.1 hn
      go_enter Try.func24, Try.ntmps24
      go_wp2_with (first | (go_at_call 51; refine (sokClapper_calls _ 0 m l g _ (by simp) (by simp) (by simp)).mono ?_; rintro e w1 ⟨rfl, rfl⟩) | (go_at_call 61; refine (sMass_calls _ _).mono ?_; rintro e w1 ⟨rfl, rfl⟩) | (go_at_call 62; refine (div_calls _ _ _ (by omega) (by omega) (by omega) (by omega)).mono ?_; rintro e w1 ⟨rfl, rfl⟩))
      go_ret2
      exact ⟨rfl, (Below.refl _ _).alloc (Nat.le_refl _) _⟩
set_option maxHeartbeats 400000 in
theorem SpeedOf_calls (d : Int) (w : World) :
    Calls Try.prog 27 #[.int .i64 d] w fun e w' => e = .returned (.tuple #[.int .i64 (spV d), .int .i64 (spC d)]) ∧ ∃ n, w' = w.drewN n := by
  cases h : inB d 0 1250000
  · rw [show spV d = 0 by simp [spV, h], show spC d = 2 by simp [spC, h]]
    go_enter Try.func27, Try.ntmps27
    go_wp2_with (go_at_call 52; refine (within_calls _ _ _ _).mono ?_; rintro e w1 ⟨rfl, rfl⟩)
    go_ret2
    exact ⟨rfl, 0, rfl⟩
  · rw [show spV d = isq (nr (196133 * d) 1000) by simp [spV, h], show spC d = 0 by simp [spC, h]]
    obtain ⟨b0, b1⟩ := inB_iff.1 h
    have q := nr_le (a := 196133 * d) (b := 1000) (c := 245166250) (by omega) (by omega) (by omega)
    go_enter Try.func27, Try.ntmps27
    go_wp2_with (first | (go_at_call 52; refine (within_calls _ _ _ _).mono ?_; rintro e w1 ⟨rfl, rfl⟩) | (go_at_call 64; refine (nearest_calls _ _ _ (by omega) (by omega) (by omega) (by omega)).mono ?_; rintro e w1 ⟨rfl, nd, rfl⟩) | (go_at_call 67; refine (root_calls _ _ (by omega)).mono ?_; rintro e w1 ⟨rfl, rfl⟩))
    go_ret2
    exact ⟨rfl, _, rfl⟩
set_option maxHeartbeats 400000 in
theorem sSpeedOf_calls (d : Int) (w : World) :
    Calls Try.prog 26 #[.int .i64 d] w fun e w' => e = .returned (.tuple #[.int .i64 (spV d), .int .i64 (spC d)]) ∧ w = w' := by
  cases h : inB d 0 1250000
  · rw [show spV d = 0 by simp [spV, h], show spC d = 2 by simp [spC, h]]
    go_enter Try.func26, Try.ntmps26
    go_wp2_with (go_at_call 65; refine (in_calls _ _ _ _).mono ?_; rintro e w1 ⟨rfl, rfl⟩)
    go_ret2
    exact ⟨rfl, rfl⟩
  · rw [show spV d = isq (nr (196133 * d) 1000) by simp [spV, h], show spC d = 0 by simp [spC, h]]
    obtain ⟨b0, b1⟩ := inB_iff.1 h
    have q := nr_le (a := 196133 * d) (b := 1000) (c := 245166250) (by omega) (by omega) (by omega)
    go_enter Try.func26, Try.ntmps26
    go_wp2_with (first | (go_at_call 65; refine (in_calls _ _ _ _).mono ?_; rintro e w1 ⟨rfl, rfl⟩) | (go_at_call 62; refine (div_calls _ _ _ (by omega) (by omega) (by omega) (by omega)).mono ?_; rintro e w1 ⟨rfl, rfl⟩) | (go_at_call 66; refine (sroot_calls _ _ (by omega)).mono ?_; rintro e w1 ⟨rfl, rfl⟩))
    go_ret2
    exact ⟨rfl, rfl⟩
end Go.Proofs.Ytlmfdjohaogeoaa
