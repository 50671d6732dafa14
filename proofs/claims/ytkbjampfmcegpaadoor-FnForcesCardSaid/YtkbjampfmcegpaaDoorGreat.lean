/- The greatest forces of a hung bell, in the program (one function for both, the force handed over) and in the reference. For every hung bell, where the table of sines reads as its initialiser lays it. -/
import Derived.Test.YtkbjampfmcegpaaDoorForce
namespace Go.Proofs.YtkbjampfmcegpaaDoor
set_option linter.unusedVariables false
open Go.RowKit

/-- the greatest of V 0 .. V n, and where it is first -/
def best (V : Int → Int) : Nat → Int × Int
  | 0 => (V 0, 0)
  | n + 1 => if (best V n).1 < V ((n : Int) + 1) then (V ((n : Int) + 1), (n : Int) + 1) else best V n
theorem best_up {V : Int → Int} {n : Nat} (h : (best V n).1 < V ((n : Int) + 1)) : best V (n + 1) = (V ((n : Int) + 1), (n : Int) + 1) := by
  show (if _ then _ else _) = _; rw [if_pos h]
theorem best_stay {V : Int → Int} {n : Nat} (h : ¬ (best V n).1 < V ((n : Int) + 1)) : best V (n + 1) = best V n := by
  show (if _ then _ else _) = _; rw [if_neg h]
noncomputable def grV (V : Int → Int) (s : ByteArray) (m a f g : Int) : Int := if hungB s m a f g = true then (best V g.toNat).1 else 0
noncomputable def grA (V : Int → Int) (s : ByteArray) (m a f g : Int) : Int := if hungB s m a f g = true then (best V g.toNat).2 else 0
noncomputable def okG (b : Bool) : Int := if b = true then 0 else 1

set_option maxHeartbeats 2000000 in
theorem greatest_vertical (V : Int → Int) (s : ByteArray) (m a f g : Int) (w : World) (hs : s.size ≤ maxLen) (hT : HasTab w) (hv : hungB s m a f g = true)
    (hF : ∀ (d : Int) (W : World), HasTab W → Calls Tryd.prog 15 #[.agg #[.string s, .int .i64 m, .int .i64 a, .int .i64 f, .int .i64 g], .int .i64 d] W fun e w' => e = .returned (.int .i64 (V d)) ∧ Below W.heap.size W w') :
    Calls Tryd.prog 19 #[.agg #[.string s, .int .i64 m, .int .i64 a, .int .i64 f, .int .i64 g], .func (.func 15) #[] #[]] w fun e w' => e = .returned (.tuple #[.int .i64 (best V g.toNat).1, .int .i64 (best V g.toNat).2, .int .i64 0]) ∧ Below w.heap.size w w' := by
  have hB := Below.refl w.heap.size w
  have HT := Lib.hid hT
  have hlt := hT.lt
  have HF := Lib.hid hF
  clear hT hF
  obtain ⟨_, _, _, _, ⟨g0, g1⟩⟩ := hungB_of hv
  obtain ⟨n, rfl⟩ := Int.eq_ofNat_of_zero_le (show 0 ≤ g by omega)
  rw [Int.toNat_natCast]
  go_enter Tryd.func19, Tryd.ntmps19
  go_wp2_with (first | (go_at_call 22; refine (validHung_calls _ _ _ _ _ _ hs).mono ?_; rintro e w1 ⟨rfl, hb⟩; obtain ⟨hc, hf⟩ := bcell hb; have hz := hb.size; (try simp at hz); (try have hl0 : w.heap.size < w1.heap.size := by omega); (try have hl1 : w.heap.size + 1 < w1.heap.size := by omega); (try have hl2 : w.heap.size + 1 + 1 < w1.heap.size := by omega); replace hB : Below w.heap.size w w1 := Below.trans (by go_grown) (hb.mono (by go_size)); clear hb) | (go_at_call 15; refine (HF.out 0 _ (HT.out.below hB hlt)).mono ?_; rintro e w1 ⟨rfl, hb⟩; obtain ⟨hc, hf⟩ := bcell hb; have hz := hb.size; (try simp at hz); (try have hl0 : w.heap.size < w1.heap.size := by omega); (try have hl1 : w.heap.size + 1 < w1.heap.size := by omega); (try have hl2 : w.heap.size + 1 + 1 < w1.heap.size := by omega); replace hB : Below w.heap.size w w1 := Below.trans (by go_grown) (hb.mono (by go_size)); clear hb))
  obtain ⟨w2, hw2⟩ : ∃ w2, w2 = w1 := ⟨_, rfl⟩
  subst hw2
  have hs2 := hB.size
  go_loopw [7, 8, 9] (fun u v d wr => ∃ k : Nat, k ≤ n ∧ u = .int .i64 (best V k).1 ∧ v = .int .i64 (best V k).2 ∧ d = .int .i64 ((k : Int) + 1) ∧ Below w2.heap.size w2 wr) (fun _ _ d _ => n + 1 - (intOf d).toNat)
  case atStart => exact ⟨0, by omega, rfl, rfl, rfl, Below.refl _ _⟩
  case round =>
    obtain ⟨k, hk, rfl, rfl, rfl, hbr⟩ := hrel
    have hBr := hB.trans (hbr.mono hs2)
    obtain ⟨hcr, hfr⟩ := bcell hbr
    have hzr := hbr.size
    have hlr : w.heap.size < wr.heap.size := by omega
    by_cases hkn : k < n
    · by_cases hgt : (best V k).1 < V ((k : Int) + 1)
      · have hu := Lib.hid (best_up hgt)
        go_wp2_with (go_at_call 15; refine (HF.out _ _ (HT.out.below hBr hlt)).mono ?_; rintro e w3 ⟨rfl, hb⟩; have hbr2 : Below w2.heap.size w2 w3 := hbr.trans (hb.mono hbr.size); clear hb)
        go_roundw
        case rel => exact ⟨k + 1, by omega, by rw [hu.out], by rw [hu.out], by go_num, hbr2⟩
        case measure => simp [intOf]; omega
      · have hu := Lib.hid (best_stay hgt)
        go_wp2_with (go_at_call 15; refine (HF.out _ _ (HT.out.below hBr hlt)).mono ?_; rintro e w3 ⟨rfl, hb⟩; have hbr2 : Below w2.heap.size w2 w3 := hbr.trans (hb.mono hbr.size); clear hb)
        go_roundw
        case rel => exact ⟨k + 1, by omega, by rw [hu.out], by rw [hu.out], by go_num, hbr2⟩
        case measure => simp [intOf]; omega
    · obtain rfl : k = n := by omega
      go_wp2
      go_ret3
      exact ⟨rfl, hBr⟩
set_option maxHeartbeats 2000000 in
theorem greatest_horizontal (V : Int → Int) (s : ByteArray) (m a f g : Int) (w : World) (hs : s.size ≤ maxLen) (hT : HasTab w) (hv : hungB s m a f g = true)
    (hF : ∀ (d : Int) (W : World), HasTab W → Calls Tryd.prog 16 #[.agg #[.string s, .int .i64 m, .int .i64 a, .int .i64 f, .int .i64 g], .int .i64 d] W fun e w' => e = .returned (.int .i64 (V d)) ∧ Below W.heap.size W w') :
    Calls Tryd.prog 19 #[.agg #[.string s, .int .i64 m, .int .i64 a, .int .i64 f, .int .i64 g], .func (.func 16) #[] #[]] w fun e w' => e = .returned (.tuple #[.int .i64 (best V g.toNat).1, .int .i64 (best V g.toNat).2, .int .i64 0]) ∧ Below w.heap.size w w' := by
  have hB := Below.refl w.heap.size w
  have HT := Lib.hid hT
  have hlt := hT.lt
  have HF := Lib.hid hF
  clear hT hF
  obtain ⟨_, _, _, _, ⟨g0, g1⟩⟩ := hungB_of hv
  obtain ⟨n, rfl⟩ := Int.eq_ofNat_of_zero_le (show 0 ≤ g by omega)
  rw [Int.toNat_natCast]
  go_enter Tryd.func19, Tryd.ntmps19
  go_wp2_with (first | (go_at_call 22; refine (validHung_calls _ _ _ _ _ _ hs).mono ?_; rintro e w1 ⟨rfl, hb⟩; obtain ⟨hc, hf⟩ := bcell hb; have hz := hb.size; (try simp at hz); (try have hl0 : w.heap.size < w1.heap.size := by omega); (try have hl1 : w.heap.size + 1 < w1.heap.size := by omega); (try have hl2 : w.heap.size + 1 + 1 < w1.heap.size := by omega); replace hB : Below w.heap.size w w1 := Below.trans (by go_grown) (hb.mono (by go_size)); clear hb) | (go_at_call 16; refine (HF.out 0 _ (HT.out.below hB hlt)).mono ?_; rintro e w1 ⟨rfl, hb⟩; obtain ⟨hc, hf⟩ := bcell hb; have hz := hb.size; (try simp at hz); (try have hl0 : w.heap.size < w1.heap.size := by omega); (try have hl1 : w.heap.size + 1 < w1.heap.size := by omega); (try have hl2 : w.heap.size + 1 + 1 < w1.heap.size := by omega); replace hB : Below w.heap.size w w1 := Below.trans (by go_grown) (hb.mono (by go_size)); clear hb))
  obtain ⟨w2, hw2⟩ : ∃ w2, w2 = w1 := ⟨_, rfl⟩
  subst hw2
  have hs2 := hB.size
  go_loopw [7, 8, 9] (fun u v d wr => ∃ k : Nat, k ≤ n ∧ u = .int .i64 (best V k).1 ∧ v = .int .i64 (best V k).2 ∧ d = .int .i64 ((k : Int) + 1) ∧ Below w2.heap.size w2 wr) (fun _ _ d _ => n + 1 - (intOf d).toNat)
  case atStart => exact ⟨0, by omega, rfl, rfl, rfl, Below.refl _ _⟩
  case round =>
    obtain ⟨k, hk, rfl, rfl, rfl, hbr⟩ := hrel
    have hBr := hB.trans (hbr.mono hs2)
    obtain ⟨hcr, hfr⟩ := bcell hbr
    have hzr := hbr.size
    have hlr : w.heap.size < wr.heap.size := by omega
    by_cases hkn : k < n
    · by_cases hgt : (best V k).1 < V ((k : Int) + 1)
      · have hu := Lib.hid (best_up hgt)
        go_wp2_with (go_at_call 16; refine (HF.out _ _ (HT.out.below hBr hlt)).mono ?_; rintro e w3 ⟨rfl, hb⟩; have hbr2 : Below w2.heap.size w2 w3 := hbr.trans (hb.mono hbr.size); clear hb)
        go_roundw
        case rel => exact ⟨k + 1, by omega, by rw [hu.out], by rw [hu.out], by go_num, hbr2⟩
        case measure => simp [intOf]; omega
      · have hu := Lib.hid (best_stay hgt)
        go_wp2_with (go_at_call 16; refine (HF.out _ _ (HT.out.below hBr hlt)).mono ?_; rintro e w3 ⟨rfl, hb⟩; have hbr2 : Below w2.heap.size w2 w3 := hbr.trans (hb.mono hbr.size); clear hb)
        go_roundw
        case rel => exact ⟨k + 1, by omega, by rw [hu.out], by rw [hu.out], by go_num, hbr2⟩
        case measure => simp [intOf]; omega
    · obtain rfl : k = n := by omega
      go_wp2
      go_ret3
      exact ⟨rfl, hBr⟩

/-- what the reference's loop holds at angle k -/
def bestS (V : Int → Int) : Nat → Int × Int
  | 0 => (0, 0)
  | k + 1 => best V k
set_option maxHeartbeats 400000 in
theorem greatestNo_vertical (s : ByteArray) (m a f g : Int) (w : World) (hs : s.size ≤ maxLen) (h : hungB s m a f g = false) :
    Calls Tryd.prog 19 #[.agg #[.string s, .int .i64 m, .int .i64 a, .int .i64 f, .int .i64 g], .func (.func 15) #[] #[]] w fun e w' => e = .returned (.tuple #[.int .i64 0, .int .i64 0, .int .i64 1]) ∧ Below w.heap.size w w' := by
  have hB := Below.refl w.heap.size w
  go_enter Tryd.func19, Tryd.ntmps19
  go_wp2_with (go_at_call 22; refine (validHung_calls _ _ _ _ _ _ hs).mono ?_; rintro e w1 ⟨rfl, hb⟩; obtain ⟨hc, hf⟩ := bcell hb; have hz := hb.size; (try simp at hz); (try have hl0 : w.heap.size < w1.heap.size := by omega); (try have hl1 : w.heap.size + 1 < w1.heap.size := by omega); (try have hl2 : w.heap.size + 1 + 1 < w1.heap.size := by omega); replace hB : Below w.heap.size w w1 := Below.trans (by go_grown) (hb.mono (by go_size)); clear hb)
  go_ret3
  exact ⟨rfl, hB⟩
set_option maxHeartbeats 400000 in
theorem greatestNo_horizontal (s : ByteArray) (m a f g : Int) (w : World) (hs : s.size ≤ maxLen) (h : hungB s m a f g = false) :
    Calls Tryd.prog 19 #[.agg #[.string s, .int .i64 m, .int .i64 a, .int .i64 f, .int .i64 g], .func (.func 16) #[] #[]] w fun e w' => e = .returned (.tuple #[.int .i64 0, .int .i64 0, .int .i64 1]) ∧ Below w.heap.size w w' := by
  have hB := Below.refl w.heap.size w
  go_enter Tryd.func19, Tryd.ntmps19
  go_wp2_with (go_at_call 22; refine (validHung_calls _ _ _ _ _ _ hs).mono ?_; rintro e w1 ⟨rfl, hb⟩; obtain ⟨hc, hf⟩ := bcell hb; have hz := hb.size; (try simp at hz); (try have hl0 : w.heap.size < w1.heap.size := by omega); (try have hl1 : w.heap.size + 1 < w1.heap.size := by omega); (try have hl2 : w.heap.size + 1 + 1 < w1.heap.size := by omega); replace hB : Below w.heap.size w w1 := Below.trans (by go_grown) (hb.mono (by go_size)); clear hb)
  go_ret3
  exact ⟨rfl, hB⟩
set_option maxHeartbeats 1000000 in
theorem GreatestVertical_calls (s : ByteArray) (m a f g : Int) (w : World) (hs : s.size ≤ maxLen) (hT : HasTab w) :
    Calls Tryd.prog 10 #[.agg #[.string s, .int .i64 m, .int .i64 a, .int .i64 f, .int .i64 g]] w fun e w' => e = .returned (.tuple #[.int .i64 (grV (vert m f g) s m a f g), .int .i64 (grA (vert m f g) s m a f g), .int .i64 (okG (hungB s m a f g))]) ∧ Below w.heap.size w w' := by
  have hB := Below.refl w.heap.size w
  have HT := Lib.hid hT
  have hlt := hT.lt
  clear hT
  have hfin : Calls Tryd.prog 19 #[.agg #[.string s, .int .i64 m, .int .i64 a, .int .i64 f, .int .i64 g], .func (.func 15) #[] #[]] (w.alloc (.cells #[.string s, .int .i64 m, .int .i64 a, .int .i64 f, .int .i64 g] 25)) fun e w' => e = .returned (.tuple #[.int .i64 (grV (vert m f g) s m a f g), .int .i64 (grA (vert m f g) s m a f g), .int .i64 (okG (hungB s m a f g))]) ∧ Below (w.alloc (.cells #[.string s, .int .i64 m, .int .i64 a, .int .i64 f, .int .i64 g] 25)).heap.size (w.alloc (.cells #[.string s, .int .i64 m, .int .i64 a, .int .i64 f, .int .i64 g] 25)) w' := by
    cases h : hungB s m a f g
    · rw [show grV (vert m f g) s m a f g = 0 by simp [grV, h], show grA (vert m f g) s m a f g = 0 by simp [grA, h], show okG false = 1 from rfl]
      exact greatestNo_vertical s m a f g _ hs h
    · obtain ⟨_, ⟨m0, m1⟩, _, ⟨f0, f1⟩, _⟩ := hungB_of h
      rw [show grV (vert m f g) s m a f g = (best (vert m f g) g.toNat).1 by simp [grV, h], show grA (vert m f g) s m a f g = (best (vert m f g) g.toNat).2 by simp [grA, h], show okG true = 0 from rfl]
      exact greatest_vertical (vert m f g) s m a f g _ hs (HT.out.alloc _) h (fun d W hW => vertical_calls _ _ _ _ _ _ _ hW m0 m1 f0 f1)
  have HF := Lib.hid hfin
  clear hfin
  go_enter Tryd.func10, Tryd.ntmps10
  go_wp2_with (go_at_call 19; refine HF.out.mono ?_; rintro e w1 ⟨rfl, hb⟩; obtain ⟨hc, hf⟩ := bcell hb; have hz := hb.size; (try simp at hz); (try have hl0 : w.heap.size < w1.heap.size := by omega); (try have hl1 : w.heap.size + 1 < w1.heap.size := by omega); (try have hl2 : w.heap.size + 1 + 1 < w1.heap.size := by omega); replace hB : Below w.heap.size w w1 := Below.trans (by go_grown) (hb.mono (by go_size)); clear hb)
  go_ret3
  exact ⟨rfl, hB⟩
set_option maxHeartbeats 1000000 in
theorem GreatestHorizontal_calls (s : ByteArray) (m a f g : Int) (w : World) (hs : s.size ≤ maxLen) (hT : HasTab w) :
    Calls Tryd.prog 11 #[.agg #[.string s, .int .i64 m, .int .i64 a, .int .i64 f, .int .i64 g]] w fun e w' => e = .returned (.tuple #[.int .i64 (grV (hori m f g) s m a f g), .int .i64 (grA (hori m f g) s m a f g), .int .i64 (okG (hungB s m a f g))]) ∧ Below w.heap.size w w' := by
  have hB := Below.refl w.heap.size w
  have HT := Lib.hid hT
  have hlt := hT.lt
  clear hT
  have hfin : Calls Tryd.prog 19 #[.agg #[.string s, .int .i64 m, .int .i64 a, .int .i64 f, .int .i64 g], .func (.func 16) #[] #[]] (w.alloc (.cells #[.string s, .int .i64 m, .int .i64 a, .int .i64 f, .int .i64 g] 25)) fun e w' => e = .returned (.tuple #[.int .i64 (grV (hori m f g) s m a f g), .int .i64 (grA (hori m f g) s m a f g), .int .i64 (okG (hungB s m a f g))]) ∧ Below (w.alloc (.cells #[.string s, .int .i64 m, .int .i64 a, .int .i64 f, .int .i64 g] 25)).heap.size (w.alloc (.cells #[.string s, .int .i64 m, .int .i64 a, .int .i64 f, .int .i64 g] 25)) w' := by
    cases h : hungB s m a f g
    · rw [show grV (hori m f g) s m a f g = 0 by simp [grV, h], show grA (hori m f g) s m a f g = 0 by simp [grA, h], show okG false = 1 from rfl]
      exact greatestNo_horizontal s m a f g _ hs h
    · obtain ⟨_, ⟨m0, m1⟩, _, ⟨f0, f1⟩, _⟩ := hungB_of h
      rw [show grV (hori m f g) s m a f g = (best (hori m f g) g.toNat).1 by simp [grV, h], show grA (hori m f g) s m a f g = (best (hori m f g) g.toNat).2 by simp [grA, h], show okG true = 0 from rfl]
      exact greatest_horizontal (hori m f g) s m a f g _ hs (HT.out.alloc _) h (fun d W hW => horizontal_calls _ _ _ _ _ _ _ hW m0 m1 f0 f1)
  have HF := Lib.hid hfin
  clear hfin
  go_enter Tryd.func11, Tryd.ntmps11
  go_wp2_with (go_at_call 19; refine HF.out.mono ?_; rintro e w1 ⟨rfl, hb⟩; obtain ⟨hc, hf⟩ := bcell hb; have hz := hb.size; (try simp at hz); (try have hl0 : w.heap.size < w1.heap.size := by omega); (try have hl1 : w.heap.size + 1 < w1.heap.size := by omega); (try have hl2 : w.heap.size + 1 + 1 < w1.heap.size := by omega); replace hB : Below w.heap.size w w1 := Below.trans (by go_grown) (hb.mono (by go_size)); clear hb)
  go_ret3
  exact ⟨rfl, hB⟩
end Go.Proofs.YtkbjampfmcegpaaDoor
