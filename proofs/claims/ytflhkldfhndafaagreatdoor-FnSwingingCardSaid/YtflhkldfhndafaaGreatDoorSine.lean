/- Sines and cosines in thousandths, in the program (a package-level table) and in the reference (a literal). For every angle, where the table reads as its initialiser lays it. -/
import Derived.Test.YtflhkldfhndafaaGreatDoorBase
import Derived.Handy
namespace Go.Proofs.YtflhkldfhndafaaGreatDoor
set_option linter.unusedVariables false
open Go.RowKit


/-- the sines of 0 to 90 degrees -/
def sinL : List Int := [0, 17, 35, 52, 70, 87, 105, 122, 139, 156, 174, 191, 208, 225, 242, 259, 276, 292, 309, 326, 342, 358, 375, 391, 407, 423, 438, 454, 469, 485, 500, 515, 530, 545, 559, 574, 588, 602, 616, 629, 643, 656, 669, 682, 695, 707, 719, 731, 743, 755, 766, 777, 788, 799, 809, 819, 829, 839, 848, 857, 866, 875, 883, 891, 899, 906, 914, 921, 927, 934, 940, 946, 951, 956, 961, 966, 970, 974, 978, 982, 985, 988, 990, 993, 995, 996, 998, 999, 999, 1000, 1000]
/-- one of them -/
def sinT (i : Nat) : Int := sinL.getD i 0
theorem sinT_bd : ∀ i, 0 ≤ sinT i ∧ sinT i ≤ 1000 := by
  intro i
  by_cases h : i < 91
  · have : ∀ j : Fin 91, 0 ≤ sinT j ∧ sinT j ≤ 1000 := by decide +kernel
    exact this ⟨i, h⟩
  · have : sinT i = 0 := by
      unfold sinT
      rw [List.getD_eq_getElem?_getD, List.getElem?_eq_none (by have : sinL.length = 91 := rfl; omega)]
      rfl
    omega
/-- the sine of an angle from 0 to 359 -/
def sinK (k : Nat) : Int := if k ≤ 90 then sinT k else if k ≤ 180 then sinT (180 - k) else if k ≤ 270 then -sinT (k - 180) else -sinT (360 - k)
/-- the sine of an angle -/
def sinF (d : Int) : Int := sinK (d % 360).toNat
theorem sinF_bd (d : Int) : -1000 ≤ sinF d ∧ sinF d ≤ 1000 := by
  unfold sinF sinK
  have h1 := sinT_bd (d % 360).toNat
  have h2 := sinT_bd (180 - (d % 360).toNat)
  have h3 := sinT_bd ((d % 360).toNat - 180)
  have h4 := sinT_bd (360 - (d % 360).toNat)
  split
  · omega
  · split
    · omega
    · split <;> omega
/-- the cosine of an angle -/
def cosF (d : Int) : Int := sinF (d % 360 + 90)
theorem cosF_bd (d : Int) : -1000 ≤ cosF d ∧ cosF d ≤ 1000 := sinF_bd _
/-- the table's cells, in block 0 -/
def HasTab (w : World) : Prop := ∀ i, i < 91 → w.cell? ⟨0, i, none⟩ = some (.int .i64 (sinT i))
theorem HasTab.below {B : Nat} {w w' : World} (h : HasTab w) (hb : Below B w w') (hB : 0 < B) : HasTab w' := fun i hi => (hb.cell (p := ⟨0, i, none⟩) hB).trans (h i hi)
theorem HasTab.lt {w : World} (h : HasTab w) : 0 < w.heap.size := by
  have := h 0 (by omega)
  rcases Nat.lt_or_ge 0 w.heap.size with h1 | h1
  · exact h1
  · simp [World.cell?, Array.getElem?_eq_none h1] at this
theorem HasTab.drewN {w : World} (h : HasTab w) (n : Nat) : HasTab (w.drewN n) := h
theorem HasTab.alloc {w : World} (h : HasTab w) (o : Obj) : HasTab (w.alloc o) := h.below ((Below.refl _ _).alloc (Nat.le_refl _) _) h.lt

set_option maxHeartbeats 400000 in
theorem SineOf_calls (d : Int) (w : World) (hT : HasTab w) :
    Calls Tryz.prog 6 #[.int .i64 d] w fun e w' => e = .returned (.int .i64 (sinF d)) ∧ w = w' := by
  unfold sinF
  obtain ⟨k, hk1⟩ := Int.eq_ofNat_of_zero_le (Int.emod_nonneg d (show (360 : Int) ≠ 0 by omega))
  have hk := Lib.hid hk1
  have hk2 : k < 360 := by have := Int.emod_lt_of_pos d (show (0 : Int) < 360 by omega); omega
  rw [hk1, Int.toNat_natCast]
  clear hk1
  by_cases h1 : k ≤ 90
  ·
    rw [show sinK k = sinT k from by unfold sinK; rw [if_pos h1]]
    have hcell := hT (k) (by omega)
    have hb := sinT_bd (k)
    generalize sinT (k) = t at *
    clear hT
    go_enter Tryz.func6, Tryz.ntmps6
    go_wp2_with (go_at_call 16; refine (turn_calls _ _).mono ?_; rintro e w1 ⟨rfl, rfl⟩; rw [hk.out])
    go_ret
    exact ⟨rfl, rfl⟩
  · by_cases h2 : k ≤ 180
    ·
      rw [show sinK k = sinT (180 - k) from by unfold sinK; rw [if_neg h1, if_pos h2]]
      have hcell := hT (180 - k) (by omega)
      have hb := sinT_bd (180 - k)
      generalize sinT (180 - k) = t at *
      clear hT
      go_enter Tryz.func6, Tryz.ntmps6
      go_wp2_with (go_at_call 16; refine (turn_calls _ _).mono ?_; rintro e w1 ⟨rfl, rfl⟩; rw [hk.out])
      go_ret
      exact ⟨rfl, rfl⟩
    · by_cases h3 : k ≤ 270
      ·
        rw [show sinK k = -sinT (k - 180) from by unfold sinK; rw [if_neg h1, if_neg h2, if_pos h3]]
        have hcell := hT (k - 180) (by omega)
        have hb := sinT_bd (k - 180)
        generalize sinT (k - 180) = t at *
        clear hT
        go_enter Tryz.func6, Tryz.ntmps6
        go_wp2_with (go_at_call 16; refine (turn_calls _ _).mono ?_; rintro e w1 ⟨rfl, rfl⟩; rw [hk.out])
        go_ret
        exact ⟨rfl, rfl⟩
      ·
        rw [show sinK k = -sinT (360 - k) from by unfold sinK; rw [if_neg h1, if_neg h2, if_neg h3]]
        have hcell := hT (360 - k) (by omega)
        have hb := sinT_bd (360 - k)
        generalize sinT (360 - k) = t at *
        clear hT
        go_enter Tryz.func6, Tryz.ntmps6
        go_wp2_with (go_at_call 16; refine (turn_calls _ _).mono ?_; rintro e w1 ⟨rfl, rfl⟩; rw [hk.out])
        go_ret
        exact ⟨rfl, rfl⟩

theorem cell_map (w : World) (t : TypeId) (l : List Int) (i : Nat) (h : i < l.length) : (w.alloc (.cells (l.map (Value.int .i64)).toArray t)).cell? ⟨w.heap.size, i, none⟩ = some (.int .i64 (l.getD i 0)) := by
  rw [cell_of_row _ _ _ _ _ (0,0) (heap_alloc_new w _)]
  simp [h]
set_option maxHeartbeats 400000 in
theorem CosineOf_calls (d : Int) (w : World) (hT : HasTab w) :
    Calls Tryz.prog 7 #[.int .i64 d] w fun e w' => e = .returned (.int .i64 (cosF d)) ∧ w = w' := by
  unfold cosF
  have h1 := Int.emod_nonneg d (show (360 : Int) ≠ 0 by omega)
  have h2 := Int.emod_lt_of_pos d (show (0 : Int) < 360 by omega)
  have HT := Lib.hid hT
  clear hT
  go_enter Tryz.func7, Tryz.ntmps7
  go_wp2_with (first | (go_at_call 16; refine (turn_calls _ _).mono ?_; rintro e w1 ⟨rfl, rfl⟩) | (go_at_call 6; refine (SineOf_calls _ _ HT.out).mono ?_; rintro e w1 ⟨rfl, rfl⟩))
  go_ret
  exact ⟨rfl, rfl⟩

end Go.Proofs.YtflhkldfhndafaaGreatDoor
