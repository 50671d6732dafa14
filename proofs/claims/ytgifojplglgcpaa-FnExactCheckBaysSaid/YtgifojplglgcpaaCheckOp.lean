/- CheckBays, in the program and in the reference. -/
import Derived.Test.YtgifojplglgcpaaCheck
namespace Go.Proofs.Ytgifojplglgcpaa
set_option linter.unusedVariables false
open Go.RowKit

noncomputable def baysB (n : Nat) (bs : Nat → ByteArray) (br bd : Nat → Int) : Bool := allB (goodAt (fun i => bayB (bs i) (br i) (bd i)) bs) n && decide ((n : Int) ≤ 8)
noncomputable def castsB (n : Nat) (cs : Nat → ByteArray) (cr cd ct cf : Nat → Int) : Bool := allB (goodAt (fun i => castB (cs i) (cr i) (cd i) (ct i) (cf i)) cs) n && decide ((n : Int) ≤ 12)
noncomputable def checkB (n : Nat) (bs : Nat → ByteArray) (br bd : Nat → Int) (n2 : Nat) (cs : Nat → ByteArray) (cr cd ct cf : Nat → Int) (n3 : Nat) (p : Nat → Int) : Bool := baysB n bs br bd && (castsB n2 cs cr cd ct cf && placesB br bd cr cd p ct cf n n2 n3)
theorem castsB_ok {n : Nat} {cs : Nat → ByteArray} {cr cd ct cf : Nat → Int} (h : castsB n cs cr cd ct cf = true) : CastOk n ct cf := fun i hi => by
  have h1 := allB_of (Bool.and_eq_true _ _ |>.mp h).1 i hi
  simp only [goodAt, Bool.and_eq_true] at h1
  exact castB_of h1.1
set_option maxHeartbeats 4000000 in
theorem CheckBays_calls (A : Option Addr) (n c : Nat) (bs : Nat → ByteArray) (br bd : Nat → Int) (B : Option Addr) (n2 c2 : Nat) (cs : Nat → ByteArray) (cr cd ct cf : Nat → Int) (P : Option Addr) (n3 cp : Nat) (p : Nat → Int) (w : World) (hbs : ∀ i, i < n → (bs i).size ≤ maxLen) (hcs : ∀ i, i < n2 → (cs i).size ≤ maxLen) (h : BayRow w A n bs br bd) (h2 : CastingRow w B n2 cs cr cd ct cf) (h3 : IntRow w P n3 p) (hn : n ≤ 1048576) (hn2 : n2 ≤ 1048576) (hn3 : n3 ≤ 1048576) (hcp : n3 ≤ cp) (hcm : cp ≤ maxLen) :
    Calls Try.prog 27 #[.slice A n c, .slice B n2 c2, .slice P n3 cp] w fun e w' => e = .returned (.bool (checkB n bs br bd n2 cs cr cd ct cf n3 p)) ∧ Below w.heap.size w w' := by
  have H := Lib.hid h
  have H2 := Lib.hid h2
  have H3 := Lib.hid h3
  clear h h2 h3
  cases q1 : baysB n bs br bd
  · go_enter Try.func27, Try.ntmps27
    go_wp2_with (go_at_call 18; refine (impl_ValidBays_calls A n c bs br bd w H.out hbs (by unfold maxLen; omega)).mono ?_; rintro e w1 ⟨rfl, hb1⟩; rw [show (allB (goodAt (fun i => bayB (bs i) (br i) (bd i)) bs) n && decide ((n : Int) ≤ 8)) = _ from q1])
    go_ret
    exact ⟨ret_bool (by simp [checkB, q1]), hb1⟩
  · cases q2 : castsB n2 cs cr cd ct cf
    · go_enter Try.func27, Try.ntmps27
      go_wp2_with (first | (go_at_call 18; refine (impl_ValidBays_calls A n c bs br bd w H.out hbs (by unfold maxLen; omega)).mono ?_; rintro e w1 ⟨rfl, hb1⟩; rw [show (allB (goodAt (fun i => bayB (bs i) (br i) (bd i)) bs) n && decide ((n : Int) ≤ 8)) = _ from q1]) | (go_at_call 23; refine (impl_ValidCastings_calls B n2 c2 cs cr cd ct cf w1 (H2.out.below hb1 (Nat.le_refl _)) hcs (by unfold maxLen; omega)).mono ?_; rintro e w2 ⟨rfl, hb2⟩; rw [show (allB (goodAt (fun i => castB (cs i) (cr i) (cd i) (ct i) (cf i)) cs) n2 && decide ((n2 : Int) ≤ 12)) = _ from q2]))
      go_ret
      exact ⟨ret_bool (by simp [checkB, q1, q2]), hb1.trans (hb2.mono hb1.size)⟩
    · have HO := Lib.hid (castsB_ok q2)
      go_enter Try.func27, Try.ntmps27
      go_wp2_with (first | (go_at_call 18; refine (impl_ValidBays_calls A n c bs br bd w H.out hbs (by unfold maxLen; omega)).mono ?_; rintro e w1 ⟨rfl, hb1⟩; rw [show (allB (goodAt (fun i => bayB (bs i) (br i) (bd i)) bs) n && decide ((n : Int) ≤ 8)) = _ from q1]) | (go_at_call 23; refine (impl_ValidCastings_calls B n2 c2 cs cr cd ct cf w1 (H2.out.below hb1 (Nat.le_refl _)) hcs (by unfold maxLen; omega)).mono ?_; rintro e w2 ⟨rfl, hb2⟩; have hb3 := hb1.trans (hb2.mono hb1.size); rw [show (allB (goodAt (fun i => castB (cs i) (cr i) (cd i) (ct i) (cf i)) cs) n2 && decide ((n2 : Int) ≤ 12)) = _ from q2]) | (go_at_call 77; refine (arePossible_calls A n c bs br bd B n2 c2 cs cr cd ct cf P n3 cp p w2 (H.out.below hb3 (Nat.le_refl _)) (H2.out.below hb3 (Nat.le_refl _)) (H3.out.keep hb3) HO.out hn hn2 hn3 hcp hcm).mono ?_; rintro e w4 ⟨rfl, hb4⟩))
      go_ret
      exact ⟨ret_bool (by simp [checkB, q1, q2]), hb3.trans (hb4.mono hb3.size)⟩
set_option maxHeartbeats 4000000 in
theorem sCheckBays_calls (A : Option Addr) (n c : Nat) (bs : Nat → ByteArray) (br bd : Nat → Int) (B : Option Addr) (n2 c2 : Nat) (cs : Nat → ByteArray) (cr cd ct cf : Nat → Int) (P : Option Addr) (n3 cp : Nat) (p : Nat → Int) (w : World) (hbs : ∀ i, i < n → (bs i).size ≤ maxLen) (hcs : ∀ i, i < n2 → (cs i).size ≤ maxLen) (h : BayRow w A n bs br bd) (h2 : CastingRow w B n2 cs cr cd ct cf) (h3 : IntRow w P n3 p) (hn : n ≤ 1048576) (hn2 : n2 ≤ 1048576) (hn3 : n3 ≤ 1048576)  :
    Calls Try.prog 25 #[.slice A n c, .slice B n2 c2, .slice P n3 cp] w fun e w' => e = .returned (.bool (checkB n bs br bd n2 cs cr cd ct cf n3 p)) ∧ Below w.heap.size w w' := by
  have H := Lib.hid h
  have H2 := Lib.hid h2
  have H3 := Lib.hid h3
  clear h h2 h3
  cases q1 : baysB n bs br bd
  · go_enter Try.func25, Try.ntmps25
    go_wp2_with (go_at_call 67; refine (spec_l16Bays_calls A n c bs br bd w H.out hbs (by unfold maxLen; omega)).mono ?_; rintro e w1 ⟨rfl, hb1⟩; rw [show (allB (goodAt (fun i => bayB (bs i) (br i) (bd i)) bs) n && decide ((n : Int) ≤ 8)) = _ from q1])
    go_ret
    exact ⟨ret_bool (by simp [checkB, q1]), hb1⟩
  · cases q2 : castsB n2 cs cr cd ct cf
    · go_enter Try.func25, Try.ntmps25
      go_wp2_with (first | (go_at_call 67; refine (spec_l16Bays_calls A n c bs br bd w H.out hbs (by unfold maxLen; omega)).mono ?_; rintro e w1 ⟨rfl, hb1⟩; rw [show (allB (goodAt (fun i => bayB (bs i) (br i) (bd i)) bs) n && decide ((n : Int) ≤ 8)) = _ from q1]) | (go_at_call 72; refine (spec_l16Castings_calls B n2 c2 cs cr cd ct cf w1 (H2.out.below hb1 (Nat.le_refl _)) hcs (by unfold maxLen; omega)).mono ?_; rintro e w2 ⟨rfl, hb2⟩; rw [show (allB (goodAt (fun i => castB (cs i) (cr i) (cd i) (ct i) (cf i)) cs) n2 && decide ((n2 : Int) ≤ 12)) = _ from q2]))
      go_ret
      exact ⟨ret_bool (by simp [checkB, q1, q2]), hb1.trans (hb2.mono hb1.size)⟩
    · have HO := Lib.hid (castsB_ok q2)
      go_enter Try.func25, Try.ntmps25
      go_wp2_with (first | (go_at_call 67; refine (spec_l16Bays_calls A n c bs br bd w H.out hbs (by unfold maxLen; omega)).mono ?_; rintro e w1 ⟨rfl, hb1⟩; rw [show (allB (goodAt (fun i => bayB (bs i) (br i) (bd i)) bs) n && decide ((n : Int) ≤ 8)) = _ from q1]) | (go_at_call 72; refine (spec_l16Castings_calls B n2 c2 cs cr cd ct cf w1 (H2.out.below hb1 (Nat.le_refl _)) hcs (by unfold maxLen; omega)).mono ?_; rintro e w2 ⟨rfl, hb2⟩; have hb3 := hb1.trans (hb2.mono hb1.size); rw [show (allB (goodAt (fun i => castB (cs i) (cr i) (cd i) (ct i) (cf i)) cs) n2 && decide ((n2 : Int) ≤ 12)) = _ from q2]) | (go_at_call 76; refine (l16Check_calls A n c bs br bd B n2 c2 cs cr cd ct cf P n3 cp p w2 (H.out.below hb3 (Nat.le_refl _)) (H2.out.below hb3 (Nat.le_refl _)) (H3.out.keep hb3) HO.out hn hn2 hn3).mono ?_; rintro e w4 ⟨rfl, nd, rfl⟩))
      go_ret
      exact ⟨ret_bool (by simp [checkB, q1, q2]), below_drewN hb3 nd⟩
end Go.Proofs.Ytgifojplglgcpaa
