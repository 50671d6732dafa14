/- FirstWrong and IsSchedule, in the program and in the reference. -/
import Derived.Test.YtaanlkdpconfiaaWrong
namespace Go.Proofs.Ytaanlkdpconfiaa
set_option linter.unusedVariables false
open Go.RowKit

noncomputable def poursB (n : Nat) (ps : Nat → ByteArray) (pm pr pd : Nat → Int) : Bool := allB (goodAt (fun i => pourB (ps i) (pm i) (pr i) (pd i)) ps) n && decide ((n : Int) ≤ 12)
noncomputable def crucsB (m : Nat) (cs : Nat → ByteArray) (cc ch cf : Nat → Int) : Bool := allB (goodAt (fun i => crucB (cs i) (cc i) (ch i) (cf i)) cs) m && (decide ((1 : Int) ≤ m) && decide ((m : Int) ≤ 4))
theorem crucsB_of {m : Nat} {cs : Nat → ByteArray} {cc ch cf : Nat → Int} (h : crucsB m cs cc ch cf = true) : 0 < m ∧ ∀ i, i < m → 1 ≤ ch i ∧ ch i ≤ 10000 := by
  obtain ⟨h1, h2⟩ := Bool.and_eq_true _ _ |>.mp h
  have h3 := of_decide_eq_true (Bool.and_eq_true _ _ |>.mp h2).1
  refine ⟨by omega, fun i hi => ?_⟩
  have h4 := allB_of h1 i hi
  simp only [goodAt, Bool.and_eq_true] at h4
  exact (crucB_of h4.1).2.1
theorem i64_wf {n : Int} (h : (Lit.int .i64 n).wf = true) : -9223372036854775808 ≤ n ∧ n ≤ 9223372036854775807 := by
  simpa [Lit.wf, IntKind.min, IntKind.max, IntKind.signed, IntKind.bits] using h
/-- the fields are numbers that an int64 holds -/
def HeatWf (m q : Nat) (cf a2 a3 : Nat → Int) : Prop := (∀ i, i < m → -9223372036854775808 ≤ cf i) ∧ (∀ i, i < q → -9223372036854775808 ≤ a2 i ∧ a2 i ≤ 9223372036854775807) ∧ (∀ i, i < q → -9223372036854775808 ≤ a3 i)
theorem heat_wf {m q : Nat} {cf a2 a3 : Nat → Int} (h1 : ∀ i, i < m → (Lit.int .i64 (cf i)).wf = true) (h2 : ∀ i, i < q → (Lit.int .i64 (a2 i)).wf = true) (h3 : ∀ i, i < q → (Lit.int .i64 (a3 i)).wf = true) : HeatWf m q cf a2 a3 :=
  ⟨fun i hi => (i64_wf (h1 i hi)).1, fun i hi => i64_wf (h2 i hi), fun i hi => (i64_wf (h3 i hi)).1⟩
theorem fa_bd {m q : Nat} {cf a1 a2 a3 : Nat → Int} (h : HeatWf m q cf a2 a3) : ∀ k, k ≤ q → ∀ x, x < m → -9223372036854775808 ≤ fa a1 a3 (cf x) x k
  | 0, _, x, hx => h.1 x hx
  | k + 1, hk, x, hx => by
    unfold fa
    split
    · exact h.2.2 k (by omega)
    · exact fa_bd h k (by omega) x hx
noncomputable def fwC (n : Nat) (ps : Nat → ByteArray) (pm pr pd : Nat → Int) (m : Nat) (cs : Nat → ByteArray) (cc ch cf : Nat → Int) : Int := if poursB n ps pm pr pd = true ∧ crucsB m cs cc ch cf = true then 0 else 1
noncomputable def fwV (n : Nat) (ps : Nat → ByteArray) (pm pr pd : Nat → Int) (m : Nat) (cs : Nat → ByteArray) (cc ch cf : Nat → Int) (q : Nat) (a0 a1 a2 a3 : Nat → Int) : Int := if poursB n ps pm pr pd = true ∧ crucsB m cs cc ch cf = true then fno (okH n m pm pr pd cc ch cf a0 a1 a2 a3) q else 0
noncomputable def isB (n : Nat) (ps : Nat → ByteArray) (pm pr pd : Nat → Int) (m : Nat) (cs : Nat → ByteArray) (cc ch cf : Nat → Int) (q : Nat) (a0 a1 a2 a3 : Nat → Int) : Bool := poursB n ps pm pr pd && (crucsB m cs cc ch cf && (q == n && allB (okH n m pm pr pd cc ch cf a0 a1 a2 a3) q))
set_option maxHeartbeats 4000000 in
theorem FirstWrong_calls (A : Option Addr) (n c : Nat) (ps : Nat → ByteArray) (pm pr pd : Nat → Int) (B : Option Addr) (m c2 : Nat) (cs : Nat → ByteArray) (cc ch cf : Nat → Int) (C : Option Addr) (q c3 : Nat) (a0 a1 a2 a3 : Nat → Int) (w : World) (hps : ∀ i, i < n → (ps i).size ≤ maxLen) (hcs : ∀ i, i < m → (cs i).size ≤ maxLen) (h : PourRow w A n ps pm pr pd) (h2 : CrucibleRow w B m cs cc ch cf) (h3 : HeatRow w C q a0 a1 a2 a3) (hn : n ≤ 1048576) (hm : m ≤ 1048576) (hq : q ≤ 1048576) (hq3 : q ≤ c3) (hc3 : c3 ≤ maxLen) (hw : HeatWf m q cf a2 a3) :
    Calls Try.prog 24 #[.slice A n c, .slice B m c2, .slice C q c3] w fun e w' => e = .returned (.tuple #[.int .i64 (fwV n ps pm pr pd m cs cc ch cf q a0 a1 a2 a3), .int .i64 (fwC n ps pm pr pd m cs cc ch cf)]) ∧ Below w.heap.size w w' := by
  have H := Lib.hid h
  have H2 := Lib.hid h2
  have H3 := Lib.hid h3
  have HW := Lib.hid hw
  clear h h2 h3 hw
  cases q1 : poursB n ps pm pr pd
  · rw [show fwV n ps pm pr pd m cs cc ch cf q a0 a1 a2 a3 = 0 by simp [fwV, q1], show fwC n ps pm pr pd m cs cc ch cf = 1 by simp [fwC, q1]]
    go_enter Try.func24, Try.ntmps24
    go_wp2_with (first | (go_at_call 74; refine (impl_ValidPours_calls A n c ps pm pr pd w H.out hps (by unfold maxLen; omega)).mono ?_; rintro e w1 ⟨rfl, hb1⟩; rw [show (allB (goodAt (fun i => pourB (ps i) (pm i) (pr i) (pd i)) ps) n && decide ((n : Int) ≤ 12)) = _ from q1]) | (go_at_call 75; refine (impl_ValidCrucibles_calls B m c2 cs cc ch cf w1 (H2.out.below hb1 (Nat.le_refl _)) hcs (by unfold maxLen; omega)).mono ?_; rintro e w2 ⟨rfl, hb2⟩; have hb3 := hb1.trans (hb2.mono hb1.size); rw [show (allB (goodAt (fun i => crucB (cs i) (cc i) (ch i) (cf i)) cs) m && (decide ((1 : Int) ≤ m) && decide ((m : Int) ≤ 4))) = _ from q2]))
    go_ret2
    exact ⟨rfl, hb1⟩
  · cases q2 : crucsB m cs cc ch cf
    · rw [show fwV n ps pm pr pd m cs cc ch cf q a0 a1 a2 a3 = 0 by simp [fwV, q1, q2], show fwC n ps pm pr pd m cs cc ch cf = 1 by simp [fwC, q1, q2]]
      go_enter Try.func24, Try.ntmps24
      go_wp2_with (first | (go_at_call 74; refine (impl_ValidPours_calls A n c ps pm pr pd w H.out hps (by unfold maxLen; omega)).mono ?_; rintro e w1 ⟨rfl, hb1⟩; rw [show (allB (goodAt (fun i => pourB (ps i) (pm i) (pr i) (pd i)) ps) n && decide ((n : Int) ≤ 12)) = _ from q1]) | (go_at_call 75; refine (impl_ValidCrucibles_calls B m c2 cs cc ch cf w1 (H2.out.below hb1 (Nat.le_refl _)) hcs (by unfold maxLen; omega)).mono ?_; rintro e w2 ⟨rfl, hb2⟩; have hb3 := hb1.trans (hb2.mono hb1.size); rw [show (allB (goodAt (fun i => crucB (cs i) (cc i) (ch i) (cf i)) cs) m && (decide ((1 : Int) ≤ m) && decide ((m : Int) ≤ 4))) = _ from q2]))
      go_ret2
      exact ⟨rfl, hb3⟩
    · have HO := Lib.hid (crucsB_of q2)
      rw [show fwV n ps pm pr pd m cs cc ch cf q a0 a1 a2 a3 = fno (okH n m pm pr pd cc ch cf a0 a1 a2 a3) q by simp [fwV, q1, q2], show fwC n ps pm pr pd m cs cc ch cf = 0 by simp [fwC, q1, q2]]
      go_enter Try.func24, Try.ntmps24
      go_wp2_with (first | (go_at_call 74; refine (impl_ValidPours_calls A n c ps pm pr pd w H.out hps (by unfold maxLen; omega)).mono ?_; rintro e w1 ⟨rfl, hb1⟩; rw [show (allB (goodAt (fun i => pourB (ps i) (pm i) (pr i) (pd i)) ps) n && decide ((n : Int) ≤ 12)) = _ from q1]) | (go_at_call 75; refine (impl_ValidCrucibles_calls B m c2 cs cc ch cf w1 (H2.out.below hb1 (Nat.le_refl _)) hcs (by unfold maxLen; omega)).mono ?_; rintro e w2 ⟨rfl, hb2⟩; have hb3 := hb1.trans (hb2.mono hb1.size); rw [show (allB (goodAt (fun i => crucB (cs i) (cc i) (ch i) (cf i)) cs) m && (decide ((1 : Int) ≤ m) && decide ((m : Int) ≤ 4))) = _ from q2])| (go_at_call 76; refine (firstWrong_calls A n c ps pm pr pd B m c2 cs cc ch cf C q c3 a0 a1 a2 a3 w2 (H.out.below hb3 (Nat.le_refl _)) (H2.out.below hb3 (Nat.le_refl _)) (H3.out.below hb3 (Nat.le_refl _)) hn hm hq hq3 hc3 HO.out.2 HW.out.2.1).mono ?_; rintro e w4 ⟨rfl, hb4⟩; have hb5 := hb3.trans (hb4.mono hb3.size)))
      go_ret2
      exact ⟨rfl, hb5⟩
set_option maxHeartbeats 4000000 in
theorem sFirstWrong_calls (A : Option Addr) (n c : Nat) (ps : Nat → ByteArray) (pm pr pd : Nat → Int) (B : Option Addr) (m c2 : Nat) (cs : Nat → ByteArray) (cc ch cf : Nat → Int) (C : Option Addr) (q c3 : Nat) (a0 a1 a2 a3 : Nat → Int) (w : World) (hps : ∀ i, i < n → (ps i).size ≤ maxLen) (hcs : ∀ i, i < m → (cs i).size ≤ maxLen) (h : PourRow w A n ps pm pr pd) (h2 : CrucibleRow w B m cs cc ch cf) (h3 : HeatRow w C q a0 a1 a2 a3) (hn : n ≤ 1048576) (hm : m ≤ 1048576) (hq : q ≤ 1048576)  (hw : HeatWf m q cf a2 a3) :
    Calls Try.prog 23 #[.slice A n c, .slice B m c2, .slice C q c3] w fun e w' => e = .returned (.tuple #[.int .i64 (fwV n ps pm pr pd m cs cc ch cf q a0 a1 a2 a3), .int .i64 (fwC n ps pm pr pd m cs cc ch cf)]) ∧ Below w.heap.size w w' := by
  have H := Lib.hid h
  have H2 := Lib.hid h2
  have H3 := Lib.hid h3
  have HW := Lib.hid hw
  clear h h2 h3 hw
  cases q1 : poursB n ps pm pr pd
  · rw [show fwV n ps pm pr pd m cs cc ch cf q a0 a1 a2 a3 = 0 by simp [fwV, q1], show fwC n ps pm pr pd m cs cc ch cf = 1 by simp [fwC, q1]]
    go_enter Try.func23, Try.ntmps23
    go_wp2_with (first | (go_at_call 68; refine (spec_l17Pours_calls A n c ps pm pr pd w H.out hps (by unfold maxLen; omega)).mono ?_; rintro e w1 ⟨rfl, hb1⟩; rw [show (allB (goodAt (fun i => pourB (ps i) (pm i) (pr i) (pd i)) ps) n && decide ((n : Int) ≤ 12)) = _ from q1]) | (go_at_call 69; refine (spec_l17Crucibles_calls B m c2 cs cc ch cf w1 (H2.out.below hb1 (Nat.le_refl _)) hcs (by unfold maxLen; omega)).mono ?_; rintro e w2 ⟨rfl, hb2⟩; have hb3 := hb1.trans (hb2.mono hb1.size); rw [show (allB (goodAt (fun i => crucB (cs i) (cc i) (ch i) (cf i)) cs) m && (decide ((1 : Int) ≤ m) && decide ((m : Int) ≤ 4))) = _ from q2]))
    go_ret2
    exact ⟨rfl, hb1⟩
  · cases q2 : crucsB m cs cc ch cf
    · rw [show fwV n ps pm pr pd m cs cc ch cf q a0 a1 a2 a3 = 0 by simp [fwV, q1, q2], show fwC n ps pm pr pd m cs cc ch cf = 1 by simp [fwC, q1, q2]]
      go_enter Try.func23, Try.ntmps23
      go_wp2_with (first | (go_at_call 68; refine (spec_l17Pours_calls A n c ps pm pr pd w H.out hps (by unfold maxLen; omega)).mono ?_; rintro e w1 ⟨rfl, hb1⟩; rw [show (allB (goodAt (fun i => pourB (ps i) (pm i) (pr i) (pd i)) ps) n && decide ((n : Int) ≤ 12)) = _ from q1]) | (go_at_call 69; refine (spec_l17Crucibles_calls B m c2 cs cc ch cf w1 (H2.out.below hb1 (Nat.le_refl _)) hcs (by unfold maxLen; omega)).mono ?_; rintro e w2 ⟨rfl, hb2⟩; have hb3 := hb1.trans (hb2.mono hb1.size); rw [show (allB (goodAt (fun i => crucB (cs i) (cc i) (ch i) (cf i)) cs) m && (decide ((1 : Int) ≤ m) && decide ((m : Int) ≤ 4))) = _ from q2]))
      go_ret2
      exact ⟨rfl, hb3⟩
    · have HO := Lib.hid (crucsB_of q2)
      rw [show fwV n ps pm pr pd m cs cc ch cf q a0 a1 a2 a3 = fno (okH n m pm pr pd cc ch cf a0 a1 a2 a3) q by simp [fwV, q1, q2], show fwC n ps pm pr pd m cs cc ch cf = 0 by simp [fwC, q1, q2]]
      go_enter Try.func23, Try.ntmps23
      go_wp2_with (first | (go_at_call 68; refine (spec_l17Pours_calls A n c ps pm pr pd w H.out hps (by unfold maxLen; omega)).mono ?_; rintro e w1 ⟨rfl, hb1⟩; rw [show (allB (goodAt (fun i => pourB (ps i) (pm i) (pr i) (pd i)) ps) n && decide ((n : Int) ≤ 12)) = _ from q1]) | (go_at_call 69; refine (spec_l17Crucibles_calls B m c2 cs cc ch cf w1 (H2.out.below hb1 (Nat.le_refl _)) hcs (by unfold maxLen; omega)).mono ?_; rintro e w2 ⟨rfl, hb2⟩; have hb3 := hb1.trans (hb2.mono hb1.size); rw [show (allB (goodAt (fun i => crucB (cs i) (cc i) (ch i) (cf i)) cs) m && (decide ((1 : Int) ≤ m) && decide ((m : Int) ≤ 4))) = _ from q2])| (go_at_call 70; refine (l17Wrong_calls A n c ps pm pr pd B m c2 cs cc ch cf C q c3 a0 a1 a2 a3 w2 (H.out.below hb3 (Nat.le_refl _)) (H2.out.below hb3 (Nat.le_refl _)) (H3.out.below hb3 (Nat.le_refl _)) hn hm hq HO.out.1 HO.out.2 HW.out.2.1 (fa_bd HW.out)).mono ?_; rintro e w4 ⟨rfl, hb4⟩; have hb5 := hb3.trans (hb4.mono hb3.size)))
      go_ret2
      exact ⟨rfl, hb5⟩
set_option maxHeartbeats 4000000 in
theorem IsSchedule_calls (A : Option Addr) (n c : Nat) (ps : Nat → ByteArray) (pm pr pd : Nat → Int) (B : Option Addr) (m c2 : Nat) (cs : Nat → ByteArray) (cc ch cf : Nat → Int) (C : Option Addr) (q c3 : Nat) (a0 a1 a2 a3 : Nat → Int) (w : World) (hps : ∀ i, i < n → (ps i).size ≤ maxLen) (hcs : ∀ i, i < m → (cs i).size ≤ maxLen) (h : PourRow w A n ps pm pr pd) (h2 : CrucibleRow w B m cs cc ch cf) (h3 : HeatRow w C q a0 a1 a2 a3) (hn : n ≤ 1048576) (hm : m ≤ 1048576) (hq : q ≤ 1048576) (hq3 : q ≤ c3) (hc3 : c3 ≤ maxLen) (hw : HeatWf m q cf a2 a3) :
    Calls Try.prog 19 #[.slice A n c, .slice B m c2, .slice C q c3] w fun e w' => e = .returned (.bool (isB n ps pm pr pd m cs cc ch cf q a0 a1 a2 a3)) ∧ Below w.heap.size w w' := by
  have H := Lib.hid h
  have H2 := Lib.hid h2
  have H3 := Lib.hid h3
  have HW := Lib.hid hw
  clear h h2 h3 hw
  cases q1 : poursB n ps pm pr pd
  ·
    go_enter Try.func19, Try.ntmps19
    go_wp2_with (first | (go_at_call 74; refine (impl_ValidPours_calls A n c ps pm pr pd w H.out hps (by unfold maxLen; omega)).mono ?_; rintro e w1 ⟨rfl, hb1⟩; rw [show (allB (goodAt (fun i => pourB (ps i) (pm i) (pr i) (pd i)) ps) n && decide ((n : Int) ≤ 12)) = _ from q1]) | (go_at_call 75; refine (impl_ValidCrucibles_calls B m c2 cs cc ch cf w1 (H2.out.below hb1 (Nat.le_refl _)) hcs (by unfold maxLen; omega)).mono ?_; rintro e w2 ⟨rfl, hb2⟩; have hb3 := hb1.trans (hb2.mono hb1.size); rw [show (allB (goodAt (fun i => crucB (cs i) (cc i) (ch i) (cf i)) cs) m && (decide ((1 : Int) ≤ m) && decide ((m : Int) ≤ 4))) = _ from q2]))
    go_ret
    exact ⟨ret_bool (by simp [isB, q1]), hb1⟩
  · cases q2 : crucsB m cs cc ch cf
    ·
      go_enter Try.func19, Try.ntmps19
      go_wp2_with (first | (go_at_call 74; refine (impl_ValidPours_calls A n c ps pm pr pd w H.out hps (by unfold maxLen; omega)).mono ?_; rintro e w1 ⟨rfl, hb1⟩; rw [show (allB (goodAt (fun i => pourB (ps i) (pm i) (pr i) (pd i)) ps) n && decide ((n : Int) ≤ 12)) = _ from q1]) | (go_at_call 75; refine (impl_ValidCrucibles_calls B m c2 cs cc ch cf w1 (H2.out.below hb1 (Nat.le_refl _)) hcs (by unfold maxLen; omega)).mono ?_; rintro e w2 ⟨rfl, hb2⟩; have hb3 := hb1.trans (hb2.mono hb1.size); rw [show (allB (goodAt (fun i => crucB (cs i) (cc i) (ch i) (cf i)) cs) m && (decide ((1 : Int) ≤ m) && decide ((m : Int) ≤ 4))) = _ from q2]))
      go_ret
      exact ⟨ret_bool (by simp [isB, q1, q2]), hb3⟩
    · have HO := Lib.hid (crucsB_of q2)
      by_cases hne : q = n
      · have hne2 : decide (q = n) = true := decide_eq_true hne
        have hne3 : (q == n) = true := beq_iff_eq.2 hne
        have hne4 : (((q : Nat) : Int) == ((n : Nat) : Int)) = true := beq_iff_eq.2 (by omega)
        clear hne
        go_enter Try.func19, Try.ntmps19
        go_wp2_with (first | (go_at_call 74; refine (impl_ValidPours_calls A n c ps pm pr pd w H.out hps (by unfold maxLen; omega)).mono ?_; rintro e w1 ⟨rfl, hb1⟩; rw [show (allB (goodAt (fun i => pourB (ps i) (pm i) (pr i) (pd i)) ps) n && decide ((n : Int) ≤ 12)) = _ from q1]) | (go_at_call 75; refine (impl_ValidCrucibles_calls B m c2 cs cc ch cf w1 (H2.out.below hb1 (Nat.le_refl _)) hcs (by unfold maxLen; omega)).mono ?_; rintro e w2 ⟨rfl, hb2⟩; have hb3 := hb1.trans (hb2.mono hb1.size); rw [show (allB (goodAt (fun i => crucB (cs i) (cc i) (ch i) (cf i)) cs) m && (decide ((1 : Int) ≤ m) && decide ((m : Int) ≤ 4))) = _ from q2])| (go_at_call 76; refine (firstWrong_calls A n c ps pm pr pd B m c2 cs cc ch cf C q c3 a0 a1 a2 a3 w2 (H.out.below hb3 (Nat.le_refl _)) (H2.out.below hb3 (Nat.le_refl _)) (H3.out.below hb3 (Nat.le_refl _)) hn hm hq hq3 hc3 HO.out.2 HW.out.2.1).mono ?_; rintro e w4 ⟨rfl, hb4⟩; have hb5 := hb3.trans (hb4.mono hb3.size)))
        go_ret
        exact ⟨ret_bool (by rw [isB, q1, q2, fno_neg, hne3]; rfl), hb5⟩
      · have hne2 : decide (q = n) = false := decide_eq_false hne
        have hne3 : (q == n) = false := beq_eq_false_iff_ne.2 hne
        have hne4 : (((q : Nat) : Int) == ((n : Nat) : Int)) = false := beq_eq_false_iff_ne.2 (by omega)
        go_enter Try.func19, Try.ntmps19
        go_wp2_with (first | (go_at_call 74; refine (impl_ValidPours_calls A n c ps pm pr pd w H.out hps (by unfold maxLen; omega)).mono ?_; rintro e w1 ⟨rfl, hb1⟩; rw [show (allB (goodAt (fun i => pourB (ps i) (pm i) (pr i) (pd i)) ps) n && decide ((n : Int) ≤ 12)) = _ from q1]) | (go_at_call 75; refine (impl_ValidCrucibles_calls B m c2 cs cc ch cf w1 (H2.out.below hb1 (Nat.le_refl _)) hcs (by unfold maxLen; omega)).mono ?_; rintro e w2 ⟨rfl, hb2⟩; have hb3 := hb1.trans (hb2.mono hb1.size); rw [show (allB (goodAt (fun i => crucB (cs i) (cc i) (ch i) (cf i)) cs) m && (decide ((1 : Int) ≤ m) && decide ((m : Int) ≤ 4))) = _ from q2]))
        go_ret
        exact ⟨ret_bool (by rw [isB, q1, q2, hne3]; rfl), hb3⟩
set_option maxHeartbeats 4000000 in
theorem sIsSchedule_calls (A : Option Addr) (n c : Nat) (ps : Nat → ByteArray) (pm pr pd : Nat → Int) (B : Option Addr) (m c2 : Nat) (cs : Nat → ByteArray) (cc ch cf : Nat → Int) (C : Option Addr) (q c3 : Nat) (a0 a1 a2 a3 : Nat → Int) (w : World) (hps : ∀ i, i < n → (ps i).size ≤ maxLen) (hcs : ∀ i, i < m → (cs i).size ≤ maxLen) (h : PourRow w A n ps pm pr pd) (h2 : CrucibleRow w B m cs cc ch cf) (h3 : HeatRow w C q a0 a1 a2 a3) (hn : n ≤ 1048576) (hm : m ≤ 1048576) (hq : q ≤ 1048576)  (hw : HeatWf m q cf a2 a3) :
    Calls Try.prog 15 #[.slice A n c, .slice B m c2, .slice C q c3] w fun e w' => e = .returned (.bool (isB n ps pm pr pd m cs cc ch cf q a0 a1 a2 a3)) ∧ Below w.heap.size w w' := by
  have H := Lib.hid h
  have H2 := Lib.hid h2
  have H3 := Lib.hid h3
  have HW := Lib.hid hw
  clear h h2 h3 hw
  cases q1 : poursB n ps pm pr pd
  ·
    go_enter Try.func15, Try.ntmps15
    go_wp2_with (first | (go_at_call 68; refine (spec_l17Pours_calls A n c ps pm pr pd w H.out hps (by unfold maxLen; omega)).mono ?_; rintro e w1 ⟨rfl, hb1⟩; rw [show (allB (goodAt (fun i => pourB (ps i) (pm i) (pr i) (pd i)) ps) n && decide ((n : Int) ≤ 12)) = _ from q1]) | (go_at_call 69; refine (spec_l17Crucibles_calls B m c2 cs cc ch cf w1 (H2.out.below hb1 (Nat.le_refl _)) hcs (by unfold maxLen; omega)).mono ?_; rintro e w2 ⟨rfl, hb2⟩; have hb3 := hb1.trans (hb2.mono hb1.size); rw [show (allB (goodAt (fun i => crucB (cs i) (cc i) (ch i) (cf i)) cs) m && (decide ((1 : Int) ≤ m) && decide ((m : Int) ≤ 4))) = _ from q2]))
    go_ret
    exact ⟨ret_bool (by simp [isB, q1]), hb1⟩
  · cases q2 : crucsB m cs cc ch cf
    ·
      go_enter Try.func15, Try.ntmps15
      go_wp2_with (first | (go_at_call 68; refine (spec_l17Pours_calls A n c ps pm pr pd w H.out hps (by unfold maxLen; omega)).mono ?_; rintro e w1 ⟨rfl, hb1⟩; rw [show (allB (goodAt (fun i => pourB (ps i) (pm i) (pr i) (pd i)) ps) n && decide ((n : Int) ≤ 12)) = _ from q1]) | (go_at_call 69; refine (spec_l17Crucibles_calls B m c2 cs cc ch cf w1 (H2.out.below hb1 (Nat.le_refl _)) hcs (by unfold maxLen; omega)).mono ?_; rintro e w2 ⟨rfl, hb2⟩; have hb3 := hb1.trans (hb2.mono hb1.size); rw [show (allB (goodAt (fun i => crucB (cs i) (cc i) (ch i) (cf i)) cs) m && (decide ((1 : Int) ≤ m) && decide ((m : Int) ≤ 4))) = _ from q2]))
      go_ret
      exact ⟨ret_bool (by simp [isB, q1, q2]), hb3⟩
    · have HO := Lib.hid (crucsB_of q2)
      by_cases hne : q = n
      · have hne2 : decide (q = n) = true := decide_eq_true hne
        have hne3 : (q == n) = true := beq_iff_eq.2 hne
        have hne4 : (((q : Nat) : Int) == ((n : Nat) : Int)) = true := beq_iff_eq.2 (by omega)
        clear hne
        go_enter Try.func15, Try.ntmps15
        go_wp2_with (first | (go_at_call 68; refine (spec_l17Pours_calls A n c ps pm pr pd w H.out hps (by unfold maxLen; omega)).mono ?_; rintro e w1 ⟨rfl, hb1⟩; rw [show (allB (goodAt (fun i => pourB (ps i) (pm i) (pr i) (pd i)) ps) n && decide ((n : Int) ≤ 12)) = _ from q1]) | (go_at_call 69; refine (spec_l17Crucibles_calls B m c2 cs cc ch cf w1 (H2.out.below hb1 (Nat.le_refl _)) hcs (by unfold maxLen; omega)).mono ?_; rintro e w2 ⟨rfl, hb2⟩; have hb3 := hb1.trans (hb2.mono hb1.size); rw [show (allB (goodAt (fun i => crucB (cs i) (cc i) (ch i) (cf i)) cs) m && (decide ((1 : Int) ≤ m) && decide ((m : Int) ≤ 4))) = _ from q2])| (go_at_call 70; refine (l17Wrong_calls A n c ps pm pr pd B m c2 cs cc ch cf C q c3 a0 a1 a2 a3 w2 (H.out.below hb3 (Nat.le_refl _)) (H2.out.below hb3 (Nat.le_refl _)) (H3.out.below hb3 (Nat.le_refl _)) hn hm hq HO.out.1 HO.out.2 HW.out.2.1 (fa_bd HW.out)).mono ?_; rintro e w4 ⟨rfl, hb4⟩; have hb5 := hb3.trans (hb4.mono hb3.size)))
        go_ret
        exact ⟨ret_bool (by rw [isB, q1, q2, fno_neg, hne3]; rfl), hb5⟩
      · have hne2 : decide (q = n) = false := decide_eq_false hne
        have hne3 : (q == n) = false := beq_eq_false_iff_ne.2 hne
        have hne4 : (((q : Nat) : Int) == ((n : Nat) : Int)) = false := beq_eq_false_iff_ne.2 (by omega)
        go_enter Try.func15, Try.ntmps15
        go_wp2_with (first | (go_at_call 68; refine (spec_l17Pours_calls A n c ps pm pr pd w H.out hps (by unfold maxLen; omega)).mono ?_; rintro e w1 ⟨rfl, hb1⟩; rw [show (allB (goodAt (fun i => pourB (ps i) (pm i) (pr i) (pd i)) ps) n && decide ((n : Int) ≤ 12)) = _ from q1]) | (go_at_call 69; refine (spec_l17Crucibles_calls B m c2 cs cc ch cf w1 (H2.out.below hb1 (Nat.le_refl _)) hcs (by unfold maxLen; omega)).mono ?_; rintro e w2 ⟨rfl, hb2⟩; have hb3 := hb1.trans (hb2.mono hb1.size); rw [show (allB (goodAt (fun i => crucB (cs i) (cc i) (ch i) (cf i)) cs) m && (decide ((1 : Int) ≤ m) && decide ((m : Int) ≤ 4))) = _ from q2]))
        go_ret
        exact ⟨ret_bool (by rw [isB, q1, q2, hne3]; rfl), hb3⟩
end Go.Proofs.Ytaanlkdpconfiaa
