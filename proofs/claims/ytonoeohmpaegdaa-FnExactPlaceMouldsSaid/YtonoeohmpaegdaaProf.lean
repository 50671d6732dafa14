/- Profiles: size, copy and comparison; what mark and held do. -/
import Derived.Test.YtonoeohmpaegdaaRing
import Derived.Test.YtonoeohmpaegdaaName
namespace Go.Proofs.Ytonoeohmpaegdaa
set_option linter.unusedVariables false
set_option linter.unusedSimpArgs false
open Go.RowKit

set_option maxHeartbeats 1000000 in
theorem toProfile_calls (s : ByteArray) (A : Option Addr) (n c : Nat) (p q h : Nat → Int) (w : World) (hr : RingRow w A n p q h) (hn : n ≤ 1048576) :
    Calls Try.prog 39 #[.agg #[.string s, .slice A n c]] w fun e w' => ∃ G, e = .returned (.agg #[.string s, .slice (some ⟨G, 0, none⟩) n n]) ∧ Below w.heap.size w w' ∧ w.heap.size ≤ G ∧ G < w'.heap.size ∧ RingOwn w' (some ⟨G, 0, none⟩) n p q h G := by
  have hB := ((Below.refl w.heap.size w).alloc (Nat.le_refl _) (.cells #[.string s, .slice A n c] 61)).alloc (by simp) (.cells #[.string ⟨#[]⟩, .slice none 0 0] 69) |>.alloc (by simp <;> omega) (.cells #[.string s, .slice none 0 0] 69)
  have H := Lib.hid (hr.below hB (Nat.le_refl _))
  have HB := Lib.hid hB
  clear hr hB
  go_enter Try.func39, Try.ntmps39
  go_wp2_with fail
  go_at_call 79
  refine (toRingS_own _ _ _ _ _ _ _ H.out hn).mono ?_
  rintro e w1 ⟨rfl, hb, hlt, hnew⟩
  simp at hlt
  have R2 := ((Blk.new2 w (.cells #[.string s, .slice A n c] 61) 69 #[.string ⟨#[]⟩, .slice none 0 0]).alloc (.cells #[.string s, .slice none 0 0] 69)).keep hb
  have R3 := (Blk.new3 w (.cells #[.string s, .slice A n c] 61) (.cells #[.string ⟨#[]⟩, .slice none 0 0] 69) 69 #[.string s, .slice none 0 0]).keep hb
  have f2 := R2.frozen
  have f3 := R3.frozen
  have x0 := (R3.cell 0).trans rfl
  have x1 := (R3.cell 1).trans rfl
  have y0 := (R2.cell 0).trans rfl
  have y1 := (R2.cell 1).trans rfl
  have hbb := Lib.hid (HB.out.trans (hb.mono HB.out.size))
  have HN := Lib.hid (show RingOwn w1 (some ⟨w.heap.size + 1 + 1 + 1, 0, none⟩) n p q h (w.heap.size + 1 + 1 + 1) by simpa using hnew)
  clear R2 R3 hb hnew
  go_wp2
  refine bodyPost_ret (v := .agg #[.string s, .slice (some ⟨w.heap.size + 1 + 1 + 1, 0, none⟩) n n]) (by simp [results, Try.results39, go_sem, y0, y1]) rfl ?_
  refine ⟨w.heap.size + 1 + 1 + 1, rfl, ?_, by omega, by simp [World.setCell]; omega, ?_⟩
  · repeat (refine Below.setCell ?_ (by simp <;> omega) _)
    exact hbb.out
  · refine HN.out.same ?_
    repeat (refine (Below.heap_setCell _ _ _ _ (by simp <;> omega)).trans ?_)
    rfl
def szP (l : Int) (s : ByteArray) (n : Nat) : Int := if l < s.size + (n : Int) then -1 else l - (s.size + (n : Int))
set_option maxHeartbeats 1000000 in
theorem szProfile_calls (s : ByteArray) (A : Option Addr) (n c : Nat) (p q h : Nat → Int) (l : Int) (w : World) (hs : s.size ≤ maxLen) (hn : n ≤ maxLen) (l0 : 0 ≤ l) (l1 : l ≤ 4611686018427387904) :
    Calls Try.prog 31 #[.agg #[.string s, .slice A n c], .int .i64 l] w fun e w' => e = .returned (.int .i64 (szP l s n)) ∧ Below w.heap.size w w' := by
  have hB := (Below.refl w.heap.size w).alloc (Nat.le_refl _) (.cells #[.string s, .slice A n c] 61)
  unfold maxLen at hs
  by_cases h1 : l < s.size
  · rw [show szP l s n = -1 by unfold szP; rw [if_pos (by omega)]]
    go_enter Try.func31, Try.ntmps31
    go_wp2
    go_ret
    exact ⟨rfl, hB⟩
  · by_cases h2 : l - s.size < (n : Int)
    · rw [show szP l s n = -1 by unfold szP; rw [if_pos (by omega)]]
      go_enter Try.func31, Try.ntmps31
      go_wp2_with (go_at_call 72; refine (szRingS_calls _ _ _ _ _ hn (by omega) (by omega)).mono ?_; rintro e w1 ⟨rfl, hb⟩; rw [if_pos h2])
      go_ret
      exact ⟨rfl, hB.trans (hb.mono (by simp))⟩
    · rw [show szP l s n = l - s.size - (n : Int) by unfold szP; rw [if_neg (by omega)]; omega]
      go_enter Try.func31, Try.ntmps31
      go_wp2_with (go_at_call 72; refine (szRingS_calls _ _ _ _ _ hn (by omega) (by omega)).mono ?_; rintro e w1 ⟨rfl, hb⟩; rw [if_neg h2])
      go_ret
      exact ⟨rfl, hB.trans (hb.mono (by simp))⟩
set_option maxHeartbeats 1000000 in
theorem eqProfile_calls (s : ByteArray) (A B : Option Addr) (n c c2 : Nat) (p q h : Nat → Int) (w : World) (hr : RingRow w A n p q h) (hr2 : RingRow w B n p q h) (hn : n ≤ 1048576) :
    Calls Try.prog 48 #[.agg #[.string s, .slice A n c], .agg #[.string s, .slice B n c2]] w fun e w' => e = .returned (.bool true) ∧ Below w.heap.size w w' := by
  have hB := ((Below.refl w.heap.size w).alloc (Nat.le_refl _) (.cells #[.string s, .slice A n c] 69)).alloc (by simp) (.cells #[.string s, .slice B n c2] 69)
  have H := Lib.hid (hr.below hB (Nat.le_refl _))
  have H2 := Lib.hid (hr2.below hB (Nat.le_refl _))
  clear hr hr2
  go_enter Try.func48, Try.ntmps48
  go_wp2_with (go_at_call 90; refine (eqRingS_calls _ _ _ _ _ _ _ _ _ H.out H2.out hn).mono ?_; rintro e w1 ⟨rfl, hb⟩)
  go_ret
  exact ⟨rfl, hB.trans (hb.mono (by simp <;> omega))⟩
end Go.Proofs.Ytonoeohmpaegdaa
