/- Bells: size, copy and comparison. -/
import Derived.Test.YticnpibkpfpojaaShare
namespace Go.Proofs.Yticnpibkpfpojaa
set_option linter.unusedVariables false
set_option linter.unusedSimpArgs false
open Go.RowKit

def BellCopy (s : ByteArray) (no ma fe : Int) (n : Nat) (ss : Nat → ByteArray) (ms : Nat → Int) (w : World) (e : Ending) (w' : World) : Prop :=
  ∃ G, e = .returned (.agg #[.string s, .int .i64 no, .int .i64 ma, .int .i64 fe, .slice (some ⟨G, 0, none⟩) n n]) ∧ Below w.heap.size w w' ∧ w.heap.size ≤ G ∧ G < w'.heap.size ∧ ShareRow w' (some ⟨G, 0, none⟩) n ss ms
set_option maxHeartbeats 1000000 in
theorem toBell_calls (s : ByteArray) (no ma fe : Int) (A : Option Addr) (n c : Nat) (ss : Nat → ByteArray) (ms : Nat → Int) (w : World) (h : ShareRow w A n ss ms) (hn : n ≤ 1048576) :
    Calls Try.prog 10 #[.agg #[.string s, .int .i64 no, .int .i64 ma, .int .i64 fe, .slice A n c]] w fun e w' => BellCopy s no ma fe n ss ms w e w' := by
  have hB := ((Below.refl w.heap.size w).alloc (Nat.le_refl _) (.cells #[.string s, .int .i64 no, .int .i64 ma, .int .i64 fe, .slice A n c] 26)).alloc (by simp) (.cells #[.string ⟨#[]⟩, .int .i64 0, .int .i64 0, .int .i64 0, .slice none 0 0] 38) |>.alloc (by simp <;> omega) (.cells #[.string s, .int .i64 no, .int .i64 ma, .int .i64 fe, .slice none 0 0] 38)
  have H := Lib.hid (h.below hB (Nat.le_refl _))
  have HB := Lib.hid hB
  clear h hB
  go_enter Try.func10, Try.ntmps10
  go_wp2_with fail
  go_at_call 27
  refine (toShareS_calls _ _ _ _ _ _ H.out hn).mono ?_
  rintro e w1 ⟨rfl, hb, hlt, hnew⟩
  simp at hlt
  have R2 := ((Blk.new2 w (.cells #[.string s, .int .i64 no, .int .i64 ma, .int .i64 fe, .slice A n c] 26) 38 #[.string ⟨#[]⟩, .int .i64 0, .int .i64 0, .int .i64 0, .slice none 0 0]).alloc (.cells #[.string s, .int .i64 no, .int .i64 ma, .int .i64 fe, .slice none 0 0] 38)).keep hb
  have R3 := (Blk.new3 w (.cells #[.string s, .int .i64 no, .int .i64 ma, .int .i64 fe, .slice A n c] 26) (.cells #[.string ⟨#[]⟩, .int .i64 0, .int .i64 0, .int .i64 0, .slice none 0 0] 38) 38 #[.string s, .int .i64 no, .int .i64 ma, .int .i64 fe, .slice none 0 0]).keep hb
  have f2 := R2.frozen
  have f3 := R3.frozen
  have x0 := (R3.cell 0).trans rfl
  have x1 := (R3.cell 1).trans rfl
  have x2 := (R3.cell 2).trans rfl
  have x3 := (R3.cell 3).trans rfl
  have x4 := (R3.cell 4).trans rfl
  have y0 := (R2.cell 0).trans rfl
  have y1 := (R2.cell 1).trans rfl
  have y2 := (R2.cell 2).trans rfl
  have y3 := (R2.cell 3).trans rfl
  have y4 := (R2.cell 4).trans rfl
  have hbb := Lib.hid (HB.out.trans (hb.mono HB.out.size))
  have HN := Lib.hid (show ShareRow w1 (some ⟨w.heap.size + 1 + 1 + 1, 0, none⟩) n ss ms by simpa using hnew)
  clear R2 R3 hb hnew
  go_wp2
  refine bodyPost_ret (v := .agg #[.string s, .int .i64 no, .int .i64 ma, .int .i64 fe, .slice (some ⟨w.heap.size + 1 + 1 + 1, 0, none⟩) n n]) (by simp [results, Try.results10, go_sem, y0, y1, y2, y3, y4]) rfl ?_
  refine ⟨w.heap.size + 1 + 1 + 1, rfl, ?_, by omega, by simp [World.setCell]; omega, ?_⟩
  · repeat (refine Below.setCell ?_ (by simp <;> omega) _)
    exact hbb.out
  · refine HN.out.same ?_
    repeat (refine (Below.heap_setCell _ _ _ _ (by simp <;> omega)).trans ?_)
    rfl
def szV (l : Int) (s : ByteArray) (n : Nat) (ss : Nat → ByteArray) : Int := if l < s.size + ((n : Int) + sumS ss n) then -1 else l - (s.size + ((n : Int) + sumS ss n))
set_option maxHeartbeats 1000000 in
theorem szBell_calls (s : ByteArray) (no ma fe : Int) (A : Option Addr) (n c : Nat) (ss : Nat → ByteArray) (ms : Nat → Int) (l : Int) (w : World) (h : ShareRow w A n ss ms) (hs : s.size ≤ maxLen) (hss : ∀ i, i < n → (ss i).size ≤ maxLen) (hn : n ≤ maxLen) (l0 : 0 ≤ l) (l1 : l ≤ 4611686018427387904) :
    Calls Try.prog 6 #[.agg #[.string s, .int .i64 no, .int .i64 ma, .int .i64 fe, .slice A n c], .int .i64 l] w fun e w' => e = .returned (.int .i64 (szV l s n ss)) ∧ Below w.heap.size w w' := by
  have hB := (Below.refl w.heap.size w).alloc (Nat.le_refl _) (.cells #[.string s, .int .i64 no, .int .i64 ma, .int .i64 fe, .slice A n c] 26)
  have H := Lib.hid (h.below hB (Nat.le_refl _))
  have HSS := Lib.hid hss
  unfold maxLen at hs
  clear h hss
  by_cases h1 : l < s.size
  · rw [show szV l s n ss = -1 by unfold szV; rw [if_pos (by omega)]]
    go_enter Try.func6, Try.ntmps6
    go_wp2
    go_ret
    exact ⟨rfl, hB⟩
  · by_cases h2 : l - s.size < (n : Int) + sumS ss n
    · rw [show szV l s n ss = -1 by unfold szV; rw [if_pos (by omega)]]
      go_enter Try.func6, Try.ntmps6
      go_wp2_with (go_at_call 20; refine (szShareS_calls _ _ _ _ _ _ _ H.out HSS.out hn (by omega) (by omega)).mono ?_; rintro e w1 ⟨rfl, hb⟩; rw [if_pos h2])
      go_ret
      exact ⟨rfl, hB.trans (hb.mono (by simp))⟩
    · rw [show szV l s n ss = l - s.size - ((n : Int) + sumS ss n) by unfold szV; rw [if_neg (by omega)]; omega]
      go_enter Try.func6, Try.ntmps6
      go_wp2_with (go_at_call 20; refine (szShareS_calls _ _ _ _ _ _ _ H.out HSS.out hn (by omega) (by omega)).mono ?_; rintro e w1 ⟨rfl, hb⟩; rw [if_neg h2])
      go_ret
      exact ⟨rfl, hB.trans (hb.mono (by simp))⟩
set_option maxHeartbeats 1000000 in
theorem eqBell_calls (s : ByteArray) (no ma fe : Int) (A B : Option Addr) (n c c2 : Nat) (ss : Nat → ByteArray) (ms : Nat → Int) (w : World) (h : ShareRow w A n ss ms) (h2 : ShareRow w B n ss ms) (hn : n ≤ 1048576) :
    Calls Try.prog 14 #[.agg #[.string s, .int .i64 no, .int .i64 ma, .int .i64 fe, .slice A n c], .agg #[.string s, .int .i64 no, .int .i64 ma, .int .i64 fe, .slice B n c2]] w fun e w' => e = .returned (.bool true) ∧ Below w.heap.size w w' := by
  have hB := ((Below.refl w.heap.size w).alloc (Nat.le_refl _) (.cells #[.string s, .int .i64 no, .int .i64 ma, .int .i64 fe, .slice A n c] 38)).alloc (by simp) (.cells #[.string s, .int .i64 no, .int .i64 ma, .int .i64 fe, .slice B n c2] 38)
  have H := Lib.hid (h.below hB (Nat.le_refl _))
  have H2 := Lib.hid (h2.below hB (Nat.le_refl _))
  clear h h2
  go_enter Try.func14, Try.ntmps14
  go_wp2_with (go_at_call 40; refine (eqShareS_calls _ _ _ _ _ _ _ _ H.out H2.out hn).mono ?_; rintro e w1 ⟨rfl, hb⟩)
  go_ret
  exact ⟨rfl, hB.trans (hb.mono (by simp <;> omega))⟩
open Go.ChangeShapes Go.WideShapes Go.Deep in
theorem slice_cell {H : Type} {enc : TypeId × Value → H} {P : Program} {w : World} {base : Nat} {spare : Nat → Bool} {held : Bool} {t e : TypeId} {fuel : Nat} {v : Value} {x : DataW H × List MemPlace} (ht : P.underlying t = some (.slice e)) (h : DataW.trod enc P w base spare held fuel t [v] = some x) :
    ∃ A n c, v = .slice A n c := by
  rcases open_slice ht h with ⟨hcs, -⟩ | ⟨a, len, cap, m, fu, D, Pl, hcs, -⟩
  · exact ⟨_, _, _, one_cell hcs⟩
  · exact ⟨_, _, _, one_cell hcs⟩
end Go.Proofs.Yticnpibkpfpojaa
