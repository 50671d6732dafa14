/- Bells: size, copy and comparison. -/
import Derived.Test.YtflhkldfhndafaaDoorShare
namespace Go.Proofs.YtflhkldfhndafaaDoor
set_option linter.unusedVariables false
open Go.RowKit

def BellCopy (s : ByteArray) (no ma fe : Int) (n : Nat) (ss : Nat → ByteArray) (ms : Nat → Int) (w : World) (e : Ending) (w' : World) : Prop :=
  ∃ G, e = .returned (.agg #[.string s, .int .i64 no, .int .i64 ma, .int .i64 fe, .slice (some ⟨G, 0, none⟩) n n]) ∧ Below w.heap.size w w' ∧ w.heap.size ≤ G ∧ G < w'.heap.size ∧ ShareRow w' (some ⟨G, 0, none⟩) n ss ms
def szV (l : Int) (s : ByteArray) (n : Nat) (ss : Nat → ByteArray) : Int := if l < s.size + ((n : Int) + sumS ss n) then -1 else l - (s.size + ((n : Int) + sumS ss n))
set_option maxHeartbeats 1000000 in
theorem eqBell_calls (s : ByteArray) (no ma fe : Int) (A B : Option Addr) (n c c2 : Nat) (ss : Nat → ByteArray) (ms : Nat → Int) (w : World) (h : ShareRow w A n ss ms) (h2 : ShareRow w B n ss ms) (hn : n ≤ 1048576) :
    Calls Tryd.prog 22 #[.agg #[.string s, .int .i64 no, .int .i64 ma, .int .i64 fe, .slice A n c], .agg #[.string s, .int .i64 no, .int .i64 ma, .int .i64 fe, .slice B n c2]] w fun e w' => e = .returned (.bool true) ∧ Below w.heap.size w w' := by
  have hB := ((Below.refl w.heap.size w).alloc (Nat.le_refl _) (.cells #[.string s, .int .i64 no, .int .i64 ma, .int .i64 fe, .slice A n c] 45)).alloc (by simp) (.cells #[.string s, .int .i64 no, .int .i64 ma, .int .i64 fe, .slice B n c2] 45)
  have H := Lib.hid (h.below hB (Nat.le_refl _))
  have H2 := Lib.hid (h2.below hB (Nat.le_refl _))
  clear h h2
  go_enter Tryd.func22, Tryd.ntmps22
  go_wp2_with (go_at_call 47; refine (eqShareS_calls _ _ _ _ _ _ _ _ H.out H2.out hn).mono ?_; rintro e w1 ⟨rfl, hb⟩)
  go_ret
  exact ⟨rfl, hB.trans (hb.mono (by simp <;> omega))⟩
open Go.ChangeShapes Go.WideShapes Go.Deep in
theorem slice_cell {H : Type} {enc : TypeId × Value → H} {P : Program} {w : World} {base : Nat} {spare : Nat → Bool} {held : Bool} {t e : TypeId} {fuel : Nat} {v : Value} {x : DataW H × List MemPlace} (ht : P.underlying t = some (.slice e)) (h : DataW.trod enc P w base spare held fuel t [v] = some x) :
    ∃ A n c, v = .slice A n c := by
  rcases open_slice ht h with ⟨hcs, -⟩ | ⟨a, len, cap, m, fu, D, Pl, hcs, -⟩
  · exact ⟨_, _, _, one_cell hcs⟩
  · exact ⟨_, _, _, one_cell hcs⟩
end Go.Proofs.YtflhkldfhndafaaDoor
