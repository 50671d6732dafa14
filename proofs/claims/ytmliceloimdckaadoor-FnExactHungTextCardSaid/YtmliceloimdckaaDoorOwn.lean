/- Rows that a call has made by append: as blocks that are known whole. No program in sight. -/
import Derived.Test.YtmliceloimdckaaDoorAny
import Derived.OwnWalk
import Derived.Maps.AppendAt
import Derived.Deep.AppendLies
namespace Go.Proofs.YtmliceloimdckaaDoor
set_option linter.unusedVariables false
open Go.RowKit
/-- the first k numbers as cells -/
def intsL (f : Nat → Int) (k : Nat) : List Value := (List.range k).map fun i => .int .i64 (f i)
theorem intsL_succ (f : Nat → Int) (k : Nat) : intsL f k ++ [.int .i64 (f k)] = intsL f (k + 1) := by simp [intsL, List.range_succ]
theorem intsL_len (f : Nat → Int) (k : Nat) : (intsL f k).length = k := by simp [intsL]
theorem intsL_at (f : Nat → Int) {k i : Nat} (h : i < k) : (intsL f k)[i]? = some (.int .i64 (f i)) := by simp [intsL, h]
theorem own_blk {w : World} {base : Nat} {e : TypeId} {size : Nat} {v : Value} {n : Nat} {xs : List Value} (h : w.ownsRow base e size v n xs) (hn : 0 < n) :
    ∃ g cap cur, v = .slice (some ⟨g, 0, none⟩) n cap ∧ base ≤ g ∧ Blk w g e cur ∧ n ≤ cap ∧ cap ≤ maxLen ∧ cur.size = cap * size ∧ ∀ i, i < n * size → cur[i]? = xs[i]? := by
  rcases h.2 with ⟨_, h0⟩ | ⟨g, cap, cur, hv, hb, hg, hc, hm, hs, ht⟩
  · omega
  · refine ⟨g, cap, cur, hv, hb, hg, hc, hm, hs, fun i hi => ?_⟩
    rw [← ht, List.getElem?_take, if_pos hi]
    simp
theorem below_append {w wr w1 : World} {base : Nat} {e : TypeId} {size : Nat} {v : Value} {n : Nat} {xs : List Value} {o : Obj} (hbr : Below base w wr) (hbase : base ≤ wr.heap.size) (hown : wr.ownsRow base e size v n xs) (hg : (wr.alloc o).grownBy w1 v.ownBlock) : Below base w w1 :=
  (hbr.alloc hbase o).grown hg (by simp; omega) fun k hk => (hown.lt k hk).1
theorem madeBools_at {n i : Nat} (h : i < n) : (madeCells #[Value.bool false] n)[i]? = some (.bool false) := by
  have e := toList_madeCells_one (.bool false) n
  rw [← Array.getElem?_toList, e]
  simp [h]
end Go.Proofs.YtmliceloimdckaaDoor
