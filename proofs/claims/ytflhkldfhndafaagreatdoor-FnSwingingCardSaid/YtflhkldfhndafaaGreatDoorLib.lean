/- What reading numbers needs of the library's variables. -/
import Derived.Test.YtflhkldfhndafaaGreatDoorText
namespace Go.Proofs.YtflhkldfhndafaaGreatDoor
set_option linter.unusedVariables false
open Go.RowKit
theorem var_kept {P : Program} {B g : Nat} {W W' : World} {n : String} {cs : Array Value} (h : Below B W W') (hg : P.globalNamed n = some g) (hgB : g < B) (hv : W.var? P n = some cs) : W'.var? P n = some cs := by
  unfold World.var? at hv ⊢
  simp only [hg, Option.bind_some] at hv ⊢
  rw [h.block g hgB]
  exact hv
theorem var_in {P : Program} {g : Nat} {W : World} {n : String} {cs : Array Value} (hg : P.globalNamed n = some g) (hv : W.var? P n = some cs) : g < W.heap.size := by
  unfold World.var? at hv
  simp only [hg, Option.bind_some] at hv
  rcases Nat.lt_or_ge g W.heap.size with h | h
  · exact h
  · rw [Array.getElem?_eq_none (by omega)] at hv
    cases hv
/-- the table of powers of ten, the greatest length of a search by words, and the two errors are laid -/
def HasLib (w : World) : Prop := HasPow w ∧ (∃ m, w.cell? ⟨1, 0, none⟩ = some (.int .i64 m)) ∧ (∃ tp p, w.var? Tryz.prog Tryz.var_strconv_ErrSyntax = some #[.iface tp p]) ∧ ∃ tp p, w.var? Tryz.prog Tryz.var_strconv_ErrRange = some #[.iface tp p]
theorem gSyn : Tryz.prog.globalNamed Tryz.var_strconv_ErrSyntax = some 2 := by kernel_rfl
theorem gRan : Tryz.prog.globalNamed Tryz.var_strconv_ErrRange = some 3 := by kernel_rfl
theorem HasLib.keep {w w' : World} (h : HasLib w) (hb : Below w.heap.size w w') : HasLib w' := by
  obtain ⟨h1, ⟨m, h2⟩, ⟨t3, p3, h3⟩, t4, p4, h4⟩ := h
  exact ⟨h1.keep hb, ⟨m, (hb.cell (p := ⟨_, 0, none⟩) (cell_lt h2)).trans h2⟩, ⟨t3, p3, var_kept hb gSyn (var_in gSyn h3) h3⟩, t4, p4, var_kept hb gRan (var_in gRan h4) h4⟩
theorem HasLib.drewN {w : World} (h : HasLib w) (n : Nat) : HasLib (w.drewN n) := h.keep (below_drewN (Below.refl _ _) n)
theorem HasLib.alloc {w : World} (h : HasLib w) (o : Obj) : HasLib (w.alloc o) := h.keep ((Below.refl _ _).alloc (Nat.le_refl _) _)
theorem int_of_shape {P : Program} {k : IntKind} {w : World} {g : Nat} {t : TypeId} {zero : Array Value} (h : w.ShapedOpen P) (hg : g < P.globals.size)
    (h0 : ((begin P (fun _ _ => 0) default).world.heap[g]?).bind Obj.row? = some (zero, t)) (hz : zero.size = 1)
    (hb : P.buildable t = true) (hc : P.cellTypes P.depth t = some [t]) (hu : P.underlying t = some (.int k)) : ∃ n, w.cell? ⟨g, 0, none⟩ = some (.int k n) := by
  obtain ⟨cs, hh, hs, hr⟩ := h.1 g zero t hg h0
  obtain ⟨ts, hts, _, hall⟩ := hr hb
  rw [hc] at hts
  cases hts
  have h1 : 0 < cs.size := by omega
  obtain ⟨u, hu', hok⟩ := hall 0 cs[0] (by simp [h1])
  have : u = t := by simpa using hu'.symm
  subst this
  have hcell : w.cell? ⟨g, 0, none⟩ = some cs[0] := by simp [World.cell?, hh, h1]
  rw [hcell]
  unfold Cell.ok at hok
  rw [hu] at hok
  cases hv : cs[0] <;> rw [hv] at hok <;> first | (obtain ⟨rfl, -⟩ := hok; exact ⟨_, rfl⟩) | simp at hok
theorem hasMax {w : World} (h : w.ShapedOpen Tryz.prog) : ∃ m, w.cell? ⟨1, 0, none⟩ = some (.int .i64 m) :=
  int_of_shape (t := 3) (zero := #[.int .i64 0]) h (of_decide_eq_true (by kernel_rfl)) (by kernel_rfl) rfl (by kernel_rfl) (by kernel_rfl) (by kernel_rfl)
end Go.Proofs.YtflhkldfhndafaaGreatDoor
