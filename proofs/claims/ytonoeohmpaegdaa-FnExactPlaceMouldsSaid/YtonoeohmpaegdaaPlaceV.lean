/- The reference's search for holes (visit), over its struct in memory. -/
import Derived.Test.YtonoeohmpaegdaaPlaceM
import Derived.Deep.AppendLies
namespace Go.Proofs.Ytonoeohmpaegdaa
set_option linter.unusedVariables false
open Go.RowKit

/-- the rows of the table of what fits: each lies below base, and in neither of the two blocks that are written -/
def FitsAt (w : World) (base gx gu : Nat) (Af : Option Addr) (K m : Nat) (F : Nat → Nat → Bool) : Prop := ∀ i, i < K → ∃ gf, Af = some ⟨gf, 0, none⟩ ∧ (gf < base ∧ gf ≠ gx ∧ gf ≠ gu) ∧ ∃ A c, w.cell? ⟨gf, i, none⟩ = some (.slice A m c) ∧ (0 < m → ∃ gr, A = some ⟨gr, 0, none⟩ ∧ (gr < base ∧ gr ≠ gx ∧ gr ≠ gu) ∧ ∀ j, j < m → w.cell? ⟨gr, j, none⟩ = some (.bool (F i j)))
def FrX (base gx gu : Nat) (w w' : World) : Prop := ∀ b, b < base → b ≠ gx → b ≠ gu → w'.heap[b]? = w.heap[b]?
theorem FitsAt.fr {w w' : World} {base gx gu : Nat} {Af : Option Addr} {K m : Nat} {F : Nat → Nat → Bool} (h : FitsAt w base gx gu Af K m F) (hf : FrX base gx gu w w') : FitsAt w' base gx gu Af K m F := fun i hi => by
  obtain ⟨gf, hA, ⟨h1, h2, h3⟩, A, c, h4, h5⟩ := h i hi
  refine ⟨gf, hA, ⟨h1, h2, h3⟩, A, c, (World.cell?_of_block (a := ⟨gf, i, none⟩) (hf gf h1 h2 h3)).trans h4, fun hm => ?_⟩
  obtain ⟨gr, hA2, ⟨k1, k2, k3⟩, k4⟩ := h5 hm
  exact ⟨gr, hA2, ⟨k1, k2, k3⟩, fun j hj => (World.cell?_of_block (a := ⟨gr, j, none⟩) (hf gr k1 k2 k3)).trans (k4 j hj)⟩
structure VisP (w0 : World) (base gx gu : Nat) (Af : Option Addr) (K cf m : Nat) (F : Nat → Nat → Bool) (w : World) (U : Nat → Bool) (c : Int) (s : Int × List Int) (nowV bestV : Value) (ar : Array Value) : Prop where
  bx : Blk w gx 76 #[.slice Af K cf, .slice (some ⟨gu, 0, none⟩) m m, nowV, .int .i64 c, bestV, .int .i64 s.1]
  bu : Blk w gu 4 ar
  us : ∀ j, j < m → ar[j]? = some (.bool (U j))
  bs : w.ownsRow base 2 1 bestV s.2.length (s.2.map (Value.int .i64))
  fi : FitsAt w base gx gu Af K m F
  bl : Below w0.heap.size w0 w
  hb : base ≤ w.heap.size
structure Geo (w0 : World) (base gx gu : Nat) : Prop where
  x0 : w0.heap.size ≤ gx
  u0 : w0.heap.size ≤ gu
  x1 : gx < base
  u1 : gu < base
  xu : gx ≠ gu
theorem own_storeV {w : World} {base : Nat} {e : TypeId} {size n : Nat} {v : Value} {xs : List Value} {p : Addr} (h : w.ownsRow base e size v n xs) (hp : p.block < base) (u : Value) : (w.setCell p u).ownsRow base e size v n xs :=
  h.kept (row := some p.block) (gb_set (World.grownBy.refl _ _) rfl u) (by
    cases hb : v.ownBlock with
    | none => exact .inl rfl
    | some k => exact .inr fun e => by have := (h.lt k hb).1; injection e with e; omega)
section
variable {w0 : World} {base gx gu : Nat} {Af : Option Addr} {K cf m : Nat} {F : Nat → Nat → Bool} {w : World} {U : Nat → Bool} {c : Int} {s : Int × List Int} {nowV bestV : Value} {ar : Array Value}
theorem VisP.drewN (h : VisP w0 base gx gu Af K cf m F w U c s nowV bestV ar) (q : Nat) : VisP w0 base gx gu Af K cf m F (w.drewN q) U c s nowV bestV ar :=
  ⟨h.bx.drewN q, h.bu.drewN q, h.us, h.bs, h.fi, below_drewN h.bl q, h.hb⟩
theorem frx_set (p : Addr) (u : Value) (hp : p.block = gx ∨ p.block = gu) : FrX base gx gu w (w.setCell p u) := fun b _ h1 h2 => Below.heap_setCell w p u b (fun e => by rcases hp with q | q <;> omega)
/-- a store into the struct -/
theorem VisP.setX (g : Geo w0 base gx gu) (h : VisP w0 base gx gu Af K cf m F w U c s nowV bestV ar) (i : Nat) (u : Value) {c' : Int} {s' : Int × List Int} {nowV' bestV' : Value}
    (he : (#[.slice Af K cf, .slice (some ⟨gu, 0, none⟩) m m, nowV, .int .i64 c, bestV, .int .i64 s.1] : Array Value).setIfInBounds i u = #[.slice Af K cf, .slice (some ⟨gu, 0, none⟩) m m, nowV', .int .i64 c', bestV', .int .i64 s'.1])
    (hbs : w.ownsRow base 2 1 bestV' s'.2.length (s'.2.map (Value.int .i64))) : VisP w0 base gx gu Af K cf m F (w.setCell ⟨gx, i, none⟩ u) U c' s' nowV' bestV' ar :=
  ⟨by have := h.bx.set_ i u; rwa [he] at this, h.bu.far (by show gu ≠ gx; exact fun e => g.xu e.symm) u, h.us, own_storeV hbs g.x1 u, h.fi.fr (frx_set _ _ (Or.inl rfl)), h.bl.setCell g.x0 u, by have := h.hb; simpa using this⟩
theorem VisP.setC (g : Geo w0 base gx gu) (h : VisP w0 base gx gu Af K cf m F w U c s nowV bestV ar) (c' : Int) : VisP w0 base gx gu Af K cf m F (w.setCell ⟨gx, 3, none⟩ (.int .i64 c')) U c' s nowV bestV ar := h.setX g 3 _ rfl h.bs
theorem VisP.setN (g : Geo w0 base gx gu) (h : VisP w0 base gx gu Af K cf m F w U c s nowV bestV ar) (v : Value) : VisP w0 base gx gu Af K cf m F (w.setCell ⟨gx, 2, none⟩ v) U c s v bestV ar := h.setX g 2 _ rfl h.bs
/-- a store into the set of used holes -/
theorem VisP.setU (g : Geo w0 base gx gu) (h : VisP w0 base gx gu Af K cf m F w U c s nowV bestV ar) {i : Nat} (hi : i < m) (b : Bool) {U' : Nat → Bool} (hU : ∀ j, j < m → U' j = if j = i then b else U j) : VisP w0 base gx gu Af K cf m F (w.setCell ⟨gu, i, none⟩ (.bool b)) U' c s nowV bestV (ar.setIfInBounds i (.bool b)) :=
  ⟨h.bx.far (by show gx ≠ gu; exact g.xu) _, h.bu.set_ i _, fun j hj => by
    rw [hU j hj]
    by_cases e : j = i
    · subst e
      rw [if_pos rfl, Array.getElem?_setIfInBounds_self_of_lt (Array.getElem?_eq_some_iff.1 (h.us _ hj)).1]
    · rw [if_neg e, Array.getElem?_setIfInBounds_ne (by omega), h.us j hj], own_storeV h.bs g.u1 _, h.fi.fr (frx_set _ _ (Or.inr rfl)), h.bl.setCell g.u0 _, by have := h.hb; simpa using this⟩
/-- an append to what has been chosen -/
theorem VisP.grown (g : Geo w0 base gx gu) (h : VisP w0 base gx gu Af K cf m F w U c s nowV bestV ar) {o : Obj} {w2 : World} {row : Option Nat} (hg : (w.alloc o).grownBy w2 row) (hr : ∀ k, row = some k → base ≤ k) (hne : ∀ k, bestV.ownBlock = some k → row ≠ some k) : VisP w0 base gx gu Af K cf m F w2 U c s nowV bestV ar := by
  have hs : w.heap.size ≤ (w.alloc o).heap.size := by simp
  have hk : ∀ k, k < w.heap.size → some k ≠ row → w2.heap[k]? = w.heap[k]? := fun k hk hn => (hg.block k (by omega) hn).trans (Below.heap_alloc w o k hk)
  have hlow : ∀ k, k < base → some k ≠ row := fun k hk e => by have := hr k e.symm; omega
  refine ⟨(hk gx h.bx.lt (hlow _ g.x1)).trans h.bx, (hk gu h.bu.lt (hlow _ g.u1)).trans h.bu, h.us, (h.bs.alloc o).kept hg ?_, h.fi.fr fun b hb _ _ => hk b (Nat.lt_of_lt_of_le hb h.hb) (hlow _ hb), (h.bl.alloc h.bl.size o).grown hg (by have := h.bl.size; omega) (fun k hk => ?_), Nat.le_trans h.hb (Nat.le_trans hs hg.size)⟩
  · cases hb : bestV.ownBlock with
    | none => exact Or.inl rfl
    | some k => exact Or.inr fun e => hne k hb e.symm
  · have := hr k hk
    have := g.x0
    have := g.x1
    omega
/-- .. a call that makes memory -/
theorem VisP.below (h : VisP w0 base gx gu Af K cf m F w U c s nowV bestV ar) {w2 : World} (hb : Below w.heap.size w w2) : VisP w0 base gx gu Af K cf m F w2 U c s nowV bestV ar :=
  ⟨h.bx.keep hb, h.bu.keep hb, h.us, own_keep h.bs hb, h.fi.fr fun b hlt _ _ => hb.block b (Nat.lt_of_lt_of_le hlt h.hb), h.bl.trans (hb.mono h.bl.size), Nat.le_trans h.hb hb.size⟩
end
/-- two rows of the call's own lie apart -/
def Apart (v v2 : Value) : Prop := ∀ g, v2.ownBlock = some g → v.ownBlock ≠ some g
theorem own_trunc {w : World} {base : Nat} {e : TypeId} {g cap n : Nat} {xs : List Value} {x : Value} (h : w.ownsRow base e 1 (.slice (some ⟨g, 0, none⟩) (n + 1) cap) (n + 1) (xs ++ [x])) : w.ownsRow base e 1 (.slice (some ⟨g, 0, none⟩) n cap) n xs := by
  obtain ⟨hl, h2⟩ := h
  have hx : xs.length = n := by simpa using hl
  refine ⟨by omega, ?_⟩
  rcases h2 with ⟨h3, -⟩ | ⟨g', cap', cur, h3, h4, h5, h6, h7, h8, h9⟩
  · cases h3
  · simp only [Value.slice.injEq, Option.some.injEq, Addr.mk.injEq, and_true, true_and] at h3
    obtain ⟨rfl, rfl⟩ := h3
    refine Or.inr ⟨g, cap, cur, rfl, h4, h5, by omega, h7, h8, ?_⟩
    have h10 := congrArg (List.take n) h9
    rw [List.take_take, show min n ((n + 1) * 1) = n by omega] at h10
    rw [Nat.mul_one, h10]
    exact List.take_left' hx
theorem visitC_bd (ch : Nat → List Nat) {r k : Nat} {U : Nat → Bool} {now : List Int} {c : Int} {s : Int × List Int} (h1 : -1 ≤ s.1) (h2 : s.1 ≤ 8) (h3 : 0 ≤ c) (h4 : c + r ≤ 8) : -1 ≤ (visitC ch r k U now c s).1 ∧ (visitC ch r k U now c s).1 ≤ 8 := by
  rw [visit_eq]
  have := most_le ch r k U
  split <;> (try dsimp only) <;> omega
end Go.Proofs.Ytonoeohmpaegdaa
