import Derived.Test.YticnpibkpfpojaaGreatDoorCopyB
import Derived.Test.YticnpibkpfpojaaGreatDoorMelt
import Derived.Test.YticnpibkpfpojaaGreatDoorIngot
import Derived.Test.YticnpibkpfpojaaGreatDoorDraw
import Derived.Laws.AppendOwn
import Derived.Test.YticnpibkpfpojaaGreatDoorJIng
import Derived.Test.YticnpibkpfpojaaGreatDoorEnough
import Derived.Deep.DeepCutAuto
import Derived.Deep.RegionHeld3
/- Rows that lie in blocks of their own type, and steps that leave the blocks of other types as they are. No program in sight. -/
namespace Go.Proofs.YticnpibkpfpojaaGreatDoor
set_option linter.unusedVariables false
open Go.RowKit
/-- blocks whose type meets S stay as they are -/
def Fix (S : TypeId → Prop) (w w' : World) : Prop := ∀ g t cs, S t → Blk w g t cs → Blk w' g t cs
theorem Fix.refl (S : TypeId → Prop) (w : World) : Fix S w w := fun _ _ _ _ h => h
theorem Fix.trans {S : TypeId → Prop} {u v w : World} (h : Fix S u v) (k : Fix S v w) : Fix S u w := fun g t cs hs hb => k g t cs hs (h g t cs hs hb)
theorem Fix.mono {S R : TypeId → Prop} {u v : World} (h : Fix S u v) (hS : ∀ t, R t → S t) : Fix R u v := fun g t cs hs hb => h g t cs (hS t hs) hb
theorem Fix.below {S : TypeId → Prop} {u v : World} (h : Below u.heap.size u v) : Fix S u v := fun _ _ _ _ hb => hb.keep h
theorem Blk.type {w : World} {g : Nat} {t T : TypeId} {cs ds : Array Value} (h : Blk w g t cs) (k : Blk w g T ds) : t = T := by
  have := h.symm.trans k
  simp only [Option.some.injEq, Obj.cells.injEq] at this
  exact this.2.1
/-- a step that writes the block b alone -/
theorem Only.fix {S : TypeId → Prop} {u v : World} {b : Nat} {T : TypeId} {ds : Array Value} (h : Only b u v) (hb : Blk u b T ds) (hT : ¬ S T) : Fix S u v := fun g t cs hs hk =>
  h.blk (fun e => by subst e; rw [hk.type hb] at hs; exact hT hs) hk
def NotT (T : TypeId) : TypeId → Prop := fun t => t ≠ T
theorem Src.fix {u v : World} {b m : Nat} (h : Src u b m) (ho : Only b u v) : Fix (NotT 80) u v := by
  obtain ⟨A, n, c, k, x, hb, -⟩ := h
  exact ho.fix hb (fun h => h rfl)
theorem Fix.set_ {u : World} {g : Nat} {T : TypeId} {ds : Array Value} (h : Blk u g T ds) (o : Nat) (x : Value) : Fix (NotT T) u (u.setCell ⟨g, o, none⟩ x) := fun g2 t cs hs hk =>
  hk.far (fun e => by subst e; exact hs (hk.type h)) _
theorem Fix.alloc {S : TypeId → Prop} {u : World} (o : Obj) : Fix S u (u.alloc o) := fun _ _ _ _ hb => hb.alloc o
theorem Fix.drewN {S : TypeId → Prop} {u : World} (n : Nat) : Fix S u (u.drewN n) := fun _ _ _ _ hb => hb
theorem own_type {w : World} {base : Nat} {T : TypeId} {size : Nat} {v : Value} {n k : Nat} {xs : List Value} (h : w.ownsRow base T size v n xs) (hv : v.ownBlock = some k) : ∃ ds, Blk w k T ds := by
  rcases h.2 with ⟨rfl, h0⟩ | ⟨g, cap, cur, rfl, hb, hg, -⟩
  · simp [Value.ownBlock] at hv
  · simp [Value.ownBlock] at hv
    subst hv
    exact ⟨cur, hg⟩
/-- what append does to a row of its own -/
theorem Fix.grow {w w' : World} {base : Nat} {T : TypeId} {size : Nat} {v : Value} {n : Nat} {xs : List Value} (h : w.ownsRow base T size v n xs) (hg : w.grownBy w' v.ownBlock) : Fix (NotT T) w w' := fun g t cs hs hk =>
  (hg.block g hk.lt (fun e => by
    obtain ⟨ds, hd⟩ := own_type h e.symm
    exact hs (hk.type hd))).trans hk
theorem only_of {b : Nat} {w w' : World} (h : Below w.heap.size w w') : Only b w w' := ⟨h.os, h.tape, h.output, h.size, fun k _ hk => h.block k hk⟩
theorem Only.grown {b : Nat} {w w' : World} (h : Only b w w') : w.grownBy w' (some b) := ⟨h.os, h.tape, h.output, h.size, fun k hk hne => h.block k (fun e => hne (by rw [e])) hk⟩
theorem Only.grow {b : Nat} {u w w' : World} {r : Option Nat} (h : Only b u w) (hg : w.grownBy w' r) (hr : ∀ k, r = some k → u.heap.size ≤ k) : Only b u w' :=
  ⟨hg.os.trans h.os, hg.tape.trans h.tape, hg.output.trans h.output, Nat.le_trans h.size hg.size, fun k hk hl => (hg.block k (Nat.lt_of_lt_of_le hl h.size) (fun e => by have := hr k e.symm; omega)).trans (h.block k hk hl)⟩
theorem Src.below {w w' : World} {b m : Nat} (h : Src w b m) (hb : Below w.heap.size w w') : Src w' b m := by
  obtain ⟨A, n, c, k, x, h1, h2, h3, h4⟩ := h
  refine ⟨A, n, c, k, x, h1.keep hb, h2, h3, fun i hi => ?_⟩
  obtain ⟨g, q, v, e1, e2, e3, e4, e5⟩ := h4 i hi
  exact ⟨g, q, v, e1, e2, e3, e4, cell_keep hb e5⟩
theorem Src.grow {w w' : World} {b m : Nat} {r : Option Nat} (h : Src w b m) (hg : w.grownBy w' r) (hr : ∀ k, r = some k → b < k) : Src w' b m := by
  obtain ⟨A, n, c, k, x, h1, h2, h3, h4⟩ := h
  refine ⟨A, n, c, k, x, (hg.block b h1.lt (fun e => by have := hr b e.symm; omega)).trans h1, h2, h3, fun i hi => ?_⟩
  obtain ⟨g, q, v, e1, e2, e3, e4, e5⟩ := h4 i hi
  exact ⟨g, q, v, e1, e2, e3, e4, (World.cell?_of_block (w := w) (a := ⟨g, q + i, none⟩) (hg.block g (cell_lt e5) (fun e => by have := hr g e.symm; omega))).trans e5⟩
theorem Src.drew {w : World} {b m : Nat} (h : Src w b m) : Src w.drew b m := h.below (below_drewN (Below.refl _ _) 1)
theorem Src.drewN {w : World} {b m : Nat} (h : Src w b m) (n : Nat) : Src (w.drewN n) b m := h.below (below_drewN (Below.refl _ _) n)
theorem Blk.grow {w w' : World} {g : Nat} {t : TypeId} {cs : Array Value} {r : Option Nat} (h : Blk w g t cs) (hg : w.grownBy w' r) (hr : r ≠ some g) : Blk w' g t cs := (hg.block g h.lt (fun e => hr e.symm)).trans h
theorem own_only {w w' : World} {b base n e size : Nat} {v : Value} {xs : List Value} (h : w.ownsRow base e size v n xs) (ho : Only b w w') (hb : b < base) : w'.ownsRow base e size v n xs :=
  h.kept ho.grown (by
    cases hv : v.ownBlock with
    | none => exact .inl rfl
    | some k => exact .inr fun e => by have := (h.lt k hv).1; injection e with e; omega)
/-- texts in a block of texts -/
def StrT (w : World) (A : Option Addr) (n : Nat) (s : Nat → ByteArray) : Prop := 0 < n → ∃ (g o : Nat) (arr : Array Value), A = some ⟨g, o, none⟩ ∧ Blk w g 9 arr ∧ ∀ i, i < n → arr[o + i]? = some (.string (s i))
theorem StrT.fix {S : TypeId → Prop} {w w' : World} {A : Option Addr} {n : Nat} {s : Nat → ByteArray} (h : StrT w A n s) (hf : Fix S w w') (hs : S 9) : StrT w' A n s := fun hn => by
  obtain ⟨g, o, arr, hA, hb, hx⟩ := h hn
  exact ⟨g, o, arr, hA, hf _ _ _ hs hb, hx⟩
theorem StrT.row {w : World} {A : Option Addr} {n : Nat} {s : Nat → ByteArray} (h : StrT w A n s) : StrRow w A n s := fun hn => by
  obtain ⟨g, o, arr, hA, hb, hx⟩ := h hn
  exact ⟨g, o, hA, fun i hi => (hb.cell _).trans (hx i hi)⟩
theorem StrOwn.typ {w : World} {A : Option Addr} {n G : Nat} {s : Nat → ByteArray} (h : StrOwn w A n s G) : StrT w A n s := fun hn => by
  obtain ⟨hA, arr, hb, hs, hx⟩ := h hn
  exact ⟨G, 0, arr, hA, hb, fun i hi => by rw [Nat.zero_add]; exact hx i hi⟩
def ShareT (w : World) (A : Option Addr) (n : Nat) (s : Nat → ByteArray) (m : Nat → Int) : Prop := 0 < n → ∃ (g o : Nat) (arr : Array Value), A = some ⟨g, o, none⟩ ∧ Blk w g 41 arr ∧ ∀ i, i < n → arr[o + i * 2]? = some (.string (s i)) ∧ arr[o + i * 2 + 1]? = some (.int .i64 (m i))
theorem ShareT.fix {S : TypeId → Prop} {w w' : World} {A : Option Addr} {n : Nat} {s : Nat → ByteArray} {m : Nat → Int} (h : ShareT w A n s m) (hf : Fix S w w') (hs : S 41) : ShareT w' A n s m := fun hn => by
  obtain ⟨g, o, arr, hA, hb, hx⟩ := h hn
  exact ⟨g, o, arr, hA, hf _ _ _ hs hb, hx⟩
theorem ShareT.row {w : World} {A : Option Addr} {n : Nat} {s : Nat → ByteArray} {m : Nat → Int} (h : ShareT w A n s m) : ShareRow w A n s m := fun hn => by
  obtain ⟨g, o, arr, hA, hb, hx⟩ := h hn
  exact ⟨g, o, hA, fun i hi => ⟨(hb.cell _).trans (hx i hi).1, (hb.cell _).trans (hx i hi).2⟩⟩
theorem ShareOwnC.typ {w : World} {n G c : Nat} {s : Nat → ByteArray} {m : Nat → Int} (h : ShareOwnC w n s m G c) : ShareT w (some ⟨G, 0, none⟩) n s m := fun _ => by
  obtain ⟨arr, hb, -, -, -, hx⟩ := h
  exact ⟨G, 0, arr, rfl, hb, fun i hi => by rw [Nat.zero_add]; exact hx i hi⟩
def IngT (w : World) (A : Option Addr) (n : Nat) (s0 : Nat → ByteArray) (a1 a2 a3 a4 : Nat → Int) : Prop := 0 < n → ∃ (g o : Nat) (arr : Array Value), A = some ⟨g, o, none⟩ ∧ Blk w g 163 arr ∧ ∀ i, i < n → arr[o + i * 5]? = some (.string (s0 i)) ∧ arr[o + i * 5 + 1]? = some (.int .i64 (a1 i)) ∧ arr[o + i * 5 + 2]? = some (.int .i64 (a2 i)) ∧ arr[o + i * 5 + 3]? = some (.int .i64 (a3 i)) ∧ arr[o + i * 5 + 4]? = some (.int .i64 (a4 i))
theorem IngT.fix {S : TypeId → Prop} {w w' : World} {A : Option Addr} {n : Nat} {s0 : Nat → ByteArray} {a1 a2 a3 a4 : Nat → Int} (h : IngT w A n s0 a1 a2 a3 a4) (hf : Fix S w w') (hs : S 163) : IngT w' A n s0 a1 a2 a3 a4 := fun hn => by
  obtain ⟨g, o, arr, hA, hb, hx⟩ := h hn
  exact ⟨g, o, arr, hA, hf _ _ _ hs hb, hx⟩
theorem IngT.row {w : World} {A : Option Addr} {n : Nat} {s0 : Nat → ByteArray} {a1 a2 a3 a4 : Nat → Int} (h : IngT w A n s0 a1 a2 a3 a4) : IngotRow w A n s0 a1 a2 a3 a4 := fun hn => by
  obtain ⟨g, o, arr, hA, hb, hx⟩ := h hn
  refine ⟨g, o, hA, fun i hi => ?_⟩
  obtain ⟨x0, x1, x2, x3, x4⟩ := hx i hi
  exact ⟨(hb.cell _).trans x0, (hb.cell _).trans x1, (hb.cell _).trans x2, (hb.cell _).trans x3, (hb.cell _).trans x4⟩
/-- one melt among cells -/
def MeltL (w : World) (c : Nat → Option Value) (x : MeltV) : Prop := ∃ A cap, c 0 = some (.string x.id) ∧ c 1 = some (.slice A x.n cap) ∧ c 2 = some (.int .i64 x.ma) ∧ StrT w A x.n x.ss
theorem MeltL.fix {S : TypeId → Prop} {w w' : World} {c : Nat → Option Value} {x : MeltV} (h : MeltL w c x) (hf : Fix S w w') (hs : S 9) : MeltL w' c x := by
  obtain ⟨A, cap, h0, h1, h2, h3⟩ := h
  exact ⟨A, cap, h0, h1, h2, h3.fix hf hs⟩
theorem MeltL.congr {w : World} {c d : Nat → Option Value} {x : MeltV} (h : MeltL w c x) (he : ∀ i, i < 3 → d i = c i) : MeltL w d x := by
  obtain ⟨A, cap, h0, h1, h2, h3⟩ := h
  exact ⟨A, cap, (he 0 (by omega)).trans h0, (he 1 (by omega)).trans h1, (he 2 (by omega)).trans h2, h3⟩
def MeltT (w : World) (A : Option Addr) (n : Nat) (f : Nat → MeltV) : Prop := 0 < n → ∃ (g o : Nat) (arr : Array Value), A = some ⟨g, o, none⟩ ∧ Blk w g 74 arr ∧ ∀ i, i < n → MeltL w (fun j => arr[o + i * 3 + j]?) (f i)
theorem MeltT.fix {S : TypeId → Prop} {w w' : World} {A : Option Addr} {n : Nat} {f : Nat → MeltV} (h : MeltT w A n f) (hf : Fix S w w') (hs : S 9) (hm : S 74) : MeltT w' A n f := fun hn => by
  obtain ⟨g, o, arr, hA, hb, hx⟩ := h hn
  exact ⟨g, o, arr, hA, hf _ _ _ hm hb, fun i hi => (hx i hi).fix hf hs⟩
theorem MeltT.row {w : World} {A : Option Addr} {n : Nat} {f : Nat → MeltV} (h : MeltT w A n f) : MeltRow w A n f := fun hn => by
  obtain ⟨g, o, arr, hA, hb, hx⟩ := h hn
  refine ⟨g, o, hA, fun i hi => ?_⟩
  obtain ⟨A2, cap, h0, h1, h2, h3⟩ := hx i hi
  exact ⟨A2, cap, (hb.cell _).trans h0, (hb.cell _).trans h1, (hb.cell _).trans h2, h3.row⟩
def MeltsL (w : World) (xs : List Value) (k : Nat) (f : Nat → MeltV) : Prop := xs.length = k * 3 ∧ ∀ i, i < k → MeltL w (fun j => xs[i * 3 + j]?) (f i)
theorem MeltsL.nil (w : World) (f : Nat → MeltV) : MeltsL w [] 0 f := ⟨rfl, fun i hi => absurd hi (Nat.not_lt_zero _)⟩
theorem MeltsL.fix {S : TypeId → Prop} {w w' : World} {xs : List Value} {k : Nat} {f : Nat → MeltV} (h : MeltsL w xs k f) (hf : Fix S w w') (hs : S 9) : MeltsL w' xs k f := ⟨h.1, fun i hi => (h.2 i hi).fix hf hs⟩
def meltC (x : MeltV) (v : Value) : List Value := [.string x.id, v, .int .i64 x.ma]
theorem MeltsL.snoc {w : World} {xs : List Value} {k c : Nat} {A : Option Addr} {f : Nat → MeltV} (h : MeltsL w xs k f) (hn : StrT w A (f k).n (f k).ss) : MeltsL w (xs ++ meltC (f k) (.slice A (f k).n c)) (k + 1) f := by
  obtain ⟨hl, hx⟩ := h
  refine ⟨by simp [meltC, hl]; omega, fun i hi => ?_⟩
  rcases Nat.lt_or_ge i k with q | q
  · exact (hx i q).congr fun j hj => by
      show (xs ++ _)[i * 3 + j]? = xs[i * 3 + j]?
      exact List.getElem?_append_left (by omega)
  · obtain rfl : i = k := by omega
    have e : ∀ j, (xs ++ meltC (f i) (.slice A (f i).n c))[i * 3 + j]? = (meltC (f i) (.slice A (f i).n c))[j]? := fun j => by
      rw [List.getElem?_append_right (by omega)]
      congr 1
      omega
    exact ⟨A, c, e 0, e 1, e 2, hn⟩
theorem MeltsL.congr {w : World} {xs : List Value} {k : Nat} {f f' : Nat → MeltV} (h : MeltsL w xs k f) (he : ∀ i, i < k → f' i = f i) : MeltsL w xs k f' := ⟨h.1, fun i hi => by rw [he i hi]; exact h.2 i hi⟩
theorem meltT_of {w : World} {base k : Nat} {v : Value} {xs : List Value} {f : Nat → MeltV} (ho : w.ownsRow base 74 3 v k xs) (h : MeltsL w xs k f) : ∃ A c, v = .slice A k c ∧ k ≤ c ∧ MeltT w A k f := by
  rcases Nat.eq_zero_or_pos k with h0 | h0
  · subst h0
    rcases ho.2 with ⟨q, -⟩ | ⟨g, cap, cur, q, -⟩
    · exact ⟨none, 0, q, by omega, fun h => by omega⟩
    · exact ⟨_, cap, q, by omega, fun h => by omega⟩
  · obtain ⟨g, cap, cur, rfl, hg, hbk, hc, hm, hs, hxx⟩ := own_blk ho h0
    refine ⟨_, cap, rfl, hc, fun _ => ⟨g, 0, cur, rfl, hbk, fun i hi => (h.2 i hi).congr fun j hj => ?_⟩⟩
    show cur[0 + i * 3 + j]? = xs[i * 3 + j]?
    rw [Nat.zero_add]
    exact hxx _ (by omega)
/-- one bell among cells -/
def BellL (w : World) (c : Nat → Option Value) (x : BellV) : Prop := ∃ A cap, c 0 = some (.string x.id) ∧ c 1 = some (.int .i64 x.no) ∧ c 2 = some (.int .i64 x.ma) ∧ c 3 = some (.int .i64 x.fe) ∧ c 4 = some (.slice A x.n cap) ∧ ShareT w A x.n x.ss x.ms
theorem BellL.fix {S : TypeId → Prop} {w w' : World} {c : Nat → Option Value} {x : BellV} (h : BellL w c x) (hf : Fix S w w') (hs : S 41) : BellL w' c x := by
  obtain ⟨A, cap, h0, h1, h2, h3, h4, h5⟩ := h
  exact ⟨A, cap, h0, h1, h2, h3, h4, h5.fix hf hs⟩
theorem BellL.congr {w : World} {c d : Nat → Option Value} {x : BellV} (h : BellL w c x) (he : ∀ i, i < 5 → d i = c i) : BellL w d x := by
  obtain ⟨A, cap, h0, h1, h2, h3, h4, h5⟩ := h
  exact ⟨A, cap, (he 0 (by omega)).trans h0, (he 1 (by omega)).trans h1, (he 2 (by omega)).trans h2, (he 3 (by omega)).trans h3, (he 4 (by omega)).trans h4, h5⟩
def BellT (w : World) (A : Option Addr) (n : Nat) (f : Nat → BellV) : Prop := 0 < n → ∃ (g o : Nat) (arr : Array Value), A = some ⟨g, o, none⟩ ∧ Blk w g 28 arr ∧ ∀ i, i < n → BellL w (fun j => arr[o + i * 5 + j]?) (f i)
theorem BellT.fix {S : TypeId → Prop} {w w' : World} {A : Option Addr} {n : Nat} {f : Nat → BellV} (h : BellT w A n f) (hf : Fix S w w') (hs : S 41) (hm : S 28) : BellT w' A n f := fun hn => by
  obtain ⟨g, o, arr, hA, hb, hx⟩ := h hn
  exact ⟨g, o, arr, hA, hf _ _ _ hm hb, fun i hi => (hx i hi).fix hf hs⟩
theorem BellT.row {w : World} {A : Option Addr} {n : Nat} {f : Nat → BellV} (h : BellT w A n f) : BellRow w A n f := fun hn => by
  obtain ⟨g, o, arr, hA, hb, hx⟩ := h hn
  refine ⟨g, o, hA, fun i hi => ?_⟩
  obtain ⟨A2, cap, h0, h1, h2, h3, h4, h5⟩ := hx i hi
  exact ⟨A2, cap, (hb.cell _).trans h0, (hb.cell _).trans h1, (hb.cell _).trans h2, (hb.cell _).trans h3, (hb.cell _).trans h4, h5.row⟩
theorem BellOwn.typ {w : World} {A : Option Addr} {n G lo : Nat} {f : Nat → BellV} (h : BellOwn w A n f G lo) : BellT w A n f := fun hn => by
  obtain ⟨rfl, -, arr, hb, -, gs, cs, hx, -⟩ := h hn
  refine ⟨G, 0, arr, rfl, hb, fun i hi => ?_⟩
  obtain ⟨⟨a0, a1, a2, a3⟩, a4, -, -, a7⟩ := hx i hi
  refine ⟨_, cs i, ?_, ?_, ?_, ?_, ?_, a7.typ⟩
  · show arr[0 + i * 5 + 0]? = _
    rw [Nat.zero_add]; exact a0
  · show arr[0 + i * 5 + 1]? = _
    rw [Nat.zero_add]; exact a1
  · show arr[0 + i * 5 + 2]? = _
    rw [Nat.zero_add]; exact a2
  · show arr[0 + i * 5 + 3]? = _
    rw [Nat.zero_add]; exact a3
  · show arr[0 + i * 5 + 4]? = _
    rw [Nat.zero_add]; exact a4
theorem BellOwn.only {w w' : World} {A : Option Addr} {n G lo b : Nat} {f : Nat → BellV} (h : BellOwn w A n f G lo) (ho : Only b w w') (hb : b < lo) : BellOwn w' A n f G lo := fun hn => by
  obtain ⟨hA, hl, arr, hk, hs, gs, cs, hx, hap⟩ := h hn
  refine ⟨hA, hl, arr, ho.blk (by omega) hk, hs, gs, cs, fun i hi => ?_, hap⟩
  obtain ⟨a, a4, a5, a6, a7⟩ := hx i hi
  have := ho.size
  exact ⟨a, a4, a5, by omega, a7.same (ho.block _ (by omega) a6)⟩
def BellsL (w : World) (xs : List Value) (k : Nat) (f : Nat → BellV) : Prop := xs.length = k * 5 ∧ ∀ i, i < k → BellL w (fun j => xs[i * 5 + j]?) (f i)
theorem BellsL.nil (w : World) (f : Nat → BellV) : BellsL w [] 0 f := ⟨rfl, fun i hi => absurd hi (Nat.not_lt_zero _)⟩
theorem BellsL.fix {S : TypeId → Prop} {w w' : World} {xs : List Value} {k : Nat} {f : Nat → BellV} (h : BellsL w xs k f) (hf : Fix S w w') (hs : S 41) : BellsL w' xs k f := ⟨h.1, fun i hi => (h.2 i hi).fix hf hs⟩
theorem BellsL.snoc {w : World} {xs : List Value} {k c : Nat} {A : Option Addr} {f : Nat → BellV} (h : BellsL w xs k f) (hn : ShareT w A (f k).n (f k).ss (f k).ms) : BellsL w (xs ++ bellC (f k) (.slice A (f k).n c)) (k + 1) f := by
  obtain ⟨hl, hx⟩ := h
  refine ⟨by simp [bellC, hl]; omega, fun i hi => ?_⟩
  rcases Nat.lt_or_ge i k with q | q
  · exact (hx i q).congr fun j hj => by
      show (xs ++ _)[i * 5 + j]? = xs[i * 5 + j]?
      exact List.getElem?_append_left (by omega)
  · obtain rfl : i = k := by omega
    have e : ∀ j, (xs ++ bellC (f i) (.slice A (f i).n c))[i * 5 + j]? = (bellC (f i) (.slice A (f i).n c))[j]? := fun j => by
      rw [List.getElem?_append_right (by omega)]
      congr 1
      omega
    exact ⟨A, c, e 0, e 1, e 2, e 3, e 4, hn⟩
theorem bellT_of {w : World} {base k : Nat} {v : Value} {xs : List Value} {f : Nat → BellV} (ho : w.ownsRow base 28 5 v k xs) (h : BellsL w xs k f) : ∃ A c, v = .slice A k c ∧ k ≤ c ∧ BellT w A k f := by
  rcases Nat.eq_zero_or_pos k with h0 | h0
  · subst h0
    rcases ho.2 with ⟨q, -⟩ | ⟨g, cap, cur, q, -⟩
    · exact ⟨none, 0, q, by omega, fun h => by omega⟩
    · exact ⟨_, cap, q, by omega, fun h => by omega⟩
  · obtain ⟨g, cap, cur, rfl, hg, hbk, hc, hm, hs, hxx⟩ := own_blk ho h0
    refine ⟨_, cap, rfl, hc, fun _ => ⟨g, 0, cur, rfl, hbk, fun i hi => (h.2 i hi).congr fun j hj => ?_⟩⟩
    show cur[0 + i * 5 + j]? = xs[i * 5 + j]?
    rw [Nat.zero_add]
    exact hxx _ (by omega)
/-- the text of one small letter -/
def letter (i : Nat) : ByteArray := ⟨#[UInt8.ofNat (97 + i)]⟩
def IngXs (xs : List Value) (k : Nat) : Prop := xs.length = k * 5 ∧ ∀ i, i < k → xs[i * 5]? = some (.string (letter i)) ∧ (∃ m : Int, (1000 ≤ m ∧ m ≤ 90000) ∧ xs[i * 5 + 1]? = some (.int .i64 m)) ∧ (∃ m, xs[i * 5 + 2]? = some (.int .i64 m)) ∧ (∃ m : Int, (0 ≤ m ∧ m ≤ 1000000) ∧ xs[i * 5 + 3]? = some (.int .i64 m)) ∧ ∃ m : Int, (0 ≤ m ∧ m ≤ 1000000) ∧ xs[i * 5 + 4]? = some (.int .i64 m)
theorem IngXs.nil : IngXs [] 0 := ⟨rfl, fun i hi => absurd hi (Nat.not_lt_zero _)⟩
theorem IngXs.snoc {xs : List Value} {k : Nat} (h : IngXs xs k) {m a b c : Int} (hm : 1000 ≤ m ∧ m ≤ 90000) (hb : 0 ≤ b ∧ b ≤ 1000000) (hc : 0 ≤ c ∧ c ≤ 1000000) : IngXs (xs ++ [.string (letter k), .int .i64 m, .int .i64 a, .int .i64 b, .int .i64 c]) (k + 1) := by
  obtain ⟨hl, hx⟩ := h
  refine ⟨by simp [hl]; omega, fun i hi => ?_⟩
  rcases Nat.lt_or_ge i k with q | q
  · obtain ⟨a0, ⟨m1, hm1, a1⟩, ⟨m2, a2⟩, ⟨m3, hm3, a3⟩, m4, hm4, a4⟩ := hx i q
    have e : ∀ r, r < 5 → (xs ++ [Value.string (letter k), .int .i64 m, .int .i64 a, .int .i64 b, .int .i64 c])[i * 5 + r]? = xs[i * 5 + r]? := fun r hr => List.getElem?_append_left (by omega)
    exact ⟨(e 0 (by omega)).trans a0, ⟨m1, hm1, (e 1 (by omega)).trans a1⟩, ⟨m2, (e 2 (by omega)).trans a2⟩, ⟨m3, hm3, (e 3 (by omega)).trans a3⟩, m4, hm4, (e 4 (by omega)).trans a4⟩
  · obtain rfl : i = k := by omega
    have e : ∀ r, (xs ++ [Value.string (letter i), .int .i64 m, .int .i64 a, .int .i64 b, .int .i64 c])[i * 5 + r]? = [Value.string (letter i), .int .i64 m, .int .i64 a, .int .i64 b, .int .i64 c][r]? := fun r => by
      rw [List.getElem?_append_right (by omega)]
      congr 1
      omega
    exact ⟨e 0, ⟨m, hm, e 1⟩, ⟨a, e 2⟩, ⟨b, hb, e 3⟩, c, hc, e 4⟩
/-- ingots that were drawn -/
def IngD (w : World) (A : Option Addr) (n c : Nat) (s0 : Nat → ByteArray) (a1 a2 a3 a4 : Nat → Int) : Prop := n ≤ c ∧ n ≤ 7 ∧ IngT w A n s0 a1 a2 a3 a4 ∧ ∀ i, i < n → s0 i = letter i ∧ (1000 ≤ a1 i ∧ a1 i ≤ 90000) ∧ (0 ≤ a3 i ∧ a3 i ≤ 1000000) ∧ (0 ≤ a4 i ∧ a4 i ≤ 1000000)
theorem IngD.fix {S : TypeId → Prop} {w w' : World} {A : Option Addr} {n c : Nat} {s0 : Nat → ByteArray} {a1 a2 a3 a4 : Nat → Int} (h : IngD w A n c s0 a1 a2 a3 a4) (hf : Fix S w w') (hs : S 163) : IngD w' A n c s0 a1 a2 a3 a4 :=
  ⟨h.1, h.2.1, h.2.2.1.fix hf hs, h.2.2.2⟩
theorem ingD_of {w : World} {base k : Nat} {v : Value} {xs : List Value} (h : w.ownsRow base 163 5 v k xs) (hx : IngXs xs k) (hk : k ≤ 7) : ∃ A c s0 a1 a2 a3 a4, v = .slice A k c ∧ IngD w A k c s0 a1 a2 a3 a4 := by
  rcases Nat.eq_zero_or_pos k with h0 | h0
  · subst h0
    rcases h.2 with ⟨q, -⟩ | ⟨g, cap, cur, q, -⟩
    · exact ⟨none, 0, fun _ => ⟨#[]⟩, fun _ => 0, fun _ => 0, fun _ => 0, fun _ => 0, q, Nat.zero_le _, by omega, fun h => by omega, fun i hi => by omega⟩
    · exact ⟨_, cap, fun _ => ⟨#[]⟩, fun _ => 0, fun _ => 0, fun _ => 0, fun _ => 0, q, Nat.zero_le _, by omega, fun h => by omega, fun i hi => by omega⟩
  · obtain ⟨g, cap, cur, rfl, hg, hbk, hc, hm, hs, hxx⟩ := own_blk h h0
    obtain ⟨hl, hx⟩ := hx
    have hall : ∀ i, ∃ t : Int × Int × Int × Int, i < k → ((1000 ≤ t.1 ∧ t.1 ≤ 90000) ∧ (0 ≤ t.2.2.1 ∧ t.2.2.1 ≤ 1000000) ∧ (0 ≤ t.2.2.2 ∧ t.2.2.2 ≤ 1000000)) ∧ xs[i * 5 + 1]? = some (.int .i64 t.1) ∧ xs[i * 5 + 2]? = some (.int .i64 t.2.1) ∧ xs[i * 5 + 3]? = some (.int .i64 t.2.2.1) ∧ xs[i * 5 + 4]? = some (.int .i64 t.2.2.2) := fun i => by
      by_cases hi : i < k
      · obtain ⟨-, ⟨m1, hm1, e1⟩, ⟨m2, e2⟩, ⟨m3, hm3, e3⟩, m4, hm4, e4⟩ := hx i hi
        exact ⟨(m1, m2, m3, m4), fun _ => ⟨⟨hm1, hm3, hm4⟩, e1, e2, e3, e4⟩⟩
      · exact ⟨(0, 0, 0, 0), fun h => absurd h hi⟩
    obtain ⟨F, hF⟩ := Classical.axiomOfChoice hall
    refine ⟨_, cap, letter, fun i => (F i).1, fun i => (F i).2.1, fun i => (F i).2.2.1, fun i => (F i).2.2.2, rfl, hc, hk, fun _ => ⟨g, 0, cur, rfl, hbk, fun i hi => ?_⟩, fun i hi => ⟨rfl, (hF i hi).1⟩⟩
    obtain ⟨-, e1, e2, e3, e4⟩ := hF i hi
    rw [Nat.zero_add]
    have e : ∀ r u, r < 5 → xs[i * 5 + r]? = some u → cur[i * 5 + r]? = some u := fun r u hr hu => by
      rw [hxx _ (by omega)]; exact hu
    exact ⟨e 0 _ (by omega) (hx i hi).1, e 1 _ (by omega) e1, e 2 _ (by omega) e2, e 3 _ (by omega) e3, e 4 _ (by omega) e4⟩
theorem letter_srt {n : Nat} (h : n ≤ 7) : Srt letter n := fun a b hab hb => by
  have : ∀ a b : Fin 7, a < b → ltS (letter a) (letter b) = true := by decide +kernel
  exact this ⟨a, by omega⟩ ⟨b, by omega⟩ hab
theorem letter_size (i : Nat) : (letter i).size = 1 := rfl
theorem srt_congr {s t : Nat → ByteArray} {n : Nat} (h : Srt t n) (he : ∀ i, i < n → s i = t i) : Srt s n := fun a b hab hb => by
  rw [he a (by omega), he b hb]; exact h a b hab hb
theorem new_heldO {b : Nat} {a W : World} {cs : Array Value} {t : TypeId} {R : Prop} (h : Only b a (W.alloc (.cells cs t)) ∧ R) : Blk (W.alloc (.cells cs t)) W.heap.size t cs := Blk.new W t cs
theorem new_heldOD {b : Nat} {a W : World} {cs : Array Value} {t : TypeId} {R : Prop} (h : Only b a (W.alloc (.cells cs t)).drew ∧ R) : Blk (W.alloc (.cells cs t)).drew W.heap.size t cs := (Blk.new W t cs).drew
theorem ab_heldO {b : Nat} {a W : World} {o : Obj} {R : Prop} (h : Only b a (W.alloc o) ∧ R) : Below W.heap.size W (W.alloc o) := (Below.refl _ _).alloc (Nat.le_refl _) _
theorem ab_heldOD {b : Nat} {a W : World} {o : Obj} {R : Prop} (h : Only b a (W.alloc o).drew ∧ R) : Below W.heap.size W (W.alloc o).drew := ((Below.refl _ _).alloc (Nat.le_refl _) _).drew
theorem cellG {w : World} {b o G j : Nat} {x u : Value} (h : w.cell? ⟨b, o, none⟩ = some x) (hne : b ≠ G) : (w.setCell ⟨G, j, none⟩ u).cell? ⟨b, o, none⟩ = some x :=
  (World.cell?_of_block (w := w) (a := ⟨b, o, none⟩) (Below.heap_setCell w ⟨G, j, none⟩ u b hne)).trans h
theorem src_any {w w' : World} {b m : Nat} (h : Src w b m) (hb : Below w.heap.size w w') : Src w' b m := h.below hb
end Go.Proofs.YticnpibkpfpojaaGreatDoor

/- Lists of melts that a call makes: what they hold, and one more. No program in sight. -/
namespace Go.Proofs.YticnpibkpfpojaaGreatDoor
set_option linter.unusedVariables false
open Go.RowKit
/-- k melts among cells, each fine -/
def MeltsP (w : World) (xs : List Value) (k : Nat) : Prop := ∃ F : Nat → MeltV, MeltsL w xs k F ∧ ∀ j, j < k → FineM (F j)
theorem MeltsP.nil (w : World) : MeltsP w [] 0 := ⟨fun _ => ⟨⟨#[]⟩, 0, fun _ => ⟨#[]⟩, 0⟩, MeltsL.nil _ _, fun j hj => absurd hj (Nat.not_lt_zero _)⟩
theorem MeltsP.fix {S : TypeId → Prop} {w w' : World} {xs : List Value} {k : Nat} (h : MeltsP w xs k) (hf : Fix S w w') (hs : S 9) : MeltsP w' xs k := by
  obtain ⟨F, h1, h2⟩ := h
  exact ⟨F, h1.fix hf hs, h2⟩
theorem MeltsP.snoc {w : World} {xs : List Value} {k c : Nat} {A : Option Addr} {x : MeltV} (h : MeltsP w xs k) (hn : StrT w A x.n x.ss) (hx : FineM x) : MeltsP w (xs ++ meltC x (.slice A x.n c)) (k + 1) := by
  obtain ⟨F, h1, h2⟩ := h
  obtain ⟨F2, hF2⟩ : ∃ F2 : Nat → MeltV, F2 = fun j => if j = k then x else F j := ⟨_, rfl⟩
  have e : F2 k = x := by rw [hF2]; exact if_pos rfl
  have h3 : MeltsL w xs k F2 := h1.congr fun i hi => by rw [hF2]; exact if_neg (by omega)
  have h4 := h3.snoc (c := c) (A := A) (by rw [e]; exact hn)
  rw [e] at h4
  refine ⟨F2, h4, fun j hj => ?_⟩
  rw [hF2]
  show FineM (if j = k then x else F j)
  split
  · exact hx
  · exact h2 j (by omega)
theorem meltP_of {w : World} {base k : Nat} {v : Value} {xs : List Value} (ho : w.ownsRow base 74 3 v k xs) (h : MeltsP w xs k) : ∃ A c F, v = .slice A k c ∧ k ≤ c ∧ MeltT w A k F ∧ ∀ j, j < k → FineM (F j) := by
  obtain ⟨F, h1, h2⟩ := h
  obtain ⟨A, c, h3, h4, h5⟩ := meltT_of ho h1
  exact ⟨A, c, F, h3, h4, h5, h2⟩
/-- one more melt, its ingots in a block that is there -/
theorem pushM {wr w1 w : World} {base k c : Nat} {A : Option Addr} {v : Value} {xs : List Value} {x : MeltV} (hown : wr.ownsRow base 74 3 v k xs) (hbx : MeltsP wr xs k) (hbr : Below base w wr) (hbs : base ≤ wr.heap.size) (hb : Below wr.heap.size wr w1) (hso : StrT w1 A x.n x.ss) (hx : FineM x) :
    (w1.alloc (.cells (meltC x (.slice A x.n c)).toArray 74)).ownsRow base 74 3 v k xs ∧
    (∀ j u, (meltC x (.slice A x.n c))[j]? = some u → (w1.alloc (.cells (meltC x (.slice A x.n c)).toArray 74)).cell? ((⟨w1.heap.size, 0, none⟩ : Addr).add j) = some u) ∧
    (∀ w9, (w1.alloc (.cells (meltC x (.slice A x.n c)).toArray 74)).grownBy w9 v.ownBlock → MeltsP w9 (xs ++ meltC x (.slice A x.n c)) (k + 1) ∧ Below base w w9 ∧ base ≤ w9.heap.size) := by
  have hlt := hown.lt
  have own1 := own_keep hown hb
  have hs := hb.size
  have own2 := own1.alloc (.cells (meltC x (.slice A x.n c)).toArray 74)
  have bx1 := hbx.fix (S := NotT 74) ((Fix.below hb).trans (Fix.alloc (.cells (meltC x (.slice A x.n c)).toArray 74))) (by unfold NotT; decide)
  have br1 := hbr.trans (hb.mono hbs)
  refine ⟨own2, World.news_of_block (Blk.new w1 74 (meltC x (.slice A x.n c)).toArray), fun w9 hgrow => ?_⟩
  have hgs : w1.heap.size ≤ w9.heap.size := Nat.le_trans (show w1.heap.size ≤ (w1.alloc (.cells (meltC x (.slice A x.n c)).toArray 74)).heap.size by simp) hgrow.size
  have hf := Fix.grow own2 hgrow
  exact ⟨(bx1.fix hf (by unfold NotT; decide)).snoc (hso.fix (S := NotT 74) ((Fix.alloc _).trans hf) (by unfold NotT; decide)) hx, (br1.alloc (by omega) _).grown hgrow (by simp; omega) (fun z hz => (hlt z hz).1), by omega⟩
def strW (ss : Nat → ByteArray) (k : Nat) : List Value := strsL ss k
theorem strs_news {w : World} {b o n : Nat} {ss : Nat → ByteArray} (h : ∀ i, i < n → w.cell? ⟨b, o + i, none⟩ = some (.string (ss i))) : ∀ j u, (strsL ss n)[j]? = some u → w.cell? ((⟨b, o, none⟩ : Addr).add j) = some u := fun j u hj => by
  have hjn : j < n := by
    rcases Nat.lt_or_ge j n with q | q
    · exact q
    · rw [List.getElem?_eq_none (by rw [strsL_len]; omega)] at hj; cases hj
  rw [strsL_at _ hjn] at hj
  have hadd : (⟨b, o, none⟩ : Addr).add j = ⟨b, o + j, none⟩ := by unfold Addr.add; split <;> simp_all
  rw [hadd, ← Option.some.inj hj]
  exact h j hjn
theorem strs_one (ss : Nat → ByteArray) (n : Nat) : ∀ u ∈ strsL ss n, u.oneCell' = true := fun u hu => by
  simp only [strsL, List.mem_map] at hu
  obtain ⟨i, -, rfl⟩ := hu
  rfl
theorem meltV_n {x : MeltV} (h : meltV x = true) : 1 ≤ x.n ∧ x.n ≤ 16 := by
  unfold meltV at h
  simp only [Bool.and_eq_true, decide_eq_true_eq] at h
  omega
theorem okM_val {g : Nat → MeltV} {m i : Nat} (h : okMelts g m = true) (hi : i < m) : meltV (g i) = true := by
  unfold okMelts meltsOk at h
  simp only [Bool.and_eq_true] at h
  have h2 := allB_of h.1 i hi
  unfold meltAt' goodAt at h2
  simp only [Bool.and_eq_true] at h2
  exact h2.1.1
theorem okM_few {g : Nat → MeltV} {m : Nat} (h : okMelts g m = true) : m ≤ 12 := by
  unfold okMelts at h
  simp only [Bool.and_eq_true, decide_eq_true_eq] at h
  omega
end Go.Proofs.YticnpibkpfpojaaGreatDoor

/- Whether melts are possible with ingots: in the reference, and both whole. -/
namespace Go.Proofs.YticnpibkpfpojaaGreatDoor
set_option linter.unusedVariables false
open Go.RowKit

noncomputable def okIngs (s0 : Nat → ByteArray) (a1 a2 a3 a4 : Nat → Int) (n : Nat) : Bool := allB (goodAt (fun i => ingB (s0 i) (a1 i) (a2 i) (a3 i) (a4 i)) s0) n && decide ((n : Int) ≤ 16)
theorem okIngs_srt {s0 : Nat → ByteArray} {a1 a2 a3 a4 : Nat → Int} {n : Nat} (h : okIngs s0 a1 a2 a3 a4 n = true) : Srt s0 n := srt_of fun k hk => by
  unfold okIngs at h
  simp only [Bool.and_eq_true] at h
  have h1 := allB_of h.1 (k + 1) hk
  unfold goodAt at h1
  simp only [Bool.and_eq_true] at h1
  have h2 := h1.2
  show Op.bytesLess (s0 k).toList (s0 (k + 1)).toList = true
  simpa using h2
theorem okIngs_bd {s0 : Nat → ByteArray} {a1 a2 a3 a4 : Nat → Int} {n : Nat} (h : okIngs s0 a1 a2 a3 a4 n = true) : IngB n a1 a3 a4 ∧ n ≤ 16 := by
  unfold okIngs at h
  simp only [Bool.and_eq_true, decide_eq_true_eq] at h
  refine ⟨fun i hi => ?_, by omega⟩
  have h1 := allB_of h.1 i hi
  unfold goodAt at h1
  simp only [Bool.and_eq_true] at h1
  obtain ⟨b1, b2, b3, b4, b5⟩ := ingB_of h1.1
  exact ⟨⟨by omega, by omega⟩, b3, b4⟩
theorem okIngs_pos {s0 : Nat → ByteArray} {a1 a2 a3 a4 : Nat → Int} {n : Nat} (h : okIngs s0 a1 a2 a3 a4 n = true) : ∀ i, i < n → 1 ≤ a1 i := fun i hi => by
  unfold okIngs at h
  simp only [Bool.and_eq_true, decide_eq_true_eq] at h
  have h1 := allB_of h.1 i hi
  unfold goodAt at h1
  simp only [Bool.and_eq_true] at h1
  obtain ⟨b1, b2, b3, b4, b5⟩ := ingB_of h1.1
  exact b1.1
theorem okM_q {g : Nat → MeltV} {m : Nat} (h : okMelts g m = true) : ∀ i, i < m → (g i).n ≤ 16 := fun i hi => by
  unfold okMelts meltsOk at h
  simp only [Bool.and_eq_true] at h
  have h2 := allB_of h.1 i hi
  unfold meltAt' goodAt meltV at h2
  simp only [Bool.and_eq_true, decide_eq_true_eq] at h2
  have := h2.1.1.2.2.1
  omega
theorem allB_and (p q : Nat → Bool) : ∀ m, (allB p m && allB q m) = allB (fun i => p i && q i) m
  | 0 => rfl
  | m + 1 => by
    have ih := allB_and p q m
    simp only [allB]
    rw [← ih]
    cases allB p m <;> cases allB q m <;> cases p m <;> cases q m <;> rfl
def posOne (s0 : Nat → ByteArray) (n : Nat) (a1 : Nat → Int) (x : MeltV) : Bool := allHave s0 n x.ss x.n && !decide (mostV s0 n a1 x.ss x.n < x.ma)
end Go.Proofs.YticnpibkpfpojaaGreatDoor

/- A melt of its own; the codes for ingots and melts (the reference's): what they leave, for all arguments. -/
namespace Go.Proofs.YticnpibkpfpojaaGreatDoor
set_option linter.unusedVariables false
set_option linter.unusedSimpArgs false
open Go.RowKit

theorem row_news {w : World} {b o n : Nat} {ss : Nat → ByteArray} (h : StrRow w (some ⟨b, o, none⟩) n ss) : ∀ j u, (strsL ss n)[j]? = some u → w.cell? ((⟨b, o, none⟩ : Addr).add j) = some u := by
  rcases Nat.eq_zero_or_pos n with z | z
  · subst z; intro j u hj; simp [strsL] at hj
  · obtain ⟨b2, o2, hA, hc⟩ := h z
    simp only [Option.some.injEq, Addr.mk.injEq, and_true] at hA
    obtain ⟨rfl, rfl⟩ := hA
    exact strs_news hc
theorem StrRow.grow {w w' : World} {b o n : Nat} {ss : Nat → ByteArray} {r : Option Nat} (h : StrRow w (some ⟨b, o, none⟩) n ss) (hg : w.grownBy w' r) (hr : r ≠ some b) : StrRow w' (some ⟨b, o, none⟩) n ss := fun hn => by
  obtain ⟨b2, o2, hA, hc⟩ := h hn
  simp only [Option.some.injEq, Addr.mk.injEq, and_true] at hA
  obtain ⟨rfl, rfl⟩ := hA
  exact ⟨b, o, rfl, fun i hi => (World.cell?_of_block (w := w) (a := ⟨b, o + i, none⟩) (hg.block b (cell_lt (hc i hi)) (fun e => hr e.symm))).trans (hc i hi)⟩
theorem StrRow.far {w : World} {b o n g j : Nat} {ss : Nat → ByteArray} {u : Value} (h : StrRow w (some ⟨b, o, none⟩) n ss) (hr : b ≠ g) : StrRow (w.setCell ⟨g, j, none⟩ u) (some ⟨b, o, none⟩) n ss := fun hn => by
  obtain ⟨b2, o2, hA, hc⟩ := h hn
  simp only [Option.some.injEq, Addr.mk.injEq, and_true] at hA
  obtain ⟨rfl, rfl⟩ := hA
  exact ⟨b, o, rfl, fun i hi => cellG (hc i hi) hr⟩
theorem strT_own {w : World} {base n : Nat} {g cap : Nat} {ss : Nat → ByteArray} (h : w.ownsRow base 9 1 (.slice (some ⟨g, 0, none⟩) n cap) n (strsL ss n)) (hn : 0 < n) : StrT w (some ⟨g, 0, none⟩) n ss := fun _ => by
  obtain ⟨g2, cap2, cur, e, -, hb, -, -, -, hx⟩ := own_blk h hn
  simp only [Value.slice.injEq, Option.some.injEq, Addr.mk.injEq, and_true, true_and] at e
  obtain ⟨rfl, rfl⟩ := e
  exact ⟨g, 0, cur, rfl, hb, fun i hi => by rw [Nat.zero_add, hx i (by omega), strsL_at ss hi]⟩
set_option maxRecDepth 20000 in
set_option maxHeartbeats 4000000 in
theorem l14Own_calls (b o : Nat) (x : MeltV) (w : World) (h : MeltAt w b o x) (h0 : 0 < x.n) (hn : x.n ≤ 1048576) :
    Calls Tryz.prog 134 #[.pointer (some ⟨b, o, none⟩)] w fun e w' => ∃ G c', e = .returned (.agg #[.string x.id, .slice (some ⟨G, 0, none⟩) x.n c', .int .i64 x.ma]) ∧ Below w.heap.size w w' ∧ StrT w' (some ⟨G, 0, none⟩) x.n x.ss := by
  obtain ⟨i0, hi, hz0, hz1, hz2⟩ := info_parts Str_info
  obtain ⟨A, c, c0, c1, c2, c3⟩ := h
  obtain ⟨b2, o2, rfl, hrow⟩ := c3 h0
  have hal := (Below.refl w.heap.size w).alloc (Nat.le_refl _) (.cells #[.string ⟨#[]⟩, .slice none 0 0, .int .i64 0] 74)
  have HB0 := Lib.hid hal
  have HX := Lib.hid (Blk.new w 74 #[.string ⟨#[]⟩, .slice none 0 0, .int .i64 0])
  have hb1 := cell_lt c0
  have hb2 := cell_lt (hrow 0 h0)
  have C0 := Lib.hid (cell_keep hal c0)
  have C1 := Lib.hid (cell_keep hal c1)
  have C2 := Lib.hid (cell_keep hal c2)
  have HR := Lib.hid (show StrRow (w.alloc (.cells #[.string ⟨#[]⟩, .slice none 0 0, .int .i64 0] 74)) (some ⟨b2, o2, none⟩) x.n x.ss from fun _ => ⟨b2, o2, rfl, fun i hi => cell_keep hal (hrow i hi)⟩)
  clear c0 c1 c2 c3 hrow hal
  go_enter Tryz.func134, Tryz.ntmps134
  go_wp2_with fail
  refine wp_gen (fun W0 hW0 => ?_)
  have s0_ : Below w.heap.size w W0 := by rw [hW0]; exact HB0.out
  have s1_ : W0.cell? ⟨b, o, none⟩ = some (.string x.id) := by rw [hW0]; exact C0.out
  have s2_ : W0.cell? ⟨b, o + 1, none⟩ = some (.slice (some ⟨b2, o2, none⟩) x.n c) := by rw [hW0]; exact C1.out
  have s3_ : W0.cell? ⟨b, o + 2, none⟩ = some (.int .i64 x.ma) := by rw [hW0]; exact C2.out
  have s4_ : StrRow W0 (some ⟨b2, o2, none⟩) x.n x.ss := by rw [hW0]; exact HR.out
  have s5_ : w.heap.size < W0.heap.size := by rw [hW0]; simp
  have HX0 : Hid (Blk W0 w.heap.size 74 #[.string ⟨#[]⟩, .slice none 0 0, .int .i64 0]) := Lib.hid (by rw [hW0]; exact HX.out)
  clear hW0
  refine wp_region_held_drew (S := fun w' => Below w.heap.size w w' ∧ w'.cell? ⟨b, o, none⟩ = some (.string x.id) ∧ w'.cell? ⟨b, o + 1, none⟩ = some (.slice (some ⟨b2, o2, none⟩) x.n c) ∧ w'.cell? ⟨b, o + 2, none⟩ = some (.int .i64 x.ma) ∧ StrRow w' (some ⟨b2, o2, none⟩) x.n x.ss ∧ w.heap.size < w'.heap.size) (by kernel_rfl) ?_ (fun hHeld => ?_)
  · exact ⟨s0_.drew, s1_, s2_, s3_, s4_, s5_⟩
  clear s0_ s1_ s2_ s3_ s4_ s5_
  refine take_yes (i := 0) (d := 3) (v := ?_) _ rfl rfl (by kernel_rfl) (by kernel_rfl) (by kernel_rfl) (fun _ _ _ _ h => h) (by rfl) ?_ (by assumption) ?_
  rotate_left 1
  · ((intro w hSw; (try dsimp only at hSw); go_simp) <;> (try with_reducible rfl))
  (try simp only [Act.put, List.setIfInBounds_toArray, List.set_cons_zero, List.set_cons_succ])
  refine take_yes (i := 1) (d := 4) (v := ?_) _ rfl rfl (by kernel_rfl) (by kernel_rfl) (by kernel_rfl) (fun _ _ _ _ h => h) (by rfl) ?_ (by assumption) ?_
  rotate_left 1
  · ((intro w hSw; (try dsimp only at hSw); go_simp) <;> (try with_reducible rfl))
  (try simp only [Act.put, List.setIfInBounds_toArray, List.set_cons_zero, List.set_cons_succ])
  refine take_yes (i := 2) (d := 5) (v := ?_) _ rfl rfl (by kernel_rfl) (by kernel_rfl) (by kernel_rfl) (fun _ _ _ _ h => h) (by rfl) ?_ (by assumption) ?_
  rotate_left 1
  · ((intro w hSw; (try dsimp only at hSw); go_simp) <;> (try with_reducible rfl))
  (try simp only [Act.put, List.setIfInBounds_toArray, List.set_cons_zero, List.set_cons_succ])
  refine take_yes (i := 3) (d := 6) (v := ?_) _ rfl rfl (by kernel_rfl) (by kernel_rfl) (by kernel_rfl) (fun _ _ _ _ h => h) (by rfl) ?_ (by assumption) ?_
  rotate_left 1
  · ((intro w hSw; (try dsimp only at hSw); go_simp) <;> (try with_reducible rfl))
  (try simp only [Act.put, List.setIfInBounds_toArray, List.set_cons_zero, List.set_cons_succ])
  refine take_yes (i := 5) (d := 8) (v := ?_) _ rfl rfl (by kernel_rfl) (by kernel_rfl) (by kernel_rfl) (fun _ _ _ _ h => h) (by rfl) ?_ (by assumption) ?_
  rotate_left 1
  · ((intro w hSw; (try dsimp only at hSw); go_simp) <;> (try with_reducible rfl))
  (try simp only [Act.put, List.setIfInBounds_toArray, List.set_cons_zero, List.set_cons_succ])
  refine take_yes (i := 6) (d := 9) (v := ?_) _ rfl rfl (by kernel_rfl) (by kernel_rfl) (by kernel_rfl) (fun _ _ _ _ h => h) (by rfl) ?_ (by assumption) ?_
  rotate_left 1
  · ((intro w hSw; (try dsimp only at hSw); go_simp) <;> (try with_reducible rfl))
  (try simp only [Act.put, List.setIfInBounds_toArray, List.set_cons_zero, List.set_cons_succ])
  refine take_yes (i := 7) (d := 10) (v := ?_) _ rfl rfl (by kernel_rfl) (by kernel_rfl) (by kernel_rfl) (fun _ _ _ _ h => h) (by rfl) ?_ (by assumption) ?_
  rotate_left 1
  · ((intro w hSw; (try dsimp only at hSw); go_simp) <;> (try with_reducible rfl))
  (try simp only [Act.put, List.setIfInBounds_toArray, List.set_cons_zero, List.set_cons_succ])
  refine take_yes (i := 8) (d := 11) (v := ?_) _ rfl rfl (by kernel_rfl) (by kernel_rfl) (by kernel_rfl) (fun _ _ _ _ h => h) (by rfl) ?_ (by assumption) ?_
  rotate_left 1
  · ((intro w hSw; (try dsimp only at hSw); go_simp) <;> (try with_reducible rfl))
  (try simp only [Act.put, List.setIfInBounds_toArray, List.set_cons_zero, List.set_cons_succ])
  refine take_yes (i := 10) (d := 13) (v := ?_) _ rfl rfl (by kernel_rfl) (by kernel_rfl) (by kernel_rfl) (fun _ _ _ _ h => h) (by rfl) ?_ (by assumption) ?_
  rotate_left 1
  · ((intro w hSw; (try dsimp only at hSw); go_simp) <;> (try with_reducible rfl))
  (try simp only [Act.put, List.setIfInBounds_toArray, List.set_cons_zero, List.set_cons_succ])
  refine take_yes (i := 11) (d := 14) (v := ?_) _ rfl rfl (by kernel_rfl) (by kernel_rfl) (by kernel_rfl) (fun _ _ _ _ h => h) (by rfl) ?_ (by assumption) ?_
  rotate_left 1
  · ((intro w hSw; (try dsimp only at hSw); go_simp) <;> (try with_reducible rfl))
  (try simp only [Act.put, List.setIfInBounds_toArray, List.set_cons_zero, List.set_cons_succ])
  refine take_yes (i := 12) (d := 15) (v := ?_) _ rfl rfl (by kernel_rfl) (by kernel_rfl) (by kernel_rfl) (fun _ _ _ _ h => h) (by rfl) ?_ (by assumption) ?_
  rotate_left 1
  · ((intro w hSw; (try dsimp only at hSw); go_simp) <;> (try with_reducible rfl))
  (try simp only [Act.put, List.setIfInBounds_toArray, List.set_cons_zero, List.set_cons_succ])
  refine take_yes (i := 13) (d := 16) (v := ?_) _ rfl rfl (by kernel_rfl) (by kernel_rfl) (by kernel_rfl) (fun _ _ _ _ h => h) (by rfl) ?_ (by assumption) ?_
  rotate_left 1
  · ((intro w hSw; (try dsimp only at hSw); go_simp) <;> (try with_reducible rfl))
  (try simp only [Act.put, List.setIfInBounds_toArray, List.set_cons_zero, List.set_cons_succ])
  (refine wpAnyH_ready (rs := [4]) (by kernel_rfl) (by simp) ?_; refine AllReadyH.cons rfl (fun K hK => ?_) AllReadyH.nil; go_simp; refine hK.out _ _ (by obtain ⟨x0_, x1_, x2_, x3_, x4_, x5_⟩ := hHeld; exact ⟨x0_.trans (((Below.refl _ _).alloc (Nat.le_refl _) _).mono x0_.size), cell_keep ((Below.refl _ _).alloc (Nat.le_refl _) _) x1_, cell_keep ((Below.refl _ _).alloc (Nat.le_refl _) _) x2_, cell_keep ((Below.refl _ _).alloc (Nat.le_refl _) _) x3_, x4_.keep ((Below.refl _ _).alloc (Nat.le_refl _) _), Nat.lt_of_lt_of_le x5_ ((Below.refl _ _).alloc (Nat.le_refl _) _).size⟩) (fun hHeld2 => ?_); clear hK K; have hOld := hHeld; clear hHeld; have hHeld := hHeld2; clear hHeld2; have HL := Lib.hid (own_drew (World.ownsRow_lit (base := W0.heap.size) (e := 9) (size := 1) W0 #[] 0 (Nat.le_refl _) (by unfold maxLen; omega) rfl)); have HLT := Lib.hid HL.out.lt; have hz0' : w.heap.size < W0.heap.size := And.right (And.right (And.right (And.right (And.right hOld)))); have HX1 := Lib.hid ((HX0.out.alloc (.cells #[] 9)).drew); (try simp only [Act.put, List.setIfInBounds_toArray, List.set_cons_zero, List.set_cons_succ]))
  (refine wpAnyH_ready (rs := [9]) (by kernel_rfl) (by simp) ?_; refine AllReadyH.cons rfl (fun K hK => ?_) AllReadyH.nil; refine step_append_own _ rfl (.tmp 7) (.tmp 11) _ rfl W0.heap.size 9 i0 (.string ⟨#[]⟩) 1 16 Tryz.underlying59 hi hz0 hz1 hz2 rfl (by decide) _ _ _ rfl HL.out ⟨b2, o2, none⟩ x.n c (strsL x.ss x.n) rfl (by rw [strsL_len]; omega) (row_news (And.left (And.right (And.right (And.right (And.right hHeld)))))) (strs_one _ _) (by unfold maxLen; omega) (by omega) (by simp) ?_; intro v_ wa_ hown_ hgrow_ hat_; rw [Nat.zero_add, List.nil_append] at hown_; obtain ⟨g_, cap_, cur_, rfl, hge_, -⟩ := own_blk hown_ h0; have HST := Lib.hid (strT_own hown_ h0); have HX2 := Lib.hid (HX1.out.grow hgrow_ (fun e => absurd (HLT.out _ e).1 (by omega))); have hne_ : g_ ≠ w.heap.size := (by omega); clear hown_ hat_ hge_ HL HX0 HX1; refine hK.out _ _ (by obtain ⟨x0_, x1_, x2_, x3_, x4_, x5_⟩ := hHeld; exact ⟨x0_.grown hgrow_ x0_.size (fun k hk => by have := (HLT.out k hk).1; omega), hgrow_.cell x1_ (fun e => absurd (HLT.out _ e.symm).1 (by (try dsimp only); omega)), hgrow_.cell x2_ (fun e => absurd (HLT.out _ e.symm).1 (by (try dsimp only); omega)), hgrow_.cell x3_ (fun e => absurd (HLT.out _ e.symm).1 (by (try dsimp only); omega)), x4_.grow hgrow_ (fun e => absurd (HLT.out _ e).1 (by omega)), Nat.lt_of_lt_of_le x5_ hgrow_.size⟩) (fun hHeld2 => ?_); clear hK K hHeld; (try clear hOld); have hHeld := hHeld2; clear hHeld2; (try simp only [Act.put, List.setIfInBounds_toArray, List.set_cons_zero, List.set_cons_succ]))
  refine take_yes (i := 14) (d := 17) (v := ?_) _ rfl rfl (by kernel_rfl) (by kernel_rfl) (by kernel_rfl) (fun _ _ _ _ h => h) (by rfl) ?_ (by assumption) ?_
  rotate_left 1
  · ((intro w hSw; (try dsimp only at hSw); go_simp) <;> (try with_reducible rfl))
  (try simp only [Act.put, List.setIfInBounds_toArray, List.set_cons_zero, List.set_cons_succ])
  (refine wpAnyH_ready (rs := [15]) (by kernel_rfl) (by simp) ?_; refine AllReadyH.cons rfl (fun K hK => ?_) AllReadyH.nil; obtain ⟨x0_, x1_, x2_, x3_, x4_, x5_⟩ := hHeld; clear hgrow_ HLT; have f2 := HX2.out.frozen; have r0 := (HX2.out.cell 0).trans rfl; have r1 := (HX2.out.cell 1).trans rfl; have r2 := (HX2.out.cell 2).trans rfl; go_simp; refine hK.out _ _ (by exact ⟨((x0_.setCell (Nat.le_refl _) _).setCell (Nat.le_refl _) _).setCell (Nat.le_refl _) _, cellG (cellG (cellG x1_ (by omega)) (by omega)) (by omega), cellG (cellG (cellG x2_ (by omega)) (by omega)) (by omega), cellG (cellG (cellG x3_ (by omega)) (by omega)) (by omega), StrRow.far (StrRow.far (StrRow.far x4_ (by omega)) (by omega)) (by omega), by simpa using x5_⟩) (fun hHeld2 => ?_); clear hK K x0_ x1_ x2_ x3_ x4_ x5_; (try clear hOld); have hHeld := hHeld2; clear hHeld2; (try simp only [Act.put, List.setIfInBounds_toArray, List.set_cons_zero, List.set_cons_succ]))
  refine wpAnyH_done (by kernel_rfl) ?_ _
  obtain ⟨z0, z1, z2, z3, z4, z5⟩ := hHeld
  have HX3 := Lib.hid (((HX2.out.set_ 0 (.string x.id)).set_ 1 (.slice (some ⟨g_, 0, none⟩) x.n cap_)).set_ 2 (.int .i64 x.ma))
  have HS3 := Lib.hid (((HST.out.fix (Fix.set_ HX2.out 0 (.string x.id)) (show NotT 74 9 by unfold NotT; decide)).fix (Fix.set_ (HX2.out.set_ 0 (.string x.id)) 1 (.slice (some ⟨g_, 0, none⟩) x.n cap_)) (show NotT 74 9 by unfold NotT; decide)).fix (Fix.set_ ((HX2.out.set_ 0 (.string x.id)).set_ 1 (.slice (some ⟨g_, 0, none⟩) x.n cap_)) 2 (.int .i64 x.ma)) (show NotT 74 9 by unfold NotT; decide))
  have y0 := (HX3.out.cell 0).trans rfl
  have y1 := (HX3.out.cell 1).trans rfl
  have y2 := (HX3.out.cell 2).trans rfl
  clear HX2 HST
  go_wp2
  refine bodyPost_ret (v := .agg #[.string x.id, .slice (some ⟨g_, 0, none⟩) x.n cap_, .int .i64 x.ma]) (by simp [results, Tryz.results134, go_sem, y0, y1, y2]) rfl ⟨g_, cap_, rfl, z0, HS3.out⟩
end Go.Proofs.YticnpibkpfpojaaGreatDoor

/- The codes for ingots and melts (the reference's): for all arguments. -/
namespace Go.Proofs.YticnpibkpfpojaaGreatDoor
set_option linter.unusedVariables false
open Go.RowKit

set_option maxRecDepth 20000 in
set_option maxHeartbeats 4000000 in
theorem l14All_calls (A : Option Addr) (n c : Nat) (s0 : Nat → ByteArray) (a1 a2 a3 a4 : Nat → Int) (B : Option Addr) (m d : Nat) (g : Nat → MeltV) (w : World) (h : IngotRow w A n s0 a1 a2 a3 a4) (hsz : ∀ i, i < n → (s0 i).size ≤ maxLen) (hn : n ≤ 1048576) (h2 : MeltRow w B m g) (hm : m ≤ 1048576) (hg : ∀ i, i < m → FineM (g i)) :
    Calls Tryz.prog 129 #[.slice A n c, .slice B m d] w fun e w' => ∃ o : Int, e = .returned (.int .i64 o) ∧ (o = 0 ∨ o = 1 ∨ o = 3) ∧ (o ≠ 1 → okIngs s0 a1 a2 a3 a4 n = true ∧ okMelts g m = true) ∧ Below w.heap.size w w' := by
  have hn2 : n ≤ maxLen := by unfold maxLen; omega
  have KK := Lib.hid (Below.refl w.heap.size w)
  have H := Lib.hid h
  have HZ := Lib.hid hsz
  have HM := Lib.hid h2
  have HG := Lib.hid hg
  clear h hsz h2 hg
  cases q1 : okIngs s0 a1 a2 a3 a4 n
  · go_enter Tryz.func129, Tryz.ntmps129
    go_wp2_with (go_at_call 152; refine (spec_l13Ok_calls A n c s0 a1 a2 a3 a4 _ (H.out.below KK.out (Nat.le_refl _)) HZ.out hn2).mono ?_; rw [show (allB (goodAt (fun i => ingB (s0 i) (a1 i) (a2 i) (a3 i) (a4 i)) s0) n && decide ((n : Int) ≤ 16)) = _ from q1]; rintro e w2 ⟨rfl, hb⟩; have K2 := Lib.hid (KK.out.trans (hb.mono KK.out.size)); clear KK hb; have KK := K2; clear K2)
    go_ret
    exact ⟨1, rfl, .inr (.inl rfl), fun h => absurd rfl h, KK.out⟩
  · cases q2 : okMelts g m
    · go_enter Tryz.func129, Tryz.ntmps129
      go_wp2_with (first | (go_at_call 152; refine (spec_l13Ok_calls A n c s0 a1 a2 a3 a4 _ (H.out.below KK.out (Nat.le_refl _)) HZ.out hn2).mono ?_; rw [show (allB (goodAt (fun i => ingB (s0 i) (a1 i) (a2 i) (a3 i) (a4 i)) s0) n && decide ((n : Int) ≤ 16)) = _ from q1]; rintro e w2 ⟨rfl, hb⟩; have K2 := Lib.hid (KK.out.trans (hb.mono KK.out.size)); clear KK hb; have KK := K2; clear K2) | (go_at_call 136; refine (l14Ok_calls B m d g _ (HM.out.keep KK.out) HG.out hm).mono ?_; rw [q2]; rintro e w3 ⟨rfl, nd, rfl⟩; have K2 := Lib.hid (below_drewN KK.out nd); clear KK; have KK := K2; clear K2))
      go_ret
      exact ⟨1, rfl, .inr (.inl rfl), fun h => absurd rfl h, KK.out⟩
    · have HS := Lib.hid (okIngs_srt q1)
      have HQ := Lib.hid (okM_q q2)
      go_enter Tryz.func129, Tryz.ntmps129
      go_wp2_with (first | (go_at_call 152; refine (spec_l13Ok_calls A n c s0 a1 a2 a3 a4 _ (H.out.below KK.out (Nat.le_refl _)) HZ.out hn2).mono ?_; rw [show (allB (goodAt (fun i => ingB (s0 i) (a1 i) (a2 i) (a3 i) (a4 i)) s0) n && decide ((n : Int) ≤ 16)) = _ from q1]; rintro e w2 ⟨rfl, hb⟩; have K2 := Lib.hid (KK.out.trans (hb.mono KK.out.size)); clear KK hb; have KK := K2; clear K2) | (go_at_call 136; refine (l14Ok_calls B m d g _ (HM.out.keep KK.out) HG.out hm).mono ?_; rw [q2]; rintro e w3 ⟨rfl, nd, rfl⟩; have K2 := Lib.hid (below_drewN KK.out nd); clear KK; have KK := K2; clear K2))
      go_loopw [5] (fun i wr => ∃ k : Nat, k ≤ m ∧ i = .int .i64 k ∧ Below w.heap.size w wr) (fun i _ => m - (intOf i).toNat)
      case atStart => exact ⟨0, by omega, rfl, KK.out⟩
      case round =>
        obtain ⟨k, hk, rfl, hbr⟩ := hrel
        by_cases hlt : k < m
        · obtain ⟨b, o, rfl, hrow⟩ := HM.out (by omega)
          have hat := (hrow k hlt).keep hbr
          have hqk := HQ.out k hlt
          have HC := Lib.hid (sChosen_calls A n c s0 a1 a2 a3 a4 b (o + k * 3) (g k) wr (H.out.below hbr (Nat.le_refl _)) hn HS.out hat (by omega))
          clear hrow hat
          cases q3 : allHave s0 n (g k).ss (g k).n
          · go_wp2_with fail
            go_at_call 153
            with_reducible refine HC.out.mono ?_
            rintro e w1 ⟨v, rfl, -, hb1⟩
            rw [q3]
            have HB1 := Lib.hid (hbr.trans (hb1.mono hbr.size))
            clear hb1 hbr
            go_wp2
            go_ret
            exact ⟨3, rfl, .inr (.inr rfl), by first | trivial | (intro _; first | trivial | exact ⟨q1, q2⟩ | exact ⟨rfl, rfl⟩), HB1.out⟩
          · go_wp2_with fail
            go_at_call 153
            with_reducible refine HC.out.mono ?_
            rintro e w1 ⟨v, rfl, -, hb1⟩
            rw [q3]
            have HB1 := Lib.hid (hbr.trans (hb1.mono hbr.size))
            clear hb1 hbr
            go_wp2
            go_roundw
            case rel => exact ⟨k + 1, by omega, by go_num, HB1.out⟩
            case measure => simp [intOf]; omega
        · obtain rfl : k = m := by omega
          go_wp2
          go_ret
          exact ⟨0, rfl, .inl rfl, by first | trivial | (intro _; first | trivial | exact ⟨q1, q2⟩ | exact ⟨rfl, rfl⟩), hbr⟩
theorem sAsk_calls (A : Option Addr) (n c : Nat) (s0 : Nat → ByteArray) (a1 a2 a3 a4 : Nat → Int) (b o : Nat) (x : MeltV) (w : World) (h : IngotRow w A n s0 a1 a2 a3 a4) (hsz : ∀ i, i < n → (s0 i).size ≤ maxLen) (hn : n ≤ 1048576) (hok : okIngs s0 a1 a2 a3 a4 n = true) (h2 : MeltAt w b o x) (hx : meltV x = true) (hf : FineM x) :
    Calls Tryz.prog 131 #[.slice A n c, .pointer (some ⟨b, o, none⟩)] w fun e w' => e = .returned (.int .i64 (if allHave s0 n x.ss x.n = true then 0 else 3)) ∧ Below w.heap.size w w' := by
  have hn2 : n ≤ maxLen := by unfold maxLen; omega
  have H := Lib.hid h
  have H2 := Lib.hid h2
  have HF := Lib.hid hf
  have HS := Lib.hid (okIngs_srt hok)
  have HC1 := Lib.hid (spec_l13Ok_calls A n c s0 a1 a2 a3 a4 _ h hsz hn2)
  rw [show (allB (goodAt (fun i => ingB (s0 i) (a1 i) (a2 i) (a3 i) (a4 i)) s0) n && decide ((n : Int) ≤ 16)) = true from hok] at HC1
  have hq16 := (meltV_n hx).2
  clear h hsz hok h2 hf
  generalize hR : (if allHave s0 n x.ss x.n = true then (0 : Int) else 3) = R
  cases q1 : allHave s0 n x.ss x.n
  all_goals
    rw [q1] at hR
    simp at hR
    subst hR
    go_enter Tryz.func131, Tryz.ntmps131
    go_wp2_with fail
    go_at_call 152
    with_reducible refine HC1.out.mono ?_
    rintro e w1 ⟨rfl, hb1⟩
    have HAT := Lib.hid (H2.out.keep hb1)
    have HB1 := Lib.hid hb1
    clear hb1
    go_wp2_with fail
    go_at_call 130
    refine (l14One_calls _ _ x _ HAT.out HF.out).mono ?_
    rw [hx]
    rintro e w2 ⟨rfl, nd, rfl⟩
    have HAT2 := Lib.hid (show MeltAt (w1.drewN nd) b o x from HAT.out)
    have HB2 := Lib.hid (below_drewN HB1.out nd)
    clear HAT HB1
    generalize w1.drewN nd = w2 at *
    go_wp2_with fail
    go_at_call 153
    refine (sChosen_calls A n c s0 a1 a2 a3 a4 b o x w2 (H.out.below HB2.out (Nat.le_refl _)) hn HS.out HAT2.out (by omega)).mono ?_
    rintro e w3 ⟨v, rfl, -, hb3⟩
    rw [q1]
    have HB3 := Lib.hid (HB2.out.trans (hb3.mono HB2.out.size))
    clear hb3
    go_wp2
    go_ret
    exact ⟨rfl, HB3.out⟩
end Go.Proofs.YticnpibkpfpojaaGreatDoor

/- A melt added to a list, in the reference: what it leaves, for all arguments. -/
namespace Go.Proofs.YticnpibkpfpojaaGreatDoor
set_option linter.unusedVariables false
set_option linter.unusedSimpArgs false
open Go.RowKit

/-- a row that lies at or behind lo -/
def Loc (lo : Nat) (A : Option Addr) : Prop := ∀ g o, A = some ⟨g, o, none⟩ → lo ≤ g
theorem Loc.lower {lo lo2 : Nat} {A : Option Addr} (h : Loc lo A) (hl : lo2 ≤ lo) : Loc lo2 A := fun g o e => Nat.le_trans hl (h g o e)
theorem own_loc {w : World} {base e size n c : Nat} {A : Option Addr} {xs : List Value} (h : w.ownsRow base e size (.slice A n c) n xs) : Loc base A := fun g o e => by
  subst e
  rcases h.2 with ⟨q, -⟩ | ⟨g2, cap, cur, q, hb, -⟩
  · simp at q
  · simp only [Value.slice.injEq, Option.some.injEq, Addr.mk.injEq, true_and] at q
    omega
/-- what the call returns: a code, or a longer list -/
def AddMOut (m : Nat) (w : World) (e : Ending) (w' : World) : Prop :=
  (∃ o : Int, o ≠ 0 ∧ e = .returned (.tuple #[.slice none 0 0, .int .i64 o]) ∧ Below w.heap.size w w') ∨
  (m < 12 ∧ ∃ A c F, e = .returned (.tuple #[.slice A (m + 1) c, .int .i64 0]) ∧ m + 1 ≤ c ∧ MeltT w' A (m + 1) F ∧ (∀ j, j < m + 1 → FineM (F j)) ∧ Below w.heap.size w w' ∧ Loc w.heap.size A)
theorem meltAt_blk {w : World} {G : Nat} {x : MeltV} {C : Option Addr} {e2 : Nat} (h : Blk w G 74 #[.string x.id, .slice C x.n e2, .int .i64 x.ma]) (h3 : StrRow w C x.n x.ss) : MeltAt w G 0 x := ⟨C, e2, (h.cell 0).trans rfl, (h.cell 1).trans rfl, (h.cell 2).trans rfl, h3⟩
theorem gt_lessM (a b : ByteArray) : (!Op.bytesLess a.toList b.toList && !(a.toList == b.toList)) = Op.bytesLess b.toList a.toList := by
  have h := ltS_total a b
  unfold ltS eqS at h
  rw [← Bool.not_or, h]
  simp
set_option maxRecDepth 20000 in
set_option maxHeartbeats 8000000 in
theorem AddMelt_calls (A : Option Addr) (n c : Nat) (s0 : Nat → ByteArray) (a1 a2 a3 a4 : Nat → Int) (B : Option Addr) (m d : Nat) (g : Nat → MeltV) (x : MeltV) (C : Option Addr) (e2 : Nat) (w : World) (h : IngotRow w A n s0 a1 a2 a3 a4) (hsz : ∀ i, i < n → (s0 i).size ≤ maxLen) (hn : n ≤ 1048576) (h2 : MeltRow w B m g) (hm : m ≤ 1048576) (hg : ∀ i, i < m → FineM (g i)) (h3 : StrRow w C x.n x.ss) (hx : FineM x) :
    Calls Tryz.prog 98 #[.slice A n c, .slice B m d, .agg #[.string x.id, .slice C x.n e2, .int .i64 x.ma]] w (AddMOut m w) := by
  obtain ⟨i0, hi, hz0, hz1, hz2⟩ := info_parts Melt_info
  have hal := (Below.refl w.heap.size w).alloc (Nat.le_refl _) (.cells #[.string x.id, .slice C x.n e2, .int .i64 x.ma] 74)
  have HX := Lib.hid (Blk.new w 74 #[.string x.id, .slice C x.n e2, .int .i64 x.ma])
  have HB0 := Lib.hid hal
  have H := Lib.hid h
  have HM := Lib.hid h2
  have HS := Lib.hid h3
  have HG := Lib.hid hg
  have HFX := Lib.hid hx
  have HZ := Lib.hid hsz
  have HA := Lib.hid (l14All_calls A n c s0 a1 a2 a3 a4 B m d g _ (h.below hal (Nat.le_refl _)) hsz hn (h2.keep hal) hm hg)
  clear h h2 h3 hg hx hsz hal
  go_enter Tryz.func98, Tryz.ntmps98
  go_wp2_with fail
  have hWs : w.heap.size < (w.alloc (.cells #[.string x.id, .slice C x.n e2, .int .i64 x.ma] 74)).heap.size := by simp
  generalize w.alloc (.cells #[.string x.id, .slice C x.n e2, .int .i64 x.ma] 74) = W1 at *
  go_at_call 129
  with_reducible refine HA.out.mono ?_
  rintro e w1 ⟨o, rfl, ho, hok, hb1⟩
  have HB1 := Lib.hid (HB0.out.trans (hb1.mono HB0.out.size))
  have HX1 := Lib.hid (HX.out.keep hb1)
  clear HA hb1 HX HB0
  by_cases z1 : o = 1
  · subst z1
    go_wp2
    refine bodyPost_ret (v := .tuple #[.slice none 0 0, .int .i64 1]) (by simp [results, Tryz.results98, go_sem]) rfl ?_
    exact .inl ⟨1, by decide, rfl, HB1.out⟩
  · obtain ⟨hoi, hom⟩ := hok z1
    have HOI := Lib.hid hoi
    have HOM := Lib.hid hom
    clear hok hoi hom
    have HS1 := Lib.hid (HS.out.keep HB1.out)
    cases q3 : meltV x
    · rcases ho with rfl | rfl | rfl
      all_goals (try omega)
      all_goals
        go_wp2_with fail
        go_at_call 130
        refine (l14One_calls w.heap.size 0 x w1 (meltAt_blk HX1.out HS1.out) HFX.out).mono ?_
        rw [q3]
        rintro e w2 ⟨rfl, nd, rfl⟩
        go_wp2
        refine bodyPost_ret (v := .tuple #[.slice none 0 0, .int .i64 1]) (by simp [results, Tryz.results98, go_sem]) rfl ?_
        exact .inl ⟨1, by decide, rfl, (below_drewN HB1.out nd)⟩
    · rcases ho with rfl | rfl | rfl
      · go_wp2_with fail
        go_at_call 130
        refine (l14One_calls w.heap.size 0 x w1 (meltAt_blk HX1.out HS1.out) HFX.out).mono ?_
        rw [q3]
        rintro e w2 ⟨rfl, nd, rfl⟩
        have HB2 := Lib.hid (below_drewN HB1.out nd)
        have HX2 := Lib.hid (HX1.out.drewN nd)
        have HS2 := Lib.hid (HS1.out.drewN nd)
        clear HB1 HX1 HS1
        generalize w1.drewN nd = w2 at *
        go_wp2_with fail
        go_at_call 131
        refine (sAsk_calls A n c s0 a1 a2 a3 a4 w.heap.size 0 x _ (H.out.below HB2.out (Nat.le_refl _)) HZ.out hn HOI.out (meltAt_blk HX2.out (HS2.out)) q3 HFX.out).mono ?_
        rintro e w3 ⟨rfl, hb3⟩
        have HB3 := Lib.hid (HB2.out.trans (hb3.mono HB2.out.size))
        have HX3 := Lib.hid (HX2.out.keep hb3)
        have HS3 := Lib.hid (HS2.out.keep hb3)
        clear hb3 HB2 HX2 HS2
        cases q4 : allHave s0 n x.ss x.n
        · rw [if_neg (by decide)]
          go_wp2
          refine bodyPost_ret (v := .tuple #[.slice none 0 0, .int .i64 3]) (by simp [results, Tryz.results98, go_sem]) rfl ?_
          exact .inl ⟨3, by decide, rfl, HB3.out⟩
        · rw [if_pos rfl]
          have hx16 := meltV_n q3
          obtain ⟨T, hT⟩ : ∃ T, T = mostV s0 n a1 x.ss x.n := ⟨_, rfl⟩
          have HMO := Lib.hid (fun (W : World) (hb1 : Below w.heap.size w W) (hb2 : MeltAt W w.heap.size 0 x) => sMost_calls A n c s0 a1 a2 a3 a4 w.heap.size 0 x W (H.out.below hb1 (Nat.le_refl _)) hn (okIngs_srt HOI.out) hb2 hx16.2 q4 (okIngs_bd HOI.out).1)
          rw [← hT] at HMO
          clear hT
          have c2 := (HX3.out.cell 2).trans rfl
          have NF := Lib.hid (show ∀ i, i < m → 0 < (g i).n ∧ (g i).n ≤ 1048576 from fun i hi => by have := meltV_n (okM_val HOM.out hi); omega)
          have hm12 := okM_few HOM.out
          by_cases z4 : T < x.ma
          · go_wp2_with fail
            refine wp_gen (fun W0 hW0 => ?_)
            have s0_ : Below w.heap.size w W0 := by rw [hW0]; exact HB3.out
            have s1_ : W0.cell? ⟨w.heap.size, 2, none⟩ = some (.int .i64 x.ma) := by rw [hW0]; exact c2
            have s2_ : Blk W0 w.heap.size 74 #[.string x.id, .slice C x.n e2, .int .i64 x.ma] := by rw [hW0]; exact HX3.out
            have s3_ : StrRow W0 C x.n x.ss := by rw [hW0]; exact HS3.out
            clear hW0
            refine wp_region_held_drew (S := fun w' => Below w.heap.size w w' ∧ w'.cell? ⟨w.heap.size, 2, none⟩ = some (.int .i64 x.ma) ∧ Blk w' w.heap.size 74 #[.string x.id, .slice C x.n e2, .int .i64 x.ma] ∧ StrRow w' C x.n x.ss) (by kernel_rfl) ?_ (fun hHeld => ?_)
            · exact ⟨s0_.drew, s1_, s2_, s3_⟩
            clear s0_ s1_ s2_ s3_
            refine take_yes (i := 0) (d := 32) (v := ?_) _ rfl rfl (by kernel_rfl) (by kernel_rfl) (by kernel_rfl) (fun _ _ _ _ h => h) (by rfl) ?_ (by assumption) ?_
            rotate_left 1
            · ((intro w hSw; (try dsimp only at hSw); go_simp) <;> (try with_reducible rfl))
            (try simp only [Act.put, List.setIfInBounds_toArray, List.set_cons_zero, List.set_cons_succ])
            refine take_yes (i := 1) (d := 33) (v := ?_) _ rfl rfl (by kernel_rfl) (by kernel_rfl) (by kernel_rfl) (fun _ _ _ _ h => h) (by rfl) ?_ (by assumption) ?_
            rotate_left 1
            · ((intro w hSw; (try dsimp only at hSw); go_simp) <;> (try with_reducible rfl))
            (try simp only [Act.put, List.setIfInBounds_toArray, List.set_cons_zero, List.set_cons_succ])
            refine take_yes (i := 2) (d := 34) (v := ?_) _ rfl rfl (by kernel_rfl) (by kernel_rfl) (by kernel_rfl) (fun _ _ _ _ h => h) (by rfl) ?_ (by assumption) ?_
            rotate_left 1
            · ((intro w hSw; (try dsimp only at hSw); go_simp) <;> (try with_reducible rfl))
            (try simp only [Act.put, List.setIfInBounds_toArray, List.set_cons_zero, List.set_cons_succ])
            (refine wpAnyH_ready (rs := [3]) (by kernel_rfl) (by simp) ?_; refine AllReadyH.cons rfl (fun K hK => ?_) AllReadyH.nil; go_simp; go_at_call 132; refine (HMO.out _ (And.left hHeld) (meltAt_blk (And.left (And.right (And.right hHeld))) (And.right (And.right (And.right hHeld))))).mono ?_; rintro e wd ⟨rfl, hb⟩; refine hK.out _ _ (by obtain ⟨x0_, x1_, x2_, x3_⟩ := hHeld; exact ⟨x0_.trans (hb.mono x0_.size), cell_keep hb x1_, x2_.keep hb, x3_.keep hb⟩) (fun hHeld2 => ?_); clear hK K hHeld hb; have hHeld := hHeld2; clear hHeld2; (try simp only [Act.put, List.setIfInBounds_toArray, List.set_cons_zero, List.set_cons_succ]))
            refine take_yes (i := 4) (d := 36) (v := ?_) _ rfl rfl (by kernel_rfl) (by kernel_rfl) (by kernel_rfl) (fun _ _ _ _ h => h) (by rfl) ?_ (by assumption) ?_
            rotate_left 1
            · ((intro w hSw; (try dsimp only at hSw); go_simp) <;> (try with_reducible rfl))
            (try simp only [Act.put, List.setIfInBounds_toArray, List.set_cons_zero, List.set_cons_succ])
            refine wpAnyH_done (by kernel_rfl) ?_ _
            obtain ⟨z0, z1, z2, z3⟩ := hHeld
            go_wp2
            refine bodyPost_ret (v := .tuple #[.slice none 0 0, .int .i64 6]) (by simp [results, Tryz.results98, go_sem]) rfl ?_
            exact .inl ⟨6, by decide, rfl, z0⟩
          · go_wp2_with fail
            refine wp_gen (fun W0 hW0 => ?_)
            have s0_ : Below w.heap.size w W0 := by rw [hW0]; exact HB3.out
            have s1_ : W0.cell? ⟨w.heap.size, 2, none⟩ = some (.int .i64 x.ma) := by rw [hW0]; exact c2
            have s2_ : Blk W0 w.heap.size 74 #[.string x.id, .slice C x.n e2, .int .i64 x.ma] := by rw [hW0]; exact HX3.out
            have s3_ : StrRow W0 C x.n x.ss := by rw [hW0]; exact HS3.out
            clear hW0
            refine wp_region_held_drew (S := fun w' => Below w.heap.size w w' ∧ w'.cell? ⟨w.heap.size, 2, none⟩ = some (.int .i64 x.ma) ∧ Blk w' w.heap.size 74 #[.string x.id, .slice C x.n e2, .int .i64 x.ma] ∧ StrRow w' C x.n x.ss) (by kernel_rfl) ?_ (fun hHeld => ?_)
            · exact ⟨s0_.drew, s1_, s2_, s3_⟩
            clear s0_ s1_ s2_ s3_
            refine take_yes (i := 0) (d := 32) (v := ?_) _ rfl rfl (by kernel_rfl) (by kernel_rfl) (by kernel_rfl) (fun _ _ _ _ h => h) (by rfl) ?_ (by assumption) ?_
            rotate_left 1
            · ((intro w hSw; (try dsimp only at hSw); go_simp) <;> (try with_reducible rfl))
            (try simp only [Act.put, List.setIfInBounds_toArray, List.set_cons_zero, List.set_cons_succ])
            refine take_yes (i := 1) (d := 33) (v := ?_) _ rfl rfl (by kernel_rfl) (by kernel_rfl) (by kernel_rfl) (fun _ _ _ _ h => h) (by rfl) ?_ (by assumption) ?_
            rotate_left 1
            · ((intro w hSw; (try dsimp only at hSw); go_simp) <;> (try with_reducible rfl))
            (try simp only [Act.put, List.setIfInBounds_toArray, List.set_cons_zero, List.set_cons_succ])
            refine take_yes (i := 2) (d := 34) (v := ?_) _ rfl rfl (by kernel_rfl) (by kernel_rfl) (by kernel_rfl) (fun _ _ _ _ h => h) (by rfl) ?_ (by assumption) ?_
            rotate_left 1
            · ((intro w hSw; (try dsimp only at hSw); go_simp) <;> (try with_reducible rfl))
            (try simp only [Act.put, List.setIfInBounds_toArray, List.set_cons_zero, List.set_cons_succ])
            (refine wpAnyH_ready (rs := [3]) (by kernel_rfl) (by simp) ?_; refine AllReadyH.cons rfl (fun K hK => ?_) AllReadyH.nil; go_simp; go_at_call 132; refine (HMO.out _ (And.left hHeld) (meltAt_blk (And.left (And.right (And.right hHeld))) (And.right (And.right (And.right hHeld))))).mono ?_; rintro e wd ⟨rfl, hb⟩; refine hK.out _ _ (by obtain ⟨x0_, x1_, x2_, x3_⟩ := hHeld; exact ⟨x0_.trans (hb.mono x0_.size), cell_keep hb x1_, x2_.keep hb, x3_.keep hb⟩) (fun hHeld2 => ?_); clear hK K hHeld hb; have hHeld := hHeld2; clear hHeld2; (try simp only [Act.put, List.setIfInBounds_toArray, List.set_cons_zero, List.set_cons_succ]))
            refine take_yes (i := 4) (d := 36) (v := ?_) _ rfl rfl (by kernel_rfl) (by kernel_rfl) (by kernel_rfl) (fun _ _ _ _ h => h) (by rfl) ?_ (by assumption) ?_
            rotate_left 1
            · ((intro w hSw; (try dsimp only at hSw); go_simp) <;> (try with_reducible rfl))
            (try simp only [Act.put, List.setIfInBounds_toArray, List.set_cons_zero, List.set_cons_succ])
            refine wpAnyH_done (by kernel_rfl) ?_ _
            obtain ⟨z0, z1, z2, z3⟩ := hHeld
            have HB4 := Lib.hid z0
            have HX4 := Lib.hid z2
            have HS4 := Lib.hid z3
            clear z0 z1 z2 z3 c2 HMO HB3 HX3 HS3
            have HM4 := Lib.hid (HM.out.keep HB4.out)
            go_wp2_with fail
            generalize wd = W2 at *
            go_loopw [10] (fun i wr => ∃ k : Nat, k ≤ m ∧ i = .int .i64 k ∧ Below W2.heap.size W2 wr) (fun i _ => m - (intOf i).toNat)
            case atStart => exact ⟨0, by omega, rfl, Below.refl _ _⟩
            case round =>
              obtain ⟨k, hk, rfl, hbr⟩ := hrel
              by_cases hlt : k < m
              · obtain ⟨b, o, rfl, hrow⟩ := HM4.out (by omega)
                obtain ⟨AK, CK, c0, -⟩ := (hrow k hlt).keep hbr
                have x0 := ((HX4.out.keep hbr).cell 0).trans rfl
                clear hrow
                cases q5 : ((g k).id.toList == x.id.toList)
                · go_wp2_with fail
                  go_quiet (fail)
                  go_wp2
                  go_roundw
                  case rel => exact ⟨k + 1, by omega, by go_num, below_drewN hbr _⟩
                  case measure => simp [intOf]; omega
                · go_wp2_with fail
                  go_quiet (fail)
                  go_wp2
                  refine bodyPost_ret (v := .tuple #[.slice none 0 0, .int .i64 4]) (by simp [results, Tryz.results98, go_sem]) rfl ?_
                  exact .inl ⟨4, by decide, rfl, (HB4.out.trans ((below_drewN hbr _).mono HB4.out.size))⟩
              · obtain rfl : k = m := by omega
                have HBL := Lib.hid (HB4.out.trans (hbr.mono HB4.out.size))
                have HXL := Lib.hid (HX4.out.keep hbr)
                have HSL := Lib.hid (HS4.out.keep hbr)
                have HML := Lib.hid (HM4.out.keep hbr)
                clear HB4 HX4 HS4 HM4 hbr
                generalize wr = W2 at *
                go_wp2_with fail
                go_loopw [11] (fun i wr => ∃ j : Nat, j ≤ k ∧ i = .int .i64 j ∧ Below W2.heap.size W2 wr) (fun i _ => k - (intOf i).toNat)
                case atStart => exact ⟨0, by omega, rfl, Below.refl _ _⟩
                case round =>
                  obtain ⟨j, hj, rfl, hbr⟩ := hrel
                  by_cases hlt2 : j < k
                  · obtain ⟨b, o, rfl, hrow⟩ := HML.out (by omega)
                    have HAT := Lib.hid ((hrow j hlt2).keep hbr)
                    have nf := (NF.out j hlt2).2
                    clear hrow
                    cases q6 : commonB (g j) x
                    · go_wp2_with fail
                      go_at_call 133
                      refine (l14Common_calls _ _ w.heap.size 0 (g j) x wr HAT.out (meltAt_blk (HXL.out.keep hbr) (HSL.out.keep hbr)) nf HFX.out.2.2).mono ?_
                      rw [q6]
                      rintro e w5 ⟨rfl, nd, rfl⟩
                      go_wp2
                      go_roundw
                      case rel => exact ⟨j + 1, by omega, by go_num, below_drewN hbr _⟩
                      case measure => simp [intOf]; omega
                    · go_wp2_with fail
                      go_at_call 133
                      refine (l14Common_calls _ _ w.heap.size 0 (g j) x wr HAT.out (meltAt_blk (HXL.out.keep hbr) (HSL.out.keep hbr)) nf HFX.out.2.2).mono ?_
                      rw [q6]
                      rintro e w5 ⟨rfl, nd, rfl⟩
                      go_wp2
                      refine bodyPost_ret (v := .tuple #[.slice none 0 0, .int .i64 7]) (by simp [results, Tryz.results98, go_sem]) rfl ?_
                      exact .inl ⟨7, by decide, rfl, (HBL.out.trans ((below_drewN hbr _).mono HBL.out.size))⟩
                  · obtain rfl : j = k := by omega
                    have HBM := Lib.hid (HBL.out.trans (hbr.mono HBL.out.size))
                    have HXM := Lib.hid (HXL.out.keep hbr)
                    have HSM := Lib.hid (HSL.out.keep hbr)
                    have HMM := Lib.hid (HML.out.keep hbr)
                    clear HBL HXL HSL HML hbr
                    by_cases z12 : (j : Int) = 12
                    · go_wp2
                      refine bodyPost_ret (v := .tuple #[.slice none 0 0, .int .i64 5]) (by simp [results, Tryz.results98, go_sem]) rfl ?_
                      exact .inl ⟨5, by decide, rfl, HBM.out⟩
                    · have hj12 : Hid (j < 12) := Lib.hid (by omega)
                      have hz12 : ((j : Int) == 12) = false := by simp; omega
                      clear z12 hm12
                      have hj13 : j ≤ 1000 := by have := hj12.out; omega
                      generalize wr = W2 at *
                      have HL0 : Hid ((W2.alloc (.cells #[] 74)).ownsRow W2.heap.size 74 3 (.slice (some ⟨W2.heap.size, 0, none⟩) 0 0) 0 []) := Lib.hid (World.ownsRow_lit (base := W2.heap.size) (e := 74) (size := 3) W2 #[] 0 (Nat.le_refl _) (by unfold maxLen; omega) rfl)
                      have HBA := Lib.hid ((Below.refl W2.heap.size W2).alloc (Nat.le_refl _) (.cells #[] 74))
                      clear hj
                      go_wp2
                      go_loopw [12, 13, 14] (fun v dn i wr => ∃ (k : Nat) (D : Bool) (cnt : Nat) (xs : List Value), k ≤ j ∧ i = .int .i64 k ∧ dn = .bool D ∧ Hid (cnt = k + (if D = true then 1 else 0)) ∧ cnt ≤ k + 1 ∧ Hid (wr.ownsRow W2.heap.size 74 3 v cnt xs) ∧ Hid (MeltsP wr xs cnt) ∧ Below W2.heap.size W2 wr) (fun _ _ i _ => j - (intOf i).toNat)
                      case atStart => exact ⟨0, false, 0, [], by omega, rfl, rfl, Lib.hid rfl, by omega, HL0, Lib.hid (MeltsP.nil _), HBA.out⟩
                      case round =>
                        clear HL0 HBA
                        obtain ⟨k, D, cnt, xs, hk, rfl, rfl, hcnt, hcl, hown, hbx, hbr⟩ := hrel
                        by_cases hlt : k < j
                        · obtain ⟨b, o, rfl, hrow⟩ := HMM.out (by omega)
                          have HR := Lib.hid hrow
                          obtain ⟨AK, CK, c0, -⟩ := (hrow k hlt).keep hbr
                          have x0 := ((HXM.out.keep hbr).cell 0).trans rfl
                          have nfk := NF.out k hlt
                          have ffk := Lib.hid (HG.out k hlt)
                          clear hrow
                          go_wp2_with fail
                          go_cut [13, 82] (fun dn s wx => dn = .bool D ∧ (∃ p : Bool, s = .bool p ∧ Hid (D = true → p = false)) ∧ ∃ q, wx = wr.drewN q)
                          case first =>
                            cases D
                            · go_quiet (fail)
                              go_wp2_with fail
                              go_meet
                              exact ⟨rfl, ⟨_, rfl, Lib.hid fun h => by cases h⟩, _, rfl⟩
                            · go_quiet (fail)
                              go_wp2_with fail
                              go_meet
                              exact ⟨rfl, ⟨_, rfl, Lib.hid fun h => rfl⟩, _, rfl⟩
                          case rest =>
                          obtain ⟨rfl, ⟨p, rfl, hp⟩, q, rfl⟩ := hcut
                          clear c0 x0
                          replace hown := Lib.hid (own_keep hown.out (below_drewN (Below.refl _ wr) q))
                          replace hbx := Lib.hid (hbx.out.fix (S := fun _ => True) (Fix.below (below_drewN (Below.refl _ wr) q)) trivial)
                          replace hbr := below_drewN hbr q
                          generalize wr.drewN q = wr at *
                          go_upto_if 82 with (fail)
                          go_cut [12, 13] (fun v2 dn wx => ∃ (D2 : Bool) (cnt2 : Nat) (xs2 : List Value), dn = .bool D2 ∧ Hid (cnt2 = k + (if D2 = true then 1 else 0)) ∧ cnt2 ≤ k + 1 ∧ Hid (wx.ownsRow W2.heap.size 74 3 v2 cnt2 xs2) ∧ Hid (MeltsP wx xs2 cnt2) ∧ Below W2.heap.size W2 wx)
                          case first =>
                            cases p
                            · go_wp2_with fail
                              go_meet
                              exact ⟨D, cnt, xs, rfl, hcnt, hcl, hown, hbx, hbr⟩
                            · have hD : D = false := by
                                cases D
                                · rfl
                                · have := hp.out rfl; cases this
                              subst hD
                              have hck : cnt = k := by have := hcnt.out; simp at this; omega
                              subst hck
                              clear hcnt hp
                              go_wp2_with fail
                              go_at_call 134
                              refine (l14Own_calls w.heap.size 0 x wr (meltAt_blk (HXM.out.keep hbr) (HSM.out.keep hbr)) (by omega) (by omega)).mono ?_
                              rintro e w1 ⟨G, c9, rfl, hb, hso⟩
                              obtain ⟨pu1, pu2, pu3⟩ := pushM (c := c9) hown.out hbx.out hbr hbr.size hb hso HFX.out
                              have PU1 := Lib.hid pu1
                              have PU2 := Lib.hid pu2
                              have PU3 := Lib.hid pu3
                              have hlim2 : W2.heap.size ≤ w1.heap.size := Nat.le_trans hbr.size hb.size
                              clear hb hso pu1 pu2 pu3 hown hbx hbr
                              go_wp2_with (at_builtin; refine wpList_append_own _ rfl _ _ 24 rfl W2.heap.size 74 i0 (.agg #[.string ⟨#[]⟩, .slice none 0 0, .int .i64 0]) 3 48 Tryz.underlying24 hi hz0 hz1 hz2 rfl (by decide) _ _ _ rfl PU1.out ⟨w1.heap.size, 0, none⟩ 1 1 (meltC (x) (.slice (some ⟨G, 0, none⟩) (x).n c9)) rfl rfl PU2.out (fun u hu => by simp [meltC] at hu; rcases hu with rfl | rfl | rfl <;> rfl) (by unfold maxLen; omega) (by omega) (by simp; omega) ?_; intro v9 w9 hown' hgrow _; refine Hid.out ?_)
                              refine Lib.hid ?_
                              obtain ⟨hbx9, hbr, hbs⟩ := PU3.out w9 hgrow
                              have hown := Lib.hid hown'
                              have hbx := Lib.hid hbx9
                              clear hown' hgrow hbx9 PU1 PU2 PU3
                              go_wp2_with fail
                              go_meet
                              exact ⟨true, cnt + 1, _, rfl, Lib.hid rfl, by omega, hown, hbx, hbr⟩
                          case rest =>
                            clear hown hbx hbr hcnt hcl hp
                            obtain ⟨D2, cnt2, xs2, rfl, hcnt, hcl, hown, hbx, hbr⟩ := hcut
                            have HAT := Lib.hid ((HR.out k hlt).keep hbr)
                            go_wp2_with fail
                            go_at_call 134
                            refine (l14Own_calls b (o + k * 3) (g k) wc HAT.out nfk.1 nfk.2).mono ?_
                            rintro e w1 ⟨G, c9, rfl, hb, hso⟩
                            obtain ⟨pu1, pu2, pu3⟩ := pushM (c := c9) hown.out hbx.out hbr hbr.size hb hso ffk.out
                            have PU1 := Lib.hid pu1
                            have PU2 := Lib.hid pu2
                            have PU3 := Lib.hid pu3
                            have hlim2 : W2.heap.size ≤ w1.heap.size := Nat.le_trans hbr.size hb.size
                            clear hb hso pu1 pu2 pu3 hown hbx hbr
                            go_wp2_with (at_builtin; refine wpList_append_own _ rfl _ _ 24 rfl W2.heap.size 74 i0 (.agg #[.string ⟨#[]⟩, .slice none 0 0, .int .i64 0]) 3 48 Tryz.underlying24 hi hz0 hz1 hz2 rfl (by decide) _ _ _ rfl PU1.out ⟨w1.heap.size, 0, none⟩ 1 1 (meltC (g k) (.slice (some ⟨G, 0, none⟩) (g k).n c9)) rfl rfl PU2.out (fun u hu => by simp [meltC] at hu; rcases hu with rfl | rfl | rfl <;> rfl) (by unfold maxLen; omega) (by omega) (by simp; omega) ?_; intro v9 w9 hown' hgrow _; refine Hid.out ?_)
                            refine Lib.hid ?_
                            obtain ⟨hbx9, hbr, hbs⟩ := PU3.out w9 hgrow
                            have hown := Lib.hid hown'
                            have hbx := Lib.hid hbx9
                            clear hown' hgrow hbx9 PU1 PU2 PU3
                            go_wp2
                            go_roundw
                            case rel => exact ⟨k + 1, D2, cnt2 + 1, _, by omega, by go_num, rfl, Lib.hid (by have := hcnt.out; omega), by omega, hown, hbx, hbr⟩
                            case measure => simp [intOf]; omega
                        · obtain rfl : k = j := by omega
                          go_upto_if 95 with (fail)
                          go_cut [12, 13] (fun v2 dn wx => ∃ (D2 : Bool) (xs2 : List Value), dn = .bool D2 ∧ Hid (wx.ownsRow W2.heap.size 74 3 v2 (k + 1) xs2) ∧ Hid (MeltsP wx xs2 (k + 1)) ∧ Below W2.heap.size W2 wx)
                          case first =>
                            cases D
                            · have hck : cnt = k := by have := hcnt.out; simp at this; omega
                              subst hck
                              go_wp2_with fail
                              go_at_call 134
                              refine (l14Own_calls w.heap.size 0 x wr (meltAt_blk (HXM.out.keep hbr) (HSM.out.keep hbr)) (by omega) (by omega)).mono ?_
                              rintro e w1 ⟨G, c9, rfl, hb, hso⟩
                              obtain ⟨pu1, pu2, pu3⟩ := pushM (c := c9) hown.out hbx.out hbr hbr.size hb hso HFX.out
                              have PU1 := Lib.hid pu1
                              have PU2 := Lib.hid pu2
                              have PU3 := Lib.hid pu3
                              have hlim2 : W2.heap.size ≤ w1.heap.size := Nat.le_trans hbr.size hb.size
                              clear hb hso pu1 pu2 pu3 hown hbx hbr
                              go_wp2_with (at_builtin; refine wpList_append_own _ rfl _ _ 24 rfl W2.heap.size 74 i0 (.agg #[.string ⟨#[]⟩, .slice none 0 0, .int .i64 0]) 3 48 Tryz.underlying24 hi hz0 hz1 hz2 rfl (by decide) _ _ _ rfl PU1.out ⟨w1.heap.size, 0, none⟩ 1 1 (meltC (x) (.slice (some ⟨G, 0, none⟩) (x).n c9)) rfl rfl PU2.out (fun u hu => by simp [meltC] at hu; rcases hu with rfl | rfl | rfl <;> rfl) (by unfold maxLen; omega) (by omega) (by simp; omega) ?_; intro v9 w9 hown' hgrow _; refine Hid.out ?_)
                              refine Lib.hid ?_
                              obtain ⟨hbx9, hbr, hbs⟩ := PU3.out w9 hgrow
                              have hown := Lib.hid hown'
                              have hbx := Lib.hid hbx9
                              clear hown' hgrow hbx9 PU1 PU2 PU3
                              go_wp2_with fail
                              go_meet
                              exact ⟨false, _, rfl, hown, hbx, hbr⟩
                            · have hck : cnt = k + 1 := by have := hcnt.out; simp at this; omega
                              subst hck
                              go_wp2_with fail
                              go_meet
                              exact ⟨true, xs, rfl, hown, hbx, hbr⟩
                          case rest =>
                            clear hown hbx hbr
                            obtain ⟨D2, xs2, rfl, hown, hbx, hbr⟩ := hcut
                            obtain ⟨A9, c9, F9, hv, hc9, hT9, hF9⟩ := meltP_of hown.out hbx.out
                            subst hv
                            have HT9 := Lib.hid hT9
                            have HLC := Lib.hid ((own_loc hown.out).lower HBM.out.size)
                            have HF9 := Lib.hid hF9
                            have HB9 := Lib.hid (HBM.out.trans (hbr.mono HBM.out.size))
                            clear hT9 hF9 hown hbx hbr
                            go_wp2
                            refine bodyPost_ret (v := .tuple #[.slice A9 (k + 1) c9, .int .i64 0]) (by simp [results, Tryz.results98, go_sem]) rfl ?_
                            exact .inr ⟨hj12.out, A9, c9, F9, rfl, hc9, HT9.out, HF9.out, HB9.out, HLC.out⟩
      · omega
      · go_wp2_with fail
        go_at_call 130
        refine (l14One_calls w.heap.size 0 x w1 (meltAt_blk HX1.out HS1.out) HFX.out).mono ?_
        rw [q3]
        rintro e w2 ⟨rfl, nd, rfl⟩
        have HB2 := Lib.hid (below_drewN HB1.out nd)
        have HX2 := Lib.hid (HX1.out.drewN nd)
        have HS2 := Lib.hid (HS1.out.drewN nd)
        clear HB1 HX1 HS1
        generalize w1.drewN nd = w2 at *
        go_wp2_with fail
        go_at_call 131
        refine (sAsk_calls A n c s0 a1 a2 a3 a4 w.heap.size 0 x _ (H.out.below HB2.out (Nat.le_refl _)) HZ.out hn HOI.out (meltAt_blk HX2.out (HS2.out)) q3 HFX.out).mono ?_
        rintro e w3 ⟨rfl, hb3⟩
        have HB3 := Lib.hid (HB2.out.trans (hb3.mono HB2.out.size))
        cases q4 : allHave s0 n x.ss x.n
        · rw [if_neg (by decide)]
          go_wp2
          refine bodyPost_ret (v := .tuple #[.slice none 0 0, .int .i64 3]) (by simp [results, Tryz.results98, go_sem]) rfl ?_
          exact .inl ⟨3, by decide, rfl, HB3.out⟩
        · rw [if_pos rfl]
          go_wp2
          refine bodyPost_ret (v := .tuple #[.slice none 0 0, .int .i64 3]) (by simp [results, Tryz.results98, go_sem]) rfl ?_
          exact .inl ⟨3, by decide, rfl, HB3.out⟩
end Go.Proofs.YticnpibkpfpojaaGreatDoor
