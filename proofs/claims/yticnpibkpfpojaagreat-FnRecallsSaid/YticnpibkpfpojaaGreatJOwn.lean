import Derived.Test.YticnpibkpfpojaaGreatShareO
import Derived.Test.YticnpibkpfpojaaGreatBells
import Derived.Test.YticnpibkpfpojaaGreatKin
import Derived.Test.YticnpibkpfpojaaGreatStrs
import Derived.Test.YticnpibkpfpojaaGreatOwn
import Derived.Deep.AppendLies
import Derived.Lib.SliceRun
/- Lists of bells of the call's own: each bell's shares lie in a block of their own, and all are apart. -/
namespace Go.Proofs.YticnpibkpfpojaaGreat
set_option linter.unusedVariables false
open Go.RowKit

/-- a bell's cells -/
def bellC (x : BellV) (v : Value) : List Value := [.string x.id, .int .i64 x.no, .int .i64 x.ma, .int .i64 x.fe, v]
/-- the shares lie at the head of a block of the call's own that has room for c -/
def ShareOwnC (w : World) (n : Nat) (ss : Nat → ByteArray) (ms : Nat → Int) (G c : Nat) : Prop := ∃ arr : Array Value, Blk w G 39 arr ∧ arr.size = c * 2 ∧ n ≤ c ∧ c ≤ maxLen ∧ ShareArr arr n ss ms
theorem ShareOwnC.own {w : World} {n G c : Nat} {ss : Nat → ByteArray} {ms : Nat → Int} (h : ShareOwnC w n ss ms G c) : ShareOwn w (some ⟨G, 0, none⟩) n ss ms G := fun _ => by
  obtain ⟨arr, hb, hs, hc, -, ha⟩ := h
  exact ⟨rfl, arr, hb, by omega, ha⟩
theorem ShareOwnC.same {w w' : World} {n G c : Nat} {ss : Nat → ByteArray} {ms : Nat → Int} (h : ShareOwnC w n ss ms G c) (hb : w'.heap[G]? = w.heap[G]?) : ShareOwnC w' n ss ms G c := by
  obtain ⟨arr, hk, h2⟩ := h
  exact ⟨arr, hb.trans hk, h2⟩
theorem ShareOwnC.keep {w w' : World} {n G c : Nat} {ss : Nat → ByteArray} {ms : Nat → Int} (h : ShareOwnC w n ss ms G c) (hb : Below w.heap.size w w') : ShareOwnC w' n ss ms G c := by
  obtain ⟨arr, hk, h2⟩ := h
  exact ⟨arr, hk.keep hb, h2⟩
/-- what one bell of such a list is -/
def BellX (w : World) (base top : Nat) (xs : Nat → Option Value) (i : Nat) (x : BellV) (g c : Nat) : Prop := (xs (i * 5) = some (.string x.id) ∧ xs (i * 5 + 1) = some (.int .i64 x.no) ∧ xs (i * 5 + 2) = some (.int .i64 x.ma) ∧ xs (i * 5 + 3) = some (.int .i64 x.fe)) ∧ xs (i * 5 + 4) = some (.slice (some ⟨g, 0, none⟩) x.n c) ∧ base ≤ g ∧ g < top ∧ ShareOwnC w x.n x.ss x.ms g c
theorem BellX.keep {w w' : World} {base top : Nat} {xs : Nat → Option Value} {i : Nat} {x : BellV} {g c : Nat} (h : BellX w base top xs i x g c) (hb : Below w.heap.size w w') : BellX w' base top xs i x g c := ⟨h.1, h.2.1, h.2.2.1, h.2.2.2.1, h.2.2.2.2.keep hb⟩
def BellsX (w : World) (base top : Nat) (xs : List Value) (k : Nat) (f : Nat → BellV) : Prop := xs.length = k * 5 ∧ ∃ gs cs : Nat → Nat, (∀ i, i < k → BellX w base top (fun j => xs[j]?) i (f i) (gs i) (cs i)) ∧ ∀ i j, i < j → j < k → gs i ≠ gs j
theorem BellsX.nil (w : World) (base top : Nat) (f : Nat → BellV) : BellsX w base top [] 0 f := ⟨rfl, fun _ => 0, fun _ => 0, fun i hi => absurd hi (Nat.not_lt_zero _), fun i j _ hj => absurd hj (Nat.not_lt_zero _)⟩
theorem BellsX.keep {w w' : World} {base top k : Nat} {xs : List Value} {f : Nat → BellV} (h : BellsX w base top xs k f) (hb : Below w.heap.size w w') : BellsX w' base top xs k f := by
  obtain ⟨h1, gs, cs, h2, h3⟩ := h
  exact ⟨h1, gs, cs, fun i hi => (h2 i hi).keep hb, h3⟩
theorem BellsX.snoc {w w' : World} {base b2 top top' k g c : Nat} {v : Value} {xs : List Value} {f : Nat → BellV} {o : Obj} (h : BellsX w base top xs k f) (ho : w.ownsRow b2 37 5 v k xs) (hn : ShareOwnC w (f k).n (f k).ss (f k).ms g c) (hbt : base ≤ top) (h1 : top ≤ g) (h2 : g < top') (hg : (w.alloc o).grownBy w' v.ownBlock) : BellsX w' base top' (xs ++ bellC (f k) (.slice (some ⟨g, 0, none⟩) (f k).n c)) (k + 1) f := by
  have hne : ∀ {n2 G2 c2 : Nat} {ss : Nat → ByteArray} {ms : Nat → Int}, ShareOwnC w n2 ss ms G2 c2 → ShareOwnC w' n2 ss ms G2 c2 := fun {n2 G2 c2 ss ms} hi => by
    obtain ⟨arr, hb, ha⟩ := hi
    refine ⟨arr, (hg.block G2 (hb.alloc o).lt (fun e => ?_)).trans (hb.alloc o), ha⟩
    rcases ho.2 with ⟨rfl, -⟩ | ⟨g3, cap, cur, rfl, -, h3, -⟩
    · cases e
    · have e2 : G2 = g3 := Option.some.inj e
      subst e2
      have := (hb.uniq (show Blk w G2 37 cur from h3)).1
      exact absurd this (by decide)
  obtain ⟨hl, gs, cs, hx, hap⟩ := h
  refine ⟨by simp [hl, bellC]; omega, fun i => if i = k then g else gs i, fun i => if i = k then c else cs i, fun i hi => ?_, fun i j hij hj => ?_⟩
  · rcases Nat.lt_or_ge i k with q | q
    · show BellX _ _ _ _ _ _ (if i = k then g else gs i) (if i = k then c else cs i)
      rw [if_neg (by omega), if_neg (by omega)]
      obtain ⟨⟨a0, a1, a2, a3⟩, a4, a5, a6, a7⟩ := hx i q
      refine ⟨⟨?_, ?_, ?_, ?_⟩, ?_, a5, by omega, hne a7⟩
      · show (xs ++ _)[i * 5]? = _
        rw [List.getElem?_append_left (by omega)]; exact a0
      · show (xs ++ _)[i * 5 + 1]? = _
        rw [List.getElem?_append_left (by omega)]; exact a1
      · show (xs ++ _)[i * 5 + 2]? = _
        rw [List.getElem?_append_left (by omega)]; exact a2
      · show (xs ++ _)[i * 5 + 3]? = _
        rw [List.getElem?_append_left (by omega)]; exact a3
      · show (xs ++ _)[i * 5 + 4]? = _
        rw [List.getElem?_append_left (by omega)]; exact a4
    · obtain rfl : i = k := by omega
      show BellX _ _ _ _ _ _ (if i = i then g else gs i) (if i = i then c else cs i)
      rw [if_pos rfl, if_pos rfl]
      have e : ∀ j, (xs ++ bellC (f i) (.slice (some ⟨g, 0, none⟩) (f i).n c))[i * 5 + j]? = (bellC (f i) (.slice (some ⟨g, 0, none⟩) (f i).n c))[j]? := fun j => by
        rw [List.getElem?_append_right (by omega)]
        congr 1
        omega
      refine ⟨⟨?_, ?_, ?_, ?_⟩, ?_, by omega, h2, hne hn⟩
      · exact e 0
      · exact e 1
      · exact e 2
      · exact e 3
      · exact e 4
  · rcases Nat.lt_or_ge j k with q | q
    · show (if i = k then g else gs i) ≠ (if j = k then g else gs j)
      rw [if_neg (by omega), if_neg (by omega)]
      exact hap i j hij q
    · obtain rfl : j = k := by omega
      show (if i = j then g else gs i) ≠ (if j = j then g else gs j)
      rw [if_neg (by omega), if_pos rfl]
      have := (hx i hij).2.2.2.1
      omega
/-- a row of bells at the head of a block of the call's own, its shares apart -/
def BellOwn (w : World) (A : Option Addr) (n : Nat) (f : Nat → BellV) (G lo : Nat) : Prop := 0 < n → A = some ⟨G, 0, none⟩ ∧ lo ≤ G ∧ ∃ arr : Array Value, Blk w G 37 arr ∧ n * 5 ≤ arr.size ∧ ∃ gs cs : Nat → Nat, (∀ i, i < n → BellX w lo w.heap.size (fun j => arr[j]?) i (f i) (gs i) (cs i)) ∧ ∀ i j, i < j → j < n → gs i ≠ gs j
theorem bellOwn_of {w : World} {base top k : Nat} {v : Value} {xs : List Value} {f : Nat → BellV} (ho : w.ownsRow base 37 5 v k xs) (h : BellsX w base top xs k f) (ht : top ≤ w.heap.size) : ∃ A c G, v = .slice A k c ∧ BellOwn w A k f G base ∧ base ≤ G := by
  rcases ho.2 with ⟨hv, h0⟩ | ⟨g, cap, cur, hv, hb, hg, hc, hm, hs, htk⟩
  · exact ⟨none, 0, base, by rw [hv, h0], fun h => by omega, Nat.le_refl _⟩
  · refine ⟨some ⟨g, 0, none⟩, cap, g, hv, fun hn => ⟨rfl, hb, cur, hg, by rw [hs]; omega, ?_⟩, hb⟩
    obtain ⟨hl, gs, cs, hx, hap⟩ := h
    refine ⟨gs, cs, fun i hi => ?_, hap⟩
    obtain ⟨⟨a0, a1, a2, a3⟩, a4, a5, a6, a7⟩ := hx i hi
    have ha : ∀ j, j < k * 5 → cur[j]? = xs[j]? := fun j hj => by
      have := (congrArg (fun l => l[j]?) htk)
      simp only [List.getElem?_take, if_pos hj] at this
      simpa using this
    exact ⟨⟨(ha _ (by omega)).trans a0, (ha _ (by omega)).trans a1, (ha _ (by omega)).trans a2, (ha _ (by omega)).trans a3⟩, (ha _ (by omega)).trans a4, a5, by omega, a7⟩
theorem BellOwn.row {w : World} {A : Option Addr} {n G lo : Nat} {f : Nat → BellV} (h : BellOwn w A n f G lo) : BellRow w A n f := fun hn => by
  obtain ⟨rfl, -, arr, hb, -, gs, cs, hx, -⟩ := h hn
  refine ⟨G, 0, rfl, fun i hi => ?_⟩
  obtain ⟨⟨a0, a1, a2, a3⟩, a4, -, -, a7⟩ := hx i hi
  rw [Nat.zero_add]
  exact ⟨_, cs i, (hb.cell _).trans a0, (hb.cell _).trans a1, (hb.cell _).trans a2, (hb.cell _).trans a3, (hb.cell _).trans a4, a7.own.row⟩
theorem BellOwn.keep {w w' : World} {A : Option Addr} {n G lo : Nat} {f : Nat → BellV} (h : BellOwn w A n f G lo) (hb : Below w.heap.size w w') : BellOwn w' A n f G lo := fun hn => by
  obtain ⟨hA, hl, arr, hk, hs, gs, cs, hx, hap⟩ := h hn
  refine ⟨hA, hl, arr, hk.keep hb, hs, gs, cs, fun i hi => ?_, hap⟩
  obtain ⟨a, a4, a5, a6, a7⟩ := (hx i hi).keep hb
  exact ⟨a, a4, a5, Nat.lt_of_lt_of_le a6 hb.size, a7⟩
end Go.Proofs.YticnpibkpfpojaaGreat

/- Copies of bells, each with shares of its own: copyBells (the program's), l18Own (the reference's). -/
namespace Go.Proofs.YticnpibkpfpojaaGreat
set_option linter.unusedVariables false
set_option linter.unusedSimpArgs false
open Go.RowKit

def shW (ss : Nat → ByteArray) (ms : Nat → Int) : Nat → List Value
  | 0 => []
  | k + 1 => shW ss ms k ++ [.string (ss k), .int .i64 (ms k)]
theorem shW_len (ss : Nat → ByteArray) (ms : Nat → Int) : ∀ k, (shW ss ms k).length = k * 2
  | 0 => rfl
  | k + 1 => by rw [shW, List.length_append, shW_len ss ms k]; simp; omega
theorem shW_at (ss : Nat → ByteArray) (ms : Nat → Int) : ∀ k i, i < k → (shW ss ms k)[i * 2]? = some (.string (ss i)) ∧ (shW ss ms k)[i * 2 + 1]? = some (.int .i64 (ms i))
  | 0, i, h => absurd h (Nat.not_lt_zero _)
  | k + 1, i, h => by
    have hl := shW_len ss ms k
    rcases Nat.lt_or_ge i k with q | q
    · have ih := shW_at ss ms k i q
      rw [shW, List.getElem?_append_left (by omega), List.getElem?_append_left (by omega)]
      exact ih
    · obtain rfl : i = k := by omega
      rw [shW, List.getElem?_append_right (by omega), List.getElem?_append_right (by omega), hl, show i * 2 - i * 2 = 0 by omega, show i * 2 + 1 - i * 2 = 1 by omega]
      exact ⟨rfl, rfl⟩
theorem shW_one (ss : Nat → ByteArray) (ms : Nat → Int) (k : Nat) : ∀ u ∈ shW ss ms k, u.oneCell' = true := by
  induction k with
  | zero => intro u hu; cases hu
  | succ k ih =>
    intro u hu
    rw [shW] at hu
    rcases List.mem_append.1 hu with h | h
    · exact ih u h
    · simp at h
      rcases h with rfl | rfl <;> rfl
theorem shW_news {w : World} {b o n : Nat} {ss : Nat → ByteArray} {ms : Nat → Int} (h : ∀ i, i < n → ShareAt w b (o + i * 2) (ss i) (ms i)) : ∀ j u, (shW ss ms n)[j]? = some u → w.cell? ((⟨b, o, none⟩ : Addr).add j) = some u := fun j u hj => by
  have hl := shW_len ss ms n
  have hjn : j < n * 2 := by
    rcases Nat.lt_or_ge j (n * 2) with q | q
    · exact q
    · rw [List.getElem?_eq_none (by omega)] at hj; cases hj
  have hadd : (⟨b, o, none⟩ : Addr).add j = ⟨b, o + j, none⟩ := by unfold Addr.add; split <;> simp_all
  rw [hadd]
  obtain ⟨c0, c1⟩ := h (j / 2) (by omega)
  obtain ⟨d0, d1⟩ := shW_at ss ms n (j / 2) (by omega)
  rcases (show j = j / 2 * 2 ∨ j = j / 2 * 2 + 1 by omega) with q | q
  · rw [q] at hj ⊢
    rw [d0] at hj
    rw [← Option.some.inj hj]; exact c0
  · rw [q] at hj ⊢
    rw [d1] at hj
    rw [← Option.some.inj hj]; exact c1
theorem shareOwn_of {w : World} {base n : Nat} {v : Value} {ss : Nat → ByteArray} {ms : Nat → Int} (h : w.ownsRow base 39 2 v n (shW ss ms n)) (hn : 0 < n) : ∃ G c, v = .slice (some ⟨G, 0, none⟩) n c ∧ base ≤ G ∧ G < w.heap.size ∧ ShareOwnC w n ss ms G c := by
  obtain ⟨g, cap, cur, hv, hg, hb, hc, hm, hs, hx⟩ := own_blk h hn
  refine ⟨g, cap, hv, hg, hb.lt, cur, hb, hs, hc, hm, fun i hi => ?_⟩
  obtain ⟨d0, d1⟩ := shW_at ss ms n i hi
  exact ⟨(hx _ (by omega)).trans d0, (hx _ (by omega)).trans d1⟩
theorem ShareI_info : (Tryz.prog.info? 39).map (fun i => (i.zero, i.size, i.bytes)) = some (some (.agg #[.string ⟨#[]⟩, .int .i64 0]), 2, 24) := by kernel_rfl
theorem BellI_info : (Tryz.prog.info? 37).map (fun i => (i.zero, i.size, i.bytes)) = some (some (.agg #[.string ⟨#[]⟩, .int .i64 0, .int .i64 0, .int .i64 0, .slice none 0 0]), 5, 64) := by kernel_rfl
theorem BellsX.far {w : World} {base top k : Nat} {xs : List Value} {f : Nat → BellV} {p : Addr} (h : BellsX w base top xs k f) (hp : top ≤ p.block) (u : Value) : BellsX (w.setCell p u) base top xs k f := by
  obtain ⟨h1, gs, cs, h2, h3⟩ := h
  refine ⟨h1, gs, cs, fun i hi => ?_, h3⟩
  obtain ⟨a, a4, a5, a6, a7⟩ := h2 i hi
  exact ⟨a, a4, a5, a6, a7.same (Below.heap_setCell w p u _ (by omega))⟩
theorem own_farX {w : World} {base top : Nat} {e : TypeId} {size n : Nat} {v : Value} {xs : List Value} {p : Addr} (h : w.ownsRow base e size v n xs) (hl : ∀ k, v.ownBlock = some k → k < top) (hp : top ≤ p.block) (u : Value) : (w.setCell p u).ownsRow base e size v n xs :=
  h.kept (row := some p.block) (gb_set (World.grownBy.refl _ _) rfl u) (by
    cases hb : v.ownBlock with
    | none => exact .inl rfl
    | some k => exact .inr fun e => by have := hl k hb; injection e with e; omega)
theorem cell_alX {W : World} {a : Addr} {v : Value} (h : W.cell? a = some v) (o : Obj) : (W.alloc o).cell? a = some v := (Go.World.cell?_alloc_some _ _ _ (by rw [h]; rfl)).trans h
set_option maxRecDepth 20000 in
set_option maxHeartbeats 4000000 in
theorem l18Own_calls (b o : Nat) (x : BellV) (w : World) (h : BellAt w b o x) (h0 : 0 < x.n) (hn : x.n ≤ 1048576) :
    Calls Tryz.prog 84 #[.pointer (some ⟨b, o, none⟩)] w fun e w' => ∃ G c', e = .returned (.agg #[.string x.id, .int .i64 x.no, .int .i64 x.ma, .int .i64 x.fe, .slice (some ⟨G, 0, none⟩) x.n c']) ∧ Below w.heap.size w w' ∧ w.heap.size ≤ G ∧ G < w'.heap.size ∧ ShareOwnC w' x.n x.ss x.ms G c' := by
  obtain ⟨i0, hi, hz0, hz1, hz2⟩ := info_parts ShareI_info
  obtain ⟨A, c, c0, c1, c2, c3, c4, c5⟩ := h
  obtain ⟨b2, o2, rfl, hrow⟩ := c5 h0
  have HROW := Lib.hid hrow
  have HLL := Lib.hid (shW_len x.ss x.ms x.n)
  clear hrow c5
  have d0 := cell_alX c0 (.cells #[.string ⟨#[]⟩, .int .i64 0, .int .i64 0, .int .i64 0, .slice none 0 0] 37)
  have d1 := cell_alX c1 (.cells #[.string ⟨#[]⟩, .int .i64 0, .int .i64 0, .int .i64 0, .slice none 0 0] 37)
  have d2 := cell_alX c2 (.cells #[.string ⟨#[]⟩, .int .i64 0, .int .i64 0, .int .i64 0, .slice none 0 0] 37)
  have d3 := cell_alX c3 (.cells #[.string ⟨#[]⟩, .int .i64 0, .int .i64 0, .int .i64 0, .slice none 0 0] 37)
  have d4 := cell_alX c4 (.cells #[.string ⟨#[]⟩, .int .i64 0, .int .i64 0, .int .i64 0, .slice none 0 0] 37)
  have d5 := cell_alX (cell_alX d4 (.cells #[.string x.id, .int .i64 x.no, .int .i64 x.ma, .int .i64 x.fe, .slice (some ⟨b2, o2, none⟩) x.n c] 37)) (.cells #[] 39)
  have HW : Hid (Below w.heap.size w (((w.alloc (.cells #[.string ⟨#[]⟩, .int .i64 0, .int .i64 0, .int .i64 0, .slice none 0 0] 37)).alloc (.cells #[.string x.id, .int .i64 x.no, .int .i64 x.ma, .int .i64 x.fe, .slice (some ⟨b2, o2, none⟩) x.n c] 37)).alloc (.cells #[] 39))) := Lib.hid (((((Below.refl w.heap.size w).alloc (Nat.le_refl _) (.cells #[.string ⟨#[]⟩, .int .i64 0, .int .i64 0, .int .i64 0, .slice none 0 0] 37)).alloc (by simp) (.cells #[.string x.id, .int .i64 x.no, .int .i64 x.ma, .int .i64 x.fe, .slice (some ⟨b2, o2, none⟩) x.n c] 37))).alloc (by simp; omega) (.cells #[] 39))
  have HB0 := Lib.hid (((Blk.new w 37 #[.string ⟨#[]⟩, .int .i64 0, .int .i64 0, .int .i64 0, .slice none 0 0]).alloc (.cells #[.string x.id, .int .i64 x.no, .int .i64 x.ma, .int .i64 x.fe, .slice (some ⟨b2, o2, none⟩) x.n c] 37)).alloc (.cells #[] 39))
  have HB1 := Lib.hid ((Blk.new2 w (.cells #[.string ⟨#[]⟩, .int .i64 0, .int .i64 0, .int .i64 0, .slice none 0 0] 37) 37 #[.string x.id, .int .i64 x.no, .int .i64 x.ma, .int .i64 x.fe, .slice (some ⟨b2, o2, none⟩) x.n c]).alloc (.cells #[] 39))
  have HL0 : Hid ((((w.alloc (.cells #[.string ⟨#[]⟩, .int .i64 0, .int .i64 0, .int .i64 0, .slice none 0 0] 37)).alloc (.cells #[.string x.id, .int .i64 x.no, .int .i64 x.ma, .int .i64 x.fe, .slice (some ⟨b2, o2, none⟩) x.n c] 37)).alloc (.cells #[] 39)).ownsRow (w.heap.size + 1 + 1) 39 2 (.slice (some ⟨w.heap.size + 1 + 1, 0, none⟩) 0 0) 0 []) := Lib.hid (by
    have q := World.ownsRow_lit (base := w.heap.size + 1 + 1) (e := 39) (size := 2) ((w.alloc (.cells #[.string ⟨#[]⟩, .int .i64 0, .int .i64 0, .int .i64 0, .slice none 0 0] 37)).alloc (.cells #[.string x.id, .int .i64 x.no, .int .i64 x.ma, .int .i64 x.fe, .slice (some ⟨b2, o2, none⟩) x.n c] 37)) #[] 0 (by simp) (by unfold maxLen; omega) rfl
    rw [show ((w.alloc (.cells #[.string ⟨#[]⟩, .int .i64 0, .int .i64 0, .int .i64 0, .slice none 0 0] 37)).alloc (.cells #[.string x.id, .int .i64 x.no, .int .i64 x.ma, .int .i64 x.fe, .slice (some ⟨b2, o2, none⟩) x.n c] 37)).heap.size = w.heap.size + 1 + 1 by simp] at q
    exact q)
  have HN := Lib.hid (shW_news (w := ((w.alloc (.cells #[.string ⟨#[]⟩, .int .i64 0, .int .i64 0, .int .i64 0, .slice none 0 0] 37)).alloc (.cells #[.string x.id, .int .i64 x.no, .int .i64 x.ma, .int .i64 x.fe, .slice (some ⟨b2, o2, none⟩) x.n c] 37)).alloc (.cells #[] 39)) (fun i hi => (HROW.out i hi).below HW.out (Nat.le_refl _)))
  clear HROW
  go_enter Tryz.func84, Tryz.ntmps84
  go_wp2_with (at_builtin; refine wpList_append_own _ rfl _ _ 35 rfl (w.heap.size + 1 + 1) 39 i0 (.agg #[.string ⟨#[]⟩, .int .i64 0]) 2 24 Tryz.underlying35 hi hz0 hz1 hz2 rfl (by decide) _ _ _ rfl HL0.out ⟨b2, o2, none⟩ x.n c (shW x.ss x.ms x.n) rfl HLL.out HN.out (shW_one x.ss x.ms x.n) (by unfold maxLen; omega) (by omega) (by simp) ?_; intro v' w1 hown' hgrow _; refine Hid.out ?_)
  refine Lib.hid ?_
  rw [Nat.zero_add, List.nil_append] at hown'
  obtain ⟨G, c', rfl, h1, h2, h3⟩ := shareOwn_of hown' h0
  have HB9 := Lib.hid (HW.out.grown hgrow (by simp; omega) (fun k hk => by have := (HL0.out.lt k hk).1; omega))
  have R0 := Lib.hid ((hgrow.block _ HB0.out.lt (fun e => by have := (HL0.out.lt _ e.symm).1; omega)).trans HB0.out)
  have R1 := Lib.hid ((hgrow.block _ HB1.out.lt (fun e => by have := (HL0.out.lt _ e.symm).1; omega)).trans HB1.out)
  have HSO := Lib.hid h3
  clear hown' hgrow h3 c0 c1 c2 c3 c4 d0 d1 d2 d3 d4 d5
  have x0 : w1.cell? ⟨w.heap.size + 1, 0, none⟩ = some (.string x.id) := (Blk.cell R1.out 0).trans rfl
  have x1 : w1.cell? ⟨w.heap.size + 1, 1, none⟩ = some (.int .i64 x.no) := (Blk.cell R1.out 1).trans rfl
  have x2 : w1.cell? ⟨w.heap.size + 1, 2, none⟩ = some (.int .i64 x.ma) := (Blk.cell R1.out 2).trans rfl
  have x3 : w1.cell? ⟨w.heap.size + 1, 3, none⟩ = some (.int .i64 x.fe) := (Blk.cell R1.out 3).trans rfl
  have x4 : w1.cell? ⟨w.heap.size + 1, 4, none⟩ = some (.slice (some ⟨b2, o2, none⟩) x.n c) := (Blk.cell R1.out 4).trans rfl
  have xf := Blk.frozen R1.out
  have y0 : w1.cell? ⟨w.heap.size, 0, none⟩ = some (.string ⟨#[]⟩) := (Blk.cell R0.out 0).trans rfl
  have y1 : w1.cell? ⟨w.heap.size, 1, none⟩ = some (.int .i64 0) := (Blk.cell R0.out 1).trans rfl
  have y2 : w1.cell? ⟨w.heap.size, 2, none⟩ = some (.int .i64 0) := (Blk.cell R0.out 2).trans rfl
  have y3 : w1.cell? ⟨w.heap.size, 3, none⟩ = some (.int .i64 0) := (Blk.cell R0.out 3).trans rfl
  have y4 : w1.cell? ⟨w.heap.size, 4, none⟩ = some (.slice none 0 0) := (Blk.cell R0.out 4).trans rfl
  have yf := Blk.frozen R0.out
  go_wp2
  refine bodyPost_ret (v := .agg #[.string x.id, .int .i64 x.no, .int .i64 x.ma, .int .i64 x.fe, .slice (some ⟨G, 0, none⟩) x.n c']) (by simp [results, Tryz.results84, go_sem, y0, y1, y2, y3, y4]) rfl ⟨G, c', rfl, ?_, by omega, by simp [World.setCell]; omega, ?_⟩
  · repeat (refine Below.setCell ?_ (by simp <;> omega) _)
    exact HB9.out
  · refine HSO.out.same ?_
    repeat (refine (Below.heap_setCell _ _ _ _ (by simp <;> omega)).trans ?_)
    rfl
end Go.Proofs.YticnpibkpfpojaaGreat
