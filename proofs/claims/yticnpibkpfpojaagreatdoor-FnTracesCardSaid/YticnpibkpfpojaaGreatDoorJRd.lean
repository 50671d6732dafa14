import Derived.Test.YticnpibkpfpojaaGreatDoorJTxt
import Derived.Test.YticnpibkpfpojaaGreatDoorShare
import Derived.Test.YticnpibkpfpojaaGreatDoorBell2
import Derived.Test.YticnpibkpfpojaaGreatDoorShareO
import Derived.Deep.DeepCutAuto
/- The bell that a text spells. No program in sight. -/
namespace Go.Proofs.YticnpibkpfpojaaGreatDoor
set_option linter.unusedVariables false
open Go.RowKit
def shX (ss : Nat → ByteArray) (ms : Nat → Int) (i : Nat) : List UInt8 := bl (ss i) ++ 58 :: Lib.itoa (ms i)
def shP (ss : Nat → ByteArray) (ms : Nat → Int) (n : Nat) : List (List UInt8) := (List.range n).map (shX ss ms)
theorem shP_len (ss : Nat → ByteArray) (ms : Nat → Int) (n : Nat) : (shP ss ms n).length = n := by simp [shP]
theorem shP_at (ss : Nat → ByteArray) (ms : Nat → Int) {n i : Nat} (h : i < n) : (shP ss ms n)[i]? = some (shX ss ms i) := by simp [shP, h]
theorem shJ_bl (ss : Nat → ByteArray) (ms : Nat → Int) (n : Nat) : bl (shJ ss ms n) = Lib.join (shP ss ms n) [44] := by
  have : (shL ss ms n).map (·.data.toList) = shP ss ms n := by
    unfold shL shP
    rw [List.map_map]
    apply List.map_congr_left
    intro i _
    show bl (shT ss ms i) = _
    unfold shT shX
    rw [bl_app, bl_app, bl_one, bl_tx]
    simp
  unfold shJ
  rw [this]
theorem bellT_bl (s : ByteArray) (no ma fe : Int) (n : Nat) (ss : Nat → ByteArray) (ms : Nat → Int) : bl (bellT s no ma fe n ss ms) = bl s ++ 32 :: (lText [no, ma, fe] ++ 32 :: Lib.join (shP ss ms n) [44]) := by
  unfold bellT
  rw [bl_app, bl_app, bl_app, bl_app, bl_one, joinT_bl _ (by omega), shJ_bl, xs_l3]
  simp
theorem bell_names {s : ByteArray} {no ma fe : Int} {n : Nat} {ss : Nat → ByteArray} {ms : Nat → Int} (h : bellB s no ma fe n ss ms = true) : nameB s = true ∧ ∀ i, i < n → nameB (ss i) = true := by
  unfold bellB sharesB at h
  simp only [Bool.and_eq_true] at h
  refine ⟨h.2.1, fun i hi => ?_⟩
  have q := allB_of h.1 i hi
  unfold goodAt shareB at q
  simp only [Bool.and_eq_true] at q
  exact q.1.1
theorem bell_num {s : ByteArray} {no ma fe : Int} {n : Nat} {ss : Nat → ByteArray} {ms : Nat → Int} (h : bellB s no ma fe n ss ms = true) : (1 ≤ n ∧ n ≤ 4) ∧ lFits [no, ma, fe] ∧ ∀ i, i < n → numR (ms i) := by
  obtain ⟨-, h1, h2, h3⟩ := bell_rng h
  refine ⟨h1, ?_, fun i hi => ?_⟩
  · have := lFits_of (p := l3 no ma fe) (n := 3) (by omega) h2
    rwa [xs_l3] at this
  · have := h3 i hi
    exact ⟨by omega, by omega⟩
theorem shX_no {ss : Nat → ByteArray} {ms : Nat → Int} {i : Nat} (h : nameB (ss i) = true) {c : UInt8} (hc : c.toNat < 45 ∨ c.toNat = 46 ∨ c.toNat = 47) : c ∉ shX ss ms i := fun q => by
  unfold shX at q
  rcases List.mem_append.1 q with q | q
  · exact name_no h (by omega) q
  · rcases List.mem_cons.1 q with q | q
    · subst q
      revert hc
      decide
    · exact itoa_no (by omega) (by omega) q
theorem shJ_no {ss : Nat → ByteArray} {ms : Nat → Int} {n : Nat} (h : ∀ i, i < n → nameB (ss i) = true) : (32 : UInt8) ∉ Lib.join (shP ss ms n) [44] := fun q => by
  rcases join_mem q with q | ⟨l, hl, q⟩
  · revert q; decide
  · obtain ⟨i, hi, rfl⟩ := List.mem_map.1 hl
    exact shX_no (h i (List.mem_range.1 hi)) (by decide) q
theorem bell_split {s : ByteArray} {no ma fe : Int} {n : Nat} {ss : Nat → ByteArray} {ms : Nat → Int} (h : bellB s no ma fe n ss ms = true) : splC 32 (bl (bellT s no ma fe n ss ms)) = [bl s, lText [no, ma, fe], Lib.join (shP ss ms n) [44]] := by
  obtain ⟨h1, h2⟩ := bell_names h
  rw [bellT_bl, splC_app (name_no h1 (by decide)), splC_app (lText_no _ (by decide) (by decide) (by decide)), splC_none (shJ_no h2)]
theorem bell_split2 {s : ByteArray} {no ma fe : Int} {n : Nat} {ss : Nat → ByteArray} {ms : Nat → Int} (h : bellB s no ma fe n ss ms = true) : splC 44 (Lib.join (shP ss ms n) [44]) = shP ss ms n := by
  obtain ⟨-, h2⟩ := bell_names h
  obtain ⟨⟨h3, -⟩, -⟩ := bell_num h
  have hm : ∀ y ∈ shP ss ms n, (44 : UInt8) ∉ y := fun y hy => by
    obtain ⟨i, hi, rfl⟩ := List.mem_map.1 hy
    exact shX_no (h2 i (List.mem_range.1 hi)) (by decide)
  have hl := shP_len ss ms n
  cases hp : shP ss ms n with
  | nil => rw [hp] at hl; simp at hl; omega
  | cons x r => rw [hp] at hm; exact splC_join hm
theorem share_split {ss : Nat → ByteArray} {ms : Nat → Int} {i : Nat} (h : nameB (ss i) = true) : splC 58 (shX ss ms i) = [bl (ss i), Lib.itoa (ms i)] := by
  unfold shX
  rw [splC_app (name_no h (by decide)), splC_none (itoa_no (by decide) (by decide))]
theorem share_cut {ss : Nat → ByteArray} {ms : Nat → Int} {i : Nat} (h : nameB (ss i) = true) : Lib.cut (shX ss ms i) [58] = (bl (ss i), Lib.itoa (ms i), true) := by
  unfold shX
  rw [cut_app (name_no h (by decide))]
def noBell (s : ByteArray) : Prop := ∀ id no ma fe n ss ms, bellB id no ma fe n ss ms = true → bellT id no ma fe n ss ms ≠ s
/-- what two readers must agree on -/
theorem bell_inj {s1 s2 : ByteArray} {o1 o2 a1 a2 f1 f2 : Int} {n1 n2 : Nat} {ss1 ss2 : Nat → ByteArray} {ms1 ms2 : Nat → Int} (h1 : bellB s1 o1 a1 f1 n1 ss1 ms1 = true) (h2 : bellB s2 o2 a2 f2 n2 ss2 ms2 = true) (h : bellT s1 o1 a1 f1 n1 ss1 ms1 = bellT s2 o2 a2 f2 n2 ss2 ms2) :
    s1 = s2 ∧ o1 = o2 ∧ a1 = a2 ∧ f1 = f2 ∧ n1 = n2 ∧ ∀ i, i < n1 → ss1 i = ss2 i ∧ ms1 i = ms2 i := by
  have e1 := bell_split h1
  rw [h, bell_split h2] at e1
  obtain ⟨e2, e3⟩ := List.cons.inj e1
  obtain ⟨e4, e5⟩ := List.cons.inj e3
  have e6 := (List.cons.inj e5).1
  have e7 := lText_inj e4
  have e8 := bell_split2 h1
  rw [← e6, bell_split2 h2] at e8
  have e9 : n1 = n2 := by
    have := congrArg List.length e8
    rw [shP_len, shP_len] at this
    omega
  subst e9
  injection e7 with q1 q2
  injection q2 with q2 q3
  injection q3 with q3 _
  refine ⟨ba_eq e2.symm, q1.symm, q2.symm, q3.symm, rfl, fun i hi => ?_⟩
  have r1 := shP_at ss1 ms1 hi
  rw [← e8, shP_at ss2 ms2 hi] at r1
  have r2 : shX ss2 ms2 i = shX ss1 ms1 i := by simpa using r1
  have r3 := share_split (ms := ms1) ((bell_names h1).2 i hi)
  rw [← r2, share_split ((bell_names h2).2 i hi)] at r3
  obtain ⟨r4, r5⟩ := List.cons.inj r3
  exact ⟨ba_eq r4.symm, (itoa_inj (List.cons.inj r5).1).symm⟩
/-- the program's road -/
def cutS (ps : List (List UInt8)) (i : Nat) : ByteArray := tx (Lib.cut ((ps[i]?).getD []) [58]).1
noncomputable def cutM (ps : List (List UInt8)) (i : Nat) : Int := numD (Lib.cut ((ps[i]?).getD []) [58]).2.1
theorem allB_eq {p q : Nat → Bool} : ∀ {n : Nat}, (∀ i, i < n → p i = q i) → allB p n = allB q n
  | 0, _ => rfl
  | n + 1, h => by
    show (allB p n && p n) = (allB q n && q n)
    rw [allB_eq (n := n) (fun i hi => h i (by omega)), h n (by omega)]
theorem sumI_eq {p q : Nat → Int} : ∀ {n : Nat}, (∀ i, i < n → p i = q i) → sumI p n = sumI q n
  | 0, _ => rfl
  | n + 1, h => by
    have ih := sumI_eq (p := p) (q := q) (n := n) (fun i hi => h i (by omega))
    have hn := h n (by omega)
    simp only [sumI, ih, hn]
theorem bellB_eq {s : ByteArray} {no ma fe : Int} {n : Nat} {ss1 ss2 : Nat → ByteArray} {ms1 ms2 : Nat → Int} (h : ∀ i, i < n → ss1 i = ss2 i ∧ ms1 i = ms2 i) : bellB s no ma fe n ss1 ms1 = bellB s no ma fe n ss2 ms2 := by
  unfold bellB sharesB
  rw [sumI_eq (fun i hi => (h i hi).2)]
  congr 1
  refine allB_eq fun i hi => ?_
  unfold goodAt
  show (shareB (ss1 i) (ms1 i) && _) = (shareB (ss2 i) (ms2 i) && _)
  rw [(h i hi).1, (h i hi).2]
  rcases Nat.eq_zero_or_pos i with rfl | h0
  · rfl
  · rw [(h (i - 1) (by omega)).1]
theorem bellT_eq {s : ByteArray} {no ma fe : Int} {n : Nat} {ss1 ss2 : Nat → ByteArray} {ms1 ms2 : Nat → Int} (h : ∀ i, i < n → ss1 i = ss2 i ∧ ms1 i = ms2 i) : bellT s no ma fe n ss1 ms1 = bellT s no ma fe n ss2 ms2 := by
  apply ba_eq
  show bl _ = bl _
  rw [bellT_bl, bellT_bl]
  have e : shP ss1 ms1 n = shP ss2 ms2 n := by
    unfold shP
    apply List.map_congr_left
    intro i hi
    unfold shX
    rw [(h i (List.mem_range.1 hi)).1, (h i (List.mem_range.1 hi)).2]
  rw [e]
theorem bell_cand {s id : ByteArray} {no ma fe : Int} {n : Nat} {ss : Nat → ByteArray} {ms : Nat → Int} (h : bellB id no ma fe n ss ms = true) (ht : bellT id no ma fe n ss ms = s) :
    ∃ a b c, splC 32 (bl s) = [a, b, c] ∧ tx a = id ∧ listO b = some [no, ma, fe] ∧ (splC 44 c).length = n ∧ ∀ i, i < n → cutS (splC 44 c) i = ss i ∧ cutM (splC 44 c) i = ms i := by
  obtain ⟨-, n2, n3⟩ := bell_num h
  refine ⟨_, _, _, by rw [← ht]; exact bell_split h, tx_bl id, listO_some.2 ⟨n2, rfl⟩, by rw [bell_split2 h, shP_len], fun i hi => ?_⟩
  unfold cutS cutM
  rw [bell_split2 h, shP_at ss ms hi, Option.getD_some, share_cut ((bell_names h).2 i hi)]
  exact ⟨tx_bl _, numD_itoa (n3 i hi)⟩
theorem bell_no1 {s : ByteArray} (h : (splC 32 (bl s)).length ≠ 3) : noBell s := fun id no ma fe n ss ms q1 q2 => by
  obtain ⟨a, b, c, e, -⟩ := bell_cand q1 q2
  rw [e] at h
  exact h rfl
theorem bell_no2 {s : ByteArray} {a b c : List UInt8} (h1 : splC 32 (bl s) = [a, b, c]) (h : ∀ no ma fe, listO b ≠ some [no, ma, fe]) : noBell s := fun id no ma fe n ss ms q1 q2 => by
  obtain ⟨a2, b2, c2, e, -, e2, -⟩ := bell_cand q1 q2
  rw [h1] at e
  injection e with _ e
  injection e with e _
  rw [← e] at e2
  exact h _ _ _ e2
theorem bell_no3 {s : ByteArray} {a b c : List UInt8} {no ma fe : Int} (h1 : splC 32 (bl s) = [a, b, c]) (h2 : listO b = some [no, ma, fe]) (h : bellB (tx a) no ma fe (splC 44 c).length (cutS (splC 44 c)) (cutM (splC 44 c)) = false ∨ bellT (tx a) no ma fe (splC 44 c).length (cutS (splC 44 c)) (cutM (splC 44 c)) ≠ s) : noBell s := fun id o2 m2 f2 n ss ms q1 q2 => by
  obtain ⟨a2, b2, c2, e, e1, e2, e3, e4⟩ := bell_cand q1 q2
  rw [h1] at e
  injection e with d1 e
  injection e with d2 e
  injection e with d3 _
  subst d1 d2 d3
  rw [h2] at e2
  have e5 := Option.some.inj e2
  injection e5 with g1 g2
  injection g2 with g2 g3
  injection g3 with g3 _
  subst g1 g2 g3 e1 e3
  rw [bellB_eq e4, bellT_eq e4] at h
  rcases h with h | h
  · rw [q1] at h; cases h
  · exact h q2
/-- the reference's road -/
theorem bell_no4 {s : ByteArray} {a b c p : List UInt8} {i : Nat} (h1 : splC 32 (bl s) = [a, b, c]) (h2 : (splC 44 c)[i]? = some p) (h : (splC 58 p).length ≠ 2 ∨ ∃ x y, splC 58 p = [x, y] ∧ numO y = none) : noBell s := fun id no ma fe n ss ms q1 q2 => by
  obtain ⟨-, -, n3⟩ := bell_num q1
  rw [← q2, bell_split q1] at h1
  injection h1 with d1 e
  injection e with d2 e
  injection e with d3 _
  subst d3
  rw [bell_split2 q1] at h2
  have hi : i < n := by
    have := (List.getElem?_eq_some_iff.1 h2).1
    rwa [shP_len] at this
  rw [shP_at ss ms hi] at h2
  have h3 := Option.some.inj h2
  rw [← h3, share_split ((bell_names q1).2 i hi)] at h
  rcases h with h | ⟨x, y, h4, h5⟩
  · exact h rfl
  · injection h4 with d4 e
    injection e with d5 _
    rw [← d5, numO_itoa (n3 i hi)] at h5
    cases h5
theorem cut_two {p x y : List UInt8} (h : splC 58 p = [x, y]) : Lib.cut p [58] = (x, y, true) := by
  obtain ⟨rfl, h1, -⟩ := splC_two h
  exact cut_app h1
/-- .. where both agree on a part -/
theorem cut_same {ps : List (List UInt8)} {i : Nat} {p x y : List UInt8} {m : Int} (h1 : ps[i]? = some p) (h2 : splC 58 p = [x, y]) (h3 : numO y = some m) : cutS ps i = tx x ∧ cutM ps i = m := by
  unfold cutS cutM
  rw [h1, Option.getD_some, cut_two h2]
  exact ⟨rfl, numD_some h3⟩
theorem bell_yes {s : ByteArray} {a b c : List UInt8} {no ma fe : Int} (h1 : splC 32 (bl s) = [a, b, c]) (h2 : listO b = some [no, ma, fe]) (h : ∀ i, i < (splC 44 c).length → ∃ p x y m, (splC 44 c)[i]? = some p ∧ splC 58 p = [x, y] ∧ numO y = some m) : bellT (tx a) no ma fe (splC 44 c).length (cutS (splC 44 c)) (cutM (splC 44 c)) = s := by
  apply ba_eq
  show bl _ = bl _
  have e : shP (cutS (splC 44 c)) (cutM (splC 44 c)) (splC 44 c).length = splC 44 c := by
    apply List.ext_getElem?
    intro i
    by_cases hi : i < (splC 44 c).length
    · obtain ⟨p, x, y, m, q1, q2, q3⟩ := h i hi
      rw [shP_at _ _ hi, q1]
      obtain ⟨r1, r2⟩ := cut_same q1 q2 q3
      unfold shX
      rw [r1, r2, bl_tx, (numO_some q3).2, (splC_two q2).1]
    · rw [List.getElem?_eq_none (by rw [shP_len]; omega), List.getElem?_eq_none (by omega)]
  rw [bellT_bl, e, join_splC, bl_tx, (listO_some.1 h2).2, (splC_three h1).1]
end Go.Proofs.YticnpibkpfpojaaGreatDoor

/- Bells read: the shares that are put together one by one, and what both readers return. -/
namespace Go.Proofs.YticnpibkpfpojaaGreatDoor
set_option linter.unusedVariables false
open Go.RowKit
/-- the cells of the first k shares -/
def shsL (ss : Nat → ByteArray) (ms : Nat → Int) : Nat → List Value
  | 0 => []
  | k + 1 => shsL ss ms k ++ [.string (ss k), .int .i64 (ms k)]
theorem shsL_succ (ss : Nat → ByteArray) (ms : Nat → Int) (k : Nat) : shsL ss ms k ++ [.string (ss k), .int .i64 (ms k)] = shsL ss ms (k + 1) := rfl
theorem shsL_len (ss : Nat → ByteArray) (ms : Nat → Int) : ∀ k, (shsL ss ms k).length = k * 2
  | 0 => rfl
  | k + 1 => by
    have := shsL_len ss ms k
    simp [shsL, this]
    omega
theorem shsL_at (ss : Nat → ByteArray) (ms : Nat → Int) {i : Nat} : ∀ {k : Nat}, i < k → (shsL ss ms k)[i * 2]? = some (.string (ss i)) ∧ (shsL ss ms k)[i * 2 + 1]? = some (.int .i64 (ms i))
  | k + 1, hi => by
    have hl := shsL_len ss ms k
    rcases Nat.lt_or_ge i k with h | h
    · have ih := shsL_at ss ms h
      simp only [shsL]
      rw [List.getElem?_append_left (by omega), List.getElem?_append_left (by omega)]
      exact ih
    · obtain rfl : i = k := by omega
      simp only [shsL]
      rw [List.getElem?_append_right (by omega), List.getElem?_append_right (by omega), hl]
      simp
theorem shareRow_of {w : World} {base n : Nat} {v : Value} {ss : Nat → ByteArray} {ms : Nat → Int} (ho : w.ownsRow base 41 2 v n (shsL ss ms n)) (hn : 0 < n) : ∃ g c, v = .slice (some ⟨g, 0, none⟩) n c ∧ base ≤ g ∧ ShareOwn w (some ⟨g, 0, none⟩) n ss ms g := by
  obtain ⟨g, cap, cur, hv, hg, hb, hc, -, hs, hcur⟩ := own_blk ho hn
  refine ⟨g, cap, hv, hg, fun _ => ⟨rfl, cur, hb, by rw [hs]; exact Nat.mul_le_mul_right 2 hc, fun i hi => ?_⟩⟩
  have h := shsL_at ss ms hi
  exact ⟨(hcur _ (by omega)).trans h.1, (hcur _ (by omega)).trans h.2⟩
theorem share_infoR : (Tryz.prog.info? 41).map (fun i => (i.zero, i.size, i.bytes)) = some (some (.agg #[.string ⟨#[]⟩, .int .i64 0]), 2, 24) := by kernel_rfl
theorem app_blk {w3 w4 : World} {o : Obj} {v : Value} {base g : Nat} {T : TypeId} {cs : Array Value} (hgrow : (w3.alloc o).grownBy w4 v.ownBlock) (hlt : ∀ k, v.ownBlock = some k → base ≤ k) (hg : g < base) (hb : Blk w3 g T cs) : Blk w4 g T cs :=
  (hgrow.block g (hb.alloc o).lt (fun e => by have := hlt g e.symm; omega)).trans (hb.alloc o)
theorem app_tx {w3 w4 : World} {o : Obj} {v : Value} {base g : Nat} {ls : List (List UInt8)} (hgrow : (w3.alloc o).grownBy w4 v.ownBlock) (hlt : ∀ k, v.ownBlock = some k → base ≤ k) (hg : g < base) (hb : TxAt w3 g ls) : TxAt w4 g ls := by
  have h1 : g < (w3.alloc o).heap.size := by simp; have := hb.1; omega
  have h2 : w4.heap[g]? = w3.heap[g]? := (hgrow.block g h1 (fun e => by have := hlt g e.symm; omega)).trans (Below.heap_alloc w3 o g hb.1)
  exact ⟨Nat.lt_of_lt_of_le h1 hgrow.size, fun i x hx => (World.cell?_of_block (w := w3) (a := ⟨g, i, none⟩) h2).trans (hb.2 i x hx)⟩
theorem tx_far {w : World} {g : Nat} {ls : List (List UInt8)} (h : TxAt w g ls) {p : Addr} (hp : g ≠ p.block) (u : Value) : TxAt (w.setCell p u) g ls :=
  ⟨by have := h.1; simpa using this, fun i x hx => (World.cell?_of_block (w := w) (a := ⟨g, i, none⟩) (Below.heap_setCell w p u g hp)).trans (h.2 i x hx)⟩
/-- TxAt, as a drawn region carries it on -/
def TxK (w : World) (g : Nat) (ls : List (List UInt8)) : Prop := TxAt w g ls
theorem TxK.keep {w w' : World} {g : Nat} {ls : List (List UInt8)} (h : TxK w g ls) (hb : Below w.heap.size w w') : TxK w' g ls := TxAt.keep h hb h.1 hb.size
theorem tx_grow {w3 w4 : World} {v : Value} {g : Nat} {ls : List (List UInt8)} (hgrow : w3.grownBy w4 v.ownBlock) (hne : some g ≠ v.ownBlock) (hb : TxAt w3 g ls) : TxAt w4 g ls :=
  ⟨Nat.lt_of_lt_of_le hb.1 hgrow.size, fun i x hx => (World.cell?_of_block (w := w3) (a := ⟨g, i, none⟩) (hgrow.block g hb.1 hne)).trans (hb.2 i x hx)⟩
theorem cell_farB {w : World} {b o G j : Nat} {x u : Value} (h : w.cell? ⟨b, o, none⟩ = some x) (hne : b ≠ G) : (w.setCell ⟨G, j, none⟩ u).cell? ⟨b, o, none⟩ = some x :=
  (World.cell?_of_block (w := w) (a := ⟨b, o, none⟩) (Below.heap_setCell w ⟨G, j, none⟩ u b hne)).trans h
theorem own_storeR {w : World} {base : Nat} {e : TypeId} {size n : Nat} {v : Value} {xs : List Value} {p : Addr} (h : w.ownsRow base e size v n xs) (hp : p.block < base) (u : Value) : (w.setCell p u).ownsRow base e size v n xs :=
  h.kept (row := some p.block) (gb_set (World.grownBy.refl _ _) rfl u) (by
    cases hb : v.ownBlock with
    | none => exact .inl rfl
    | some k => exact .inr fun e => by have := (h.lt k hb).1; injection e with e; omega)
theorem heap_far {w : World} {b o g : Nat} {u : Value} (h : g ≠ b) : (w.setCell ⟨b, o, none⟩ u).heap[g]? = w.heap[g]? := Below.heap_setCell w ⟨b, o, none⟩ u g h
/-- what both readers of bells do -/
def bellOut (s id : ByteArray) (no ma fe : Int) (n : Nat) (ss : Nat → ByteArray) (ms : Nat → Int) (b : Bool) : Prop :=
  (b = true ∧ bellB id no ma fe n ss ms = true ∧ bellT id no ma fe n ss ms = s) ∨ (b = false ∧ id = ⟨#[]⟩ ∧ no = 0 ∧ ma = 0 ∧ fe = 0 ∧ n = 0 ∧ noBell s)
def BellRet (w : World) (s : ByteArray) (e : Ending) (w' : World) : Prop := ∃ id no ma fe A n c G ss ms b, e = .returned (.tuple #[.agg #[.string id, .int .i64 no, .int .i64 ma, .int .i64 fe, .slice A n c], .bool b]) ∧ ShareOwn w' A n ss ms G ∧ (0 < n → w.heap.size ≤ G) ∧ n ≤ 1048576 ∧ bellOut s id no ma fe n ss ms b ∧ Below w.heap.size w w'
theorem bellOut_same {s id id2 : ByteArray} {no ma fe no2 ma2 fe2 : Int} {n n2 : Nat} {ss ss2 : Nat → ByteArray} {ms ms2 : Nat → Int} {b b2 : Bool} (h1 : bellOut s id no ma fe n ss ms b) (h2 : bellOut s id2 no2 ma2 fe2 n2 ss2 ms2 b2) :
    id = id2 ∧ no = no2 ∧ ma = ma2 ∧ fe = fe2 ∧ n = n2 ∧ (∀ i, i < n → ss i = ss2 i ∧ ms i = ms2 i) ∧ b = b2 := by
  rcases h1 with ⟨rfl, p1, p2⟩ | ⟨rfl, rfl, rfl, rfl, rfl, rfl, p1⟩
  · rcases h2 with ⟨rfl, q1, q2⟩ | ⟨rfl, rfl, rfl, rfl, rfl, rfl, q1⟩
    · obtain ⟨e1, e2, e3, e4, e5, e6⟩ := bell_inj p1 q1 (p2.trans q2.symm)
      exact ⟨e1, e2, e3, e4, e5, e6, rfl⟩
    · exact absurd p2 (q1 _ _ _ _ _ _ _ p1)
  · rcases h2 with ⟨rfl, q1, q2⟩ | ⟨rfl, rfl, rfl, rfl, rfl, rfl, q1⟩
    · exact absurd q2 (p1 _ _ _ _ _ _ _ q1)
    · exact ⟨rfl, rfl, rfl, rfl, rfl, fun i hi => absurd hi (Nat.not_lt_zero i), rfl⟩
theorem shareRow_eq {w : World} {A : Option Addr} {n : Nat} {ss ss2 : Nat → ByteArray} {ms ms2 : Nat → Int} (h : ShareRow w A n ss2 ms2) (e : ∀ i, i < n → ss i = ss2 i ∧ ms i = ms2 i) : ShareRow w A n ss ms := fun hn => by
  obtain ⟨b, o, hA, hall⟩ := h hn
  refine ⟨b, o, hA, fun i hi => ?_⟩
  rw [(e i hi).1, (e i hi).2]
  exact hall i hi
theorem bell_badR {w w' : World} {s : ByteArray} (h : noBell s) (hb : Below w.heap.size w w') : BellRet w s (.returned (.tuple #[.agg #[.string ⟨#[]⟩, .int .i64 0, .int .i64 0, .int .i64 0, .slice none 0 0], .bool false])) w' :=
  ⟨_, _, _, _, _, _, _, 0, fun _ => ⟨#[]⟩, fun _ => 0, _, rfl, fun h0 => absurd h0 (Nat.lt_irrefl 0), (fun h0 => absurd h0 (Nat.lt_irrefl 0)), by omega, Or.inr ⟨rfl, rfl, rfl, rfl, rfl, rfl, h⟩, hb⟩
theorem bell_goodR {w w' : World} {s id : ByteArray} {no ma fe : Int} {A : Option Addr} {n c G : Nat} {ss : Nat → ByteArray} {ms : Nat → Int} (hr : ShareOwn w' A n ss ms G) (hf : w.heap.size ≤ G) (hn : n ≤ 1048576) (h : bellB id no ma fe n ss ms = true) (ht : bellT id no ma fe n ss ms = s) (hb : Below w.heap.size w w') : BellRet w s (.returned (.tuple #[.agg #[.string id, .int .i64 no, .int .i64 ma, .int .i64 fe, .slice A n c], .bool true])) w' :=
  ⟨_, _, _, _, _, _, _, G, ss, ms, _, rfl, hr, fun _ => hf, hn, Or.inl ⟨rfl, h, ht⟩, hb⟩
theorem len_3 {α : Type} {l : List α} (h : l.length = 3) : ∃ a b c, l = [a, b, c] := by
  match l, h with
  | [a, b, c], _ => exact ⟨a, b, c, rfl⟩
theorem three_sizes {s : ByteArray} {c : UInt8} {a b d : List UInt8} (h : splC c (bl s) = [a, b, d]) : a.length ≤ s.size ∧ b.length + 1 ≤ s.size ∧ d.length + 1 ≤ s.size := by
  have h1 := congrArg List.length (splC_three h).1
  rw [bl_len] at h1
  simp at h1
  omega
theorem cell_arB {W : World} {a : Addr} {v : Value} (h : W.cell? a = some v) (o : Obj) : (W.alloc o).cell? a = some v := (Go.World.cell?_alloc_some _ _ _ (by rw [h]; rfl)).trans h
theorem cutS_size {c : List UInt8} {i : Nat} : (cutS (splC 44 c) i).size ≤ c.length := by
  unfold cutS
  rw [tx_size]
  refine Nat.le_trans (cut_size 58 _).1 ?_
  cases h : (splC 44 c)[i]? with
  | none => simp
  | some x => exact sp_size x (List.mem_of_getElem? h)
end Go.Proofs.YticnpibkpfpojaaGreatDoor

/- Bells read, by the program. -/
namespace Go.Proofs.YticnpibkpfpojaaGreatDoor
set_option linter.unusedVariables false
set_option linter.unusedSimpArgs false
open Go.RowKit


theorem isplit_ret (s : ByteArray) (c : UInt8) (l : List (List UInt8)) (w : World) (hs : s.size ≤ 1048576) (hL : HasLib w) (h : splC c (bl s) = l) : Calls Tryz.prog 27 #[.string s, .string ⟨#[c]⟩] w (SpRet w l) := by
  have := Split_calls s c w hs hL
  rw [h] at this
  exact this.mono fun e w' ⟨h1, h2, h3⟩ => ⟨_, _, h1, Nat.le_refl _, h2, h3⟩
set_option maxRecDepth 20000 in
set_option maxHeartbeats 8000000 in
theorem ReadBell_calls (s : ByteArray) (w : World) (hs : s.size ≤ 1048576) (hL : HasLib w) : Calls Tryz.prog 7 #[.string s] w (BellRet w s) := by
  obtain ⟨i0, hi, hz0, hz1, hz2⟩ := info_parts share_infoR
  have HAL := Lib.hid ((Below.refl w.heap.size w).alloc (Nat.le_refl _) (.cells #[.string ⟨#[]⟩, .int .i64 0, .int .i64 0, .int .i64 0, .slice none 0 0] 28))
  have HY := Lib.hid (Blk.new w 28 #[.string ⟨#[]⟩, .int .i64 0, .int .i64 0, .int .i64 0, .slice none 0 0])
  have HL := Lib.hid hL
  obtain ⟨l, hl⟩ : ∃ l, splC 32 (bl s) = l := ⟨_, rfl⟩
  have HS1 := Lib.hid (fun W (hb : Below w.heap.size w W) => isplit_ret s 32 l W hs (hL.keep hb) hl)
  by_cases h2 : l.length = 3
  · obtain ⟨a, b, c, rfl⟩ := len_3 h2
    clear h2
    obtain ⟨za, zb, zc⟩ := three_sizes hl
    have HSZ := Lib.hid (show (tx a).size ≤ maxLen by rw [tx_size]; unfold maxLen; omega)
    have hb : (tx b).size ≤ 1048575 := by rw [tx_size]; omega
    have hc : (tx c).size ≤ 1048576 := by rw [tx_size]; omega
    have HR := Lib.hid (fun W (hb' : Below w.heap.size w W) => ReadList_calls (tx b) W hb (hL.keep hb'))
    rw [bl_tx] at HR
    obtain ⟨o, ho⟩ : ∃ o, listO b = o := ⟨_, rfl⟩
    rw [ho] at HR
    obtain ⟨p, hp⟩ : ∃ p, splC 44 c = p := ⟨_, rfl⟩
    obtain ⟨n, hn⟩ : ∃ n, p.length = n := ⟨_, rfl⟩
    have HS2 := Lib.hid (fun W (hb' : Below w.heap.size w W) => isplit_ret (tx c) 44 p W hc (hL.keep hb') (by rw [bl_tx]; exact hp))
    have hn0 : 0 < n := by rw [← hn, ← hp]; exact List.length_pos_iff.2 (splC_ne _ _)
    have hn1 : n ≤ 1048576 := by
      have := sp_len (c := 44) (l := c)
      rw [hp, hn] at this
      omega
    have HSS := Lib.hid (show ∀ i, i < n → (cutS p i).size ≤ maxLen from fun i _ => by
      have := cutS_size (c := c) (i := i)
      rw [hp] at this
      unfold maxLen
      omega)
    have HP := Lib.hid (show ∀ k, k < n → ∃ x, p[k]? = some x ∧ x.length ≤ 1048576 from fun k hk => by
      have hk2 : k < p.length := by omega
      refine ⟨p[k], List.getElem?_eq_getElem hk2, ?_⟩
      have := sp_size (c := 44) (l := c) p[k] (by rw [hp]; exact List.getElem_mem hk2)
      omega)
    obtain ⟨na, hna⟩ : ∃ na, tx a = na := ⟨_, rfl⟩
    obtain ⟨nb, hnb⟩ : ∃ nb, tx b = nb := ⟨_, rfl⟩
    obtain ⟨nc, hnc⟩ : ∃ nc, tx c = nc := ⟨_, rfl⟩
    rw [hna] at HSZ
    rw [hnb] at HR
    rw [hnc] at HS2
    have hcase : (o = none ∧ Hid (noBell s)) ∨ (∃ xs, o = some xs ∧ xs.length ≠ 3 ∧ Hid (noBell s)) ∨ ∃ m r d, o = some [m, r, d] ∧ ((bellB na m r d n (cutS p) (cutM p) = false ∧ Hid (noBell s)) ∨ (bellB na m r d n (cutS p) (cutM p) = true ∧ Hid (bellT na m r d n (cutS p) (cutM p) = s)) ∨ (bellB na m r d n (cutS p) (cutM p) = true ∧ Hid (bellT na m r d n (cutS p) (cutM p) ≠ s) ∧ Hid (noBell s))) := by
      rcases e : o with _ | xs
      · exact Or.inl ⟨rfl, Lib.hid (bell_no2 hl (fun _ _ _ h => by rw [ho, e] at h; cases h))⟩
      · rw [e] at ho
        by_cases h3 : xs.length = 3
        · obtain ⟨m, r, d, rfl⟩ := len_3 h3
          refine Or.inr (Or.inr ⟨m, r, d, rfl, ?_⟩)
          have hno := fun h => bell_no3 (s := s) hl ho h
          rw [hp, hn, hna] at hno
          cases q1 : bellB na m r d n (cutS p) (cutM p)
          · exact Or.inl ⟨rfl, Lib.hid (hno (Or.inl q1))⟩
          · by_cases q2 : bellT na m r d n (cutS p) (cutM p) = s
            · exact Or.inr (Or.inl ⟨rfl, Lib.hid q2⟩)
            · exact Or.inr (Or.inr ⟨rfl, Lib.hid q2, Lib.hid (hno (Or.inr q2))⟩)
        · refine Or.inr (Or.inl ⟨xs, rfl, h3, Lib.hid (bell_no2 hl (fun _ _ _ h => ?_))⟩)
          rw [ho] at h
          obtain rfl := Option.some.inj h
          exact h3 rfl
    have HCASE := Lib.hid hcase
    have HN := Lib.hid hn
    clear hcase hl ho hb hc za zb zc hp hn hL
    go_enter Tryz.func7, Tryz.ntmps7
    go_wp2_with fail
    go_at_call 27
    refine (HS1.out _ HAL.out).mono ?_
    rintro e w1 ⟨g, cap, rfl, hg, htx, hb1⟩
    have c0 := htx.2 0 a rfl
    have c1 := htx.2 1 b rfl
    have c2 := htx.2 2 c rfl
    rw [hna] at c0
    rw [hnb] at c1
    rw [hnc] at c2
    have hg1 := htx.1
    have R1 := HY.out.keep hb1
    have hbr := HAL.out.trans (hb1.mono HAL.out.size)
    clear htx hb1
    go_wp2_with fail
    go_at_call 28
    refine (HR.out _ hbr).mono ?_
    rintro e w2 ⟨A, N, cp, rfl, hgot, hb2⟩
    have R2 := R1.keep hb2
    replace c0 := (hb2.cell (p := ⟨g, 0, none⟩) hg1).trans c0
    replace c2 := (hb2.cell (p := ⟨g, 2, none⟩) hg1).trans c2
    replace hbr := hbr.trans (hb2.mono hbr.size)
    have hgl : g < w2.heap.size := by have := hb2.size; omega
    have hrs := hbr.size
    clear hb2 c1 R1 hg hg1 hna hnb hnc HS1 HR
    rcases HCASE.out with ⟨rfl, HNO⟩ | ⟨xs, rfl, hx, HNO⟩ | ⟨m, r, d, rfl, hx⟩
    · obtain rfl : N = 0 := hgot
      have hbz := hbr
      have y0 := (R2.cell 0).trans rfl
      have y1 := (R2.cell 1).trans rfl
      have y2 := (R2.cell 2).trans rfl
      have y3 := (R2.cell 3).trans rfl
      have y4 := (R2.cell 4).trans rfl
      have f0 := R2.frozen 0
      have f1 := R2.frozen 1
      have f2 := R2.frozen 2
      have f3 := R2.frozen 3
      have f4 := R2.frozen 4
      have hl := R2.lt
      go_wp2
      refine bodyPost_ret (v := .tuple #[.agg #[.string ⟨#[]⟩, .int .i64 0, .int .i64 0, .int .i64 0, .slice none 0 0], .bool false]) (by simp [results, Tryz.results7, go_sem, y0, y1, y2, y3, y4, hl]) rfl ?_
      refine bell_badR HNO.out ?_
      (repeat refine Below.setCell ?_ (Nat.le_refl w.heap.size) _)
      with_reducible exact hbz
    · have hN := hgot.1
      have h3 : ((N : Int) != 3) = true := by simp; omega
      have h4 : ((N : Int) == 3) = false := by apply beq_eq_false_iff_ne.2; omega
      clear hgot hN hx
      have hbz := hbr
      have y0 := (R2.cell 0).trans rfl
      have y1 := (R2.cell 1).trans rfl
      have y2 := (R2.cell 2).trans rfl
      have y3 := (R2.cell 3).trans rfl
      have y4 := (R2.cell 4).trans rfl
      have f0 := R2.frozen 0
      have f1 := R2.frozen 1
      have f2 := R2.frozen 2
      have f3 := R2.frozen 3
      have f4 := R2.frozen 4
      have hl := R2.lt
      go_wp2
      refine bodyPost_ret (v := .tuple #[.agg #[.string ⟨#[]⟩, .int .i64 0, .int .i64 0, .int .i64 0, .slice none 0 0], .bool false]) (by simp [results, Tryz.results7, go_sem, y0, y1, y2, y3, y4, hl]) rfl ?_
      refine bell_badR HNO.out ?_
      (repeat refine Below.setCell ?_ (Nat.le_refl w.heap.size) _)
      with_reducible exact hbz
    · obtain rfl : N = 3 := hgot.1
      obtain ⟨bb, oo, rfl, hrow⟩ := hgot.2 (by omega)
      have d0 : w2.cell? ⟨bb, oo, none⟩ = some (.int .i64 m) := hrow 0 (by omega)
      have d1 : w2.cell? ⟨bb, oo + 1, none⟩ = some (.int .i64 r) := hrow 1 (by omega)
      have d2 : w2.cell? ⟨bb, oo + 2, none⟩ = some (.int .i64 d) := hrow 2 (by omega)
      clear hgot hrow
      have c0a := cell_arB c0
      have c2a := cell_arB c2
      have d0a := cell_arB d0
      have d1a := cell_arB d1
      have d2a := cell_arB d2
      have y0 := (R2.cell 0).trans rfl
      have y1 := (R2.cell 1).trans rfl
      have y2 := (R2.cell 2).trans rfl
      have y3 := (R2.cell 3).trans rfl
      have y4 := (R2.cell 4).trans rfl
      have f0 := R2.frozen 0
      have f1 := R2.frozen 1
      have f2 := R2.frozen 2
      have f3 := R2.frozen 3
      have f4 := R2.frozen 4
      have hl := R2.lt
      go_wp2_with fail
      go_cut [7] (fun p wx => ∃ G, p = .pointer (some ⟨G, 0, none⟩) ∧ Hid (w.heap.size < G ∧ wx.cell? ⟨g, 2, none⟩ = some (.string nc) ∧ Below w.heap.size w wx ∧ Blk wx w.heap.size 28 #[.string ⟨#[]⟩, .int .i64 0, .int .i64 0, .int .i64 0, .slice none 0 0] ∧ Blk wx G 28 #[.string na, .int .i64 m, .int .i64 r, .int .i64 d, .slice none 0 0]))
      case first =>
        go_region
        all_goals (go_wp2_with fail)
        all_goals go_meet
        all_goals refine ⟨_, rfl, Lib.hid ?_⟩
        all_goals first | exact ⟨R2.lt, c2a _, (hbr.alloc hrs _).drew, (R2.alloc _).drew, (Blk.new _ _ _).drew⟩ | exact ⟨R2.lt, c2a _, hbr.alloc hrs _, R2.alloc _, Blk.new _ _ _⟩
      case rest =>
        obtain ⟨G, rfl, hcc⟩ := hcut
        obtain ⟨hwG, c2x, hbr2, R3, X3⟩ := hcc.out
        clear hcc hbr hrs R2 y0 y1 y2 y3 y4 f0 f1 f2 f3 f4 hl c0 c2 d0 d1 d2 c0a c2a d0a d1a d2a hgl
        go_wp2_with fail
        go_at_call 27
        refine (HS2.out _ hbr2).mono ?_
        rintro e w4 ⟨g4, cap4, rfl, hg4, htx4, hb4⟩
        rw [HN.out]
        have hGl := X3.lt
        have hb4s := hb4.size
        have hGb : G < w4.heap.size := by omega
        have hgb : g4 < w4.heap.size := htx4.1
        have hgG : g4 ≠ G := by omega
        have hwb : w.heap.size < w4.heap.size := by omega
        have hgw : g4 ≠ w.heap.size := by omega
        have R4 := Lib.hid (R3.keep hb4)
        have X4 := Lib.hid (X3.keep hb4)
        have hbr4 := hbr2.trans (hb4.mono hbr2.size)
        have T4 := Lib.hid htx4
        clear hg4 htx4 hb4 R3 X3 hbr2 c2x hGl hb4s HS2
        go_wp2_with fail
        go_loopw [50] (fun i wr => ∃ (k : Nat) (v : Value), k ≤ n ∧ i = .int .i64 k ∧ Hid (wr.ownsRow w4.heap.size 41 2 v k (shsL (cutS p) (cutM p) k)) ∧ Hid (Blk wr G 28 #[.string na, .int .i64 m, .int .i64 r, .int .i64 d, v]) ∧ Hid (Blk wr w.heap.size 28 #[.string ⟨#[]⟩, .int .i64 0, .int .i64 0, .int .i64 0, .slice none 0 0]) ∧ Hid (TxAt wr g4 p) ∧ w4.heap.size ≤ wr.heap.size ∧ Below w.heap.size w wr) (fun i _ => n - (intOf i).toNat)
        case atStart => exact ⟨0, _, by omega, rfl, Lib.hid (World.ownsRow_nil _ _ _ _), X4, R4, T4, Nat.le_refl _, hbr4⟩
        case round =>
          clear X4 R4 T4 hbr4
          obtain ⟨k, v, hk, rfl, hown, hB, hZ, hT, hws, hbr⟩ := hrel
          by_cases hlt : k < n
          · obtain ⟨x, hx2, hxl⟩ := HP.out k hlt
            have e0 := hT.out.2 k x hx2
            obtain ⟨⟨u, v2, t⟩, huv⟩ : ∃ z, Lib.cut x [58] = z := ⟨_, rfl⟩
            have hS : tx u = cutS p k := by unfold cutS; rw [hx2, Option.getD_some, huv]
            have hM : numD v2 = cutM p k := by unfold cutM; rw [hx2, Option.getD_some, huv]
            have hzs := cut_size 58 x
            rw [huv] at hzs
            have hv2 : (tx v2).size ≤ 1048576 := by rw [tx_size]; exact Nat.le_trans hzs.2 hxl
            have hxs : (tx x).size ≤ 1048576 := by rw [tx_size]; exact hxl
            obtain ⟨su, hsu⟩ : ∃ su, tx u = su := ⟨_, rfl⟩
            obtain ⟨mk, hmk⟩ : ∃ mk, numD v2 = mk := ⟨_, rfl⟩
            obtain ⟨o2, ho2⟩ : ∃ o2, (numO v2).isSome = o2 := ⟨_, rfl⟩
            have HC := Lib.hid (fun W (hb : Below w.heap.size w W) => cut_ret (tx x) 58 u v2 t W hxs (HL.out.keep hb) (by rw [bl_tx]; exact huv))
            have HD := Lib.hid (fun W (hb : Below w.heap.size w W) => dec_ret (tx v2) mk o2 W hv2 (HL.out.keep hb) (by rw [bl_tx]; exact hmk) (by rw [bl_tx]; exact ho2))
            obtain ⟨nv, hnv⟩ : ∃ nv, tx v2 = nv := ⟨_, rfl⟩
            obtain ⟨nx, hnx⟩ : ∃ nx, tx x = nx := ⟨_, rfl⟩
            rw [hsu, hnv, hnx] at HC
            rw [hnv] at HD
            rw [hnx] at e0
            have HSU : Hid (su = cutS p k) := Lib.hid (hsu.symm.trans hS)
            have HMK : Hid (mk = cutM p k) := Lib.hid (hmk.symm.trans hM)
            clear hS hM hzs hsu hmk ho2 hnv hnx huv hx2 hxl hv2 hxs
            go_wp2_with fail
            go_at_call 29
            refine (HC.out _ hbr).mono ?_
            rintro e w5 ⟨rfl, hb5⟩
            have own5 := Lib.hid (own_keep hown.out hb5)
            have B5 := Lib.hid (hB.out.keep hb5)
            have Z5 := Lib.hid (hZ.out.keep hb5)
            have T5 := Lib.hid (hT.out.keep hb5 hT.out.1 hb5.size)
            have hbr5 := Lib.hid (hbr.trans (hb5.mono hbr.size))
            have hs5 := Nat.le_trans hws hb5.size
            clear hb5 hown hB hZ hT hbr hws e0 HC
            go_wp2_with fail
            go_at_call 30
            refine (HD.out _ hbr5.out).mono ?_
            rintro e w6 ⟨rfl, hb6⟩
            have own6 := Lib.hid (own_keep own5.out hb6)
            have B6 := Lib.hid (B5.out.keep hb6)
            have Z6 := Lib.hid (Z5.out.keep hb6)
            have T6 := Lib.hid (T5.out.keep hb6 T5.out.1 hb6.size)
            have hbr6 := Lib.hid (hbr5.out.trans (hb6.mono hbr5.out.size))
            have hs6 := Nat.le_trans hs5 hb6.size
            have HLT := Lib.hid (show ∀ z, v.ownBlock = some z → w4.heap.size ≤ z from fun z hz => (own6.out.lt z hz).1)
            have o6 := (B6.out.cell 4).trans rfl
            clear hb6 own5 B5 Z5 T5 hbr5 hs5 HD
            go_wp2_with (at_builtin; refine wpList_append_own _ rfl _ _ 26 rfl w4.heap.size 41 i0 (.agg #[.string ⟨#[]⟩, .int .i64 0]) 2 24 Tryz.underlying26 hi hz0 hz1 hz2 rfl (by decide) _ _ _ rfl (own6.out.alloc _) ⟨w6.heap.size, 0, none⟩ 1 1 [.string su, .int .i64 mk] rfl rfl (fun j u hj => by match j, hj with | 0, hj => simp at hj; subst hj; simp [Addr.add] | 1, hj => simp at hj; subst hj; simp [Addr.add]) (fun u hu => by simp at hu; rcases hu with rfl | rfl <;> rfl) (by unfold maxLen; omega) (by omega) (by simp; omega) ?_; intro v' w7 hown' hgrow _; rw [HSU.out, HMK.out, shsL_succ] at hown'; obtain ⟨g_, cap_, cur_, rfl, -⟩ := own_blk hown' (by omega); have HB7 := Lib.hid (app_blk hgrow HLT.out hGb B6.out); have HZ7 := Lib.hid (app_blk hgrow HLT.out hwb Z6.out); have HT7 := Lib.hid (app_tx hgrow HLT.out hgb T6.out); have hbr7 := Lib.hid ((hbr6.out.alloc hbr6.out.size _).grown hgrow (hbr6.out.alloc hbr6.out.size _).size (fun z hz => by have := HLT.out z hz; omega)); have hs7 := hgrow.size; (try simp only [World.alloc_size] at hs7); have hs7' : w4.heap.size ≤ w7.heap.size := Nat.le_trans (Nat.le_trans hs6 (Nat.le_succ _)) (by simpa using hs7); have o7 := (HB7.out.cell 4).trans rfl; have f7 := HB7.out.frozen 4; have l7 := HB7.out.lt; have HOWN := Lib.hid hown'; clear hown' hgrow hs7)
            go_roundw
            case rel => exact ⟨k + 1, .slice (some ⟨g_, 0, none⟩) (k + 1) cap_, by omega, by go_num, Lib.hid (own_storeR HOWN.out hGb _), Lib.hid (HB7.out.set_ 4 _), Lib.hid (HZ7.out.far (Nat.ne_of_lt hwG) _), Lib.hid (tx_far HT7.out hgG _), by simpa using hs7', hbr7.out.setCell (Nat.le_of_lt hwG) _⟩
            case measure => simp [intOf]; omega
          · obtain rfl : k = n := by omega
            obtain ⟨g7, c7, rfl, hg7, hrow7⟩ := shareRow_of hown.out (by omega)
            have HROW := Lib.hid hrow7
            have hne7 : g7 ≠ w.heap.size := by omega
            have HF7 := Lib.hid (show w.heap.size ≤ g7 by omega)
            clear hown hrow7 hT hg7 hgw hgG
            have x0 := (hB.out.cell 0).trans rfl
            have x1 := (hB.out.cell 1).trans rfl
            have x2 := (hB.out.cell 2).trans rfl
            have x3 := (hB.out.cell 3).trans rfl
            have x4 := (hB.out.cell 4).trans rfl
            rcases hx with ⟨q1, HNO⟩ | ⟨q1, HT⟩ | ⟨q1, HNE, HNO⟩
            all_goals
              go_wp2_with fail
              go_at_call 22
              refine (ValidBell_calls na m r d (some ⟨g7, 0, none⟩) k c7 (cutS p) (cutM p) _ HSZ.out HROW.out.row HSS.out (by omega)).mono ?_
              rintro e w8 ⟨rfl, hb8⟩
              rw [q1]
              have R8 := Lib.hid (hZ.out.keep hb8)
              have X8 := Lib.hid (hB.out.keep hb8)
              have HROW8 := Lib.hid (HROW.out.keep hb8)
              have HB8 := Lib.hid (hbr.trans (hb8.mono hbr.size))
              clear hb8 HROW x0 x1 x2 x3 x4
            · have hbz := HB8.out
              have y0 := (R8.out.cell 0).trans rfl
              have y1 := (R8.out.cell 1).trans rfl
              have y2 := (R8.out.cell 2).trans rfl
              have y3 := (R8.out.cell 3).trans rfl
              have y4 := (R8.out.cell 4).trans rfl
              have f0 := R8.out.frozen 0
              have f1 := R8.out.frozen 1
              have f2 := R8.out.frozen 2
              have f3 := R8.out.frozen 3
              have f4 := R8.out.frozen 4
              have hl := R8.out.lt
              go_wp2
              refine bodyPost_ret (v := .tuple #[.agg #[.string ⟨#[]⟩, .int .i64 0, .int .i64 0, .int .i64 0, .slice none 0 0], .bool false]) (by simp [results, Tryz.results7, go_sem, y0, y1, y2, y3, y4, hl]) rfl ?_
              refine bell_badR HNO.out ?_
              (repeat refine Below.setCell ?_ (Nat.le_refl w.heap.size) _)
              with_reducible exact hbz
            · have q3 : bellText na m r d k (cutS p) (cutM p) = s := by rw [bellText, if_pos q1]; exact HT.out
              have HTX := Lib.hid (BellText_calls na m r d (some ⟨g7, 0, none⟩) k c7 (cutS p) (cutM p) w8 HSZ.out HROW8.out.row HSS.out (by omega) (HL.out.keep HB8.out).1)
              rw [q3] at HTX
              clear q3
              have x0 := (X8.out.cell 0).trans rfl
              have x1 := (X8.out.cell 1).trans rfl
              have x2 := (X8.out.cell 2).trans rfl
              have x3 := (X8.out.cell 3).trans rfl
              have x4 := (X8.out.cell 4).trans rfl
              go_wp2_with fail
              go_at_call 8
              refine HTX.out.mono ?_
              rintro e w9 ⟨rfl, hb9⟩
              have R9 := R8.out.keep hb9
              have X9 := X8.out.keep hb9
              have HROW9 := HROW8.out.keep hb9
              have hbz := HB8.out.trans (hb9.mono HB8.out.size)
              clear hb9 R8 X8 HB8 x0 x1 x2 x3 x4 HTX
              have y0 := (R9.cell 0).trans rfl
              have y1 := (R9.cell 1).trans rfl
              have y2 := (R9.cell 2).trans rfl
              have y3 := (R9.cell 3).trans rfl
              have y4 := (R9.cell 4).trans rfl
              have f0 := R9.frozen 0
              have f1 := R9.frozen 1
              have f2 := R9.frozen 2
              have f3 := R9.frozen 3
              have f4 := R9.frozen 4
              have hl := R9.lt
              have x0 := (X9.cell 0).trans rfl
              have x1 := (X9.cell 1).trans rfl
              have x2 := (X9.cell 2).trans rfl
              have x3 := (X9.cell 3).trans rfl
              have x4 := (X9.cell 4).trans rfl
              go_wp2
              refine bodyPost_ret (v := .tuple #[.agg #[.string na, .int .i64 m, .int .i64 r, .int .i64 d, .slice (some ⟨g7, 0, none⟩) k c7], .bool true]) (by simp [results, Tryz.results7, go_sem, y0, y1, y2, y3, y4, hl]) rfl ?_
              refine bell_goodR (HROW9.same (by repeat rw [heap_far hne7])) HF7.out hn1 q1 HT.out ?_
              (repeat refine Below.setCell ?_ (Nat.le_refl w.heap.size) _)
              with_reducible exact hbz
            · obtain ⟨TT, hTT⟩ : ∃ TT, TT = bellT na m r d k (cutS p) (cutM p) := ⟨_, rfl⟩
              have q3 : bellText na m r d k (cutS p) (cutM p) = TT := by rw [bellText, if_pos q1, hTT]
              have HTX := Lib.hid (BellText_calls na m r d (some ⟨g7, 0, none⟩) k c7 (cutS p) (cutM p) w8 HSZ.out HROW8.out.row HSS.out (by omega) (HL.out.keep HB8.out).1)
              rw [q3] at HTX
              have q4 : (TT.toList == s.toList) = false := toList_ne (by rw [hTT]; exact HNE.out)
              clear q3 hTT HNE
              have x0 := (X8.out.cell 0).trans rfl
              have x1 := (X8.out.cell 1).trans rfl
              have x2 := (X8.out.cell 2).trans rfl
              have x3 := (X8.out.cell 3).trans rfl
              have x4 := (X8.out.cell 4).trans rfl
              go_wp2_with fail
              go_at_call 8
              refine HTX.out.mono ?_
              rintro e w9 ⟨rfl, hb9⟩
              have R9 := R8.out.keep hb9
              have hbz := HB8.out.trans (hb9.mono HB8.out.size)
              clear hb9 R8 X8 HB8 x0 x1 x2 x3 x4 HTX
              have y0 := (R9.cell 0).trans rfl
              have y1 := (R9.cell 1).trans rfl
              have y2 := (R9.cell 2).trans rfl
              have y3 := (R9.cell 3).trans rfl
              have y4 := (R9.cell 4).trans rfl
              have f0 := R9.frozen 0
              have f1 := R9.frozen 1
              have f2 := R9.frozen 2
              have f3 := R9.frozen 3
              have f4 := R9.frozen 4
              have hl := R9.lt
              go_wp2
              refine bodyPost_ret (v := .tuple #[.agg #[.string ⟨#[]⟩, .int .i64 0, .int .i64 0, .int .i64 0, .slice none 0 0], .bool false]) (by simp [results, Tryz.results7, go_sem, y0, y1, y2, y3, y4, hl]) rfl ?_
              refine bell_badR HNO.out ?_
              (repeat refine Below.setCell ?_ (Nat.le_refl w.heap.size) _)
              with_reducible exact hbz
  · have HNO := Lib.hid (bell_no1 (s := s) (by rw [hl]; exact h2))
    have h3 : ((l.length : Int) != 3) = true := by simp; omega
    have h4 : ((l.length : Int) == 3) = false := by apply beq_eq_false_iff_ne.2; omega
    clear hl
    go_enter Tryz.func7, Tryz.ntmps7
    go_wp2_with fail
    go_at_call 27
    refine (HS1.out _ HAL.out).mono ?_
    rintro e w1 ⟨g, cap, rfl, hg, htx, hb1⟩
    have R2 := HY.out.keep hb1
    have hbz := HAL.out.trans (hb1.mono HAL.out.size)
    clear htx hb1
    have y0 := (R2.cell 0).trans rfl
    have y1 := (R2.cell 1).trans rfl
    have y2 := (R2.cell 2).trans rfl
    have y3 := (R2.cell 3).trans rfl
    have y4 := (R2.cell 4).trans rfl
    have f0 := R2.frozen 0
    have f1 := R2.frozen 1
    have f2 := R2.frozen 2
    have f3 := R2.frozen 3
    have f4 := R2.frozen 4
    have hl := R2.lt
    go_wp2
    refine bodyPost_ret (v := .tuple #[.agg #[.string ⟨#[]⟩, .int .i64 0, .int .i64 0, .int .i64 0, .slice none 0 0], .bool false]) (by simp [results, Tryz.results7, go_sem, y0, y1, y2, y3, y4, hl]) rfl ?_
    refine bell_badR HNO.out ?_
    (repeat refine Below.setCell ?_ (Nat.le_refl w.heap.size) _)
    with_reducible exact hbz
end Go.Proofs.YticnpibkpfpojaaGreatDoor
