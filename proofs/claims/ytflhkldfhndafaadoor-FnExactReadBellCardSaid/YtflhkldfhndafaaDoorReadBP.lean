/- The bell that a text spells. No program in sight. -/
import Derived.Test.YtflhkldfhndafaaDoorReadP
import Derived.Test.YtflhkldfhndafaaDoorBellT
namespace Go.Proofs.YtflhkldfhndafaaDoor
set_option linter.unusedVariables false
open Go.RowKit
def shX (ss : Nat → ByteArray) (ms : Nat → Int) (i : Nat) : List UInt8 := bl (ss i) ++ 58 :: Lib.itoa (ms i)
def shP (ss : Nat → ByteArray) (ms : Nat → Int) (n : Nat) : List (List UInt8) := (List.range n).map (shX ss ms)
theorem shP_len (ss : Nat → ByteArray) (ms : Nat → Int) (n : Nat) : (shP ss ms n).length = n := by simp [shP]
theorem shP_at (ss : Nat → ByteArray) (ms : Nat → Int) {n i : Nat} (h : i < n) : (shP ss ms n)[i]? = some (shX ss ms i) := by simp [shP, h]
theorem shJ_bl (ss : Nat → ByteArray) (ms : Nat → Int) (n : Nat) : bl (shJ ss ms n) = Lib.join (shP ss ms n) [44] := by
  have : (shL ss ms n).map (·.data.toList) = shP ss ms n := by
    unfold shL shP
    rw [List.map_map]
    apply List.map_congr_left
    intro i _
    show bl (shT ss ms i) = _
    unfold shT shX
    rw [bl_app, bl_app, bl_one, bl_tx]
    simp
  unfold shJ
  rw [this]
theorem bellT_bl (s : ByteArray) (no ma fe : Int) (n : Nat) (ss : Nat → ByteArray) (ms : Nat → Int) : bl (bellT s no ma fe n ss ms) = bl s ++ 32 :: (lText [no, ma, fe] ++ 32 :: Lib.join (shP ss ms n) [44]) := by
  unfold bellT
  rw [bl_app, bl_app, bl_app, bl_app, bl_one, joinT_bl _ (by omega), shJ_bl, xs_l3]
  simp
theorem bell_names {s : ByteArray} {no ma fe : Int} {n : Nat} {ss : Nat → ByteArray} {ms : Nat → Int} (h : bellB s no ma fe n ss ms = true) : nameB s = true ∧ ∀ i, i < n → nameB (ss i) = true := by
  unfold bellB sharesB at h
  simp only [Bool.and_eq_true] at h
  refine ⟨h.2.1, fun i hi => ?_⟩
  have q := allB_of h.1 i hi
  unfold goodAt shareB at q
  simp only [Bool.and_eq_true] at q
  exact q.1.1
theorem bell_num {s : ByteArray} {no ma fe : Int} {n : Nat} {ss : Nat → ByteArray} {ms : Nat → Int} (h : bellB s no ma fe n ss ms = true) : (1 ≤ n ∧ n ≤ 4) ∧ lFits [no, ma, fe] ∧ ∀ i, i < n → numR (ms i) := by
  obtain ⟨-, h1, h2, h3⟩ := bell_rng h
  refine ⟨h1, ?_, fun i hi => ?_⟩
  · have := lFits_of (p := l3 no ma fe) (n := 3) (by omega) h2
    rwa [xs_l3] at this
  · have := h3 i hi
    exact ⟨by omega, by omega⟩
theorem shX_no {ss : Nat → ByteArray} {ms : Nat → Int} {i : Nat} (h : nameB (ss i) = true) {c : UInt8} (hc : c.toNat < 45 ∨ c.toNat = 46 ∨ c.toNat = 47) : c ∉ shX ss ms i := fun q => by
  unfold shX at q
  rcases List.mem_append.1 q with q | q
  · exact name_no h (by omega) q
  · rcases List.mem_cons.1 q with q | q
    · subst q
      revert hc
      decide
    · exact itoa_no (by omega) (by omega) q
theorem shJ_no {ss : Nat → ByteArray} {ms : Nat → Int} {n : Nat} (h : ∀ i, i < n → nameB (ss i) = true) : (32 : UInt8) ∉ Lib.join (shP ss ms n) [44] := fun q => by
  rcases join_mem q with q | ⟨l, hl, q⟩
  · revert q; decide
  · obtain ⟨i, hi, rfl⟩ := List.mem_map.1 hl
    exact shX_no (h i (List.mem_range.1 hi)) (by decide) q
theorem bell_split {s : ByteArray} {no ma fe : Int} {n : Nat} {ss : Nat → ByteArray} {ms : Nat → Int} (h : bellB s no ma fe n ss ms = true) : splC 32 (bl (bellT s no ma fe n ss ms)) = [bl s, lText [no, ma, fe], Lib.join (shP ss ms n) [44]] := by
  obtain ⟨h1, h2⟩ := bell_names h
  rw [bellT_bl, splC_app (name_no h1 (by decide)), splC_app (lText_no _ (by decide) (by decide) (by decide)), splC_none (shJ_no h2)]
theorem bell_split2 {s : ByteArray} {no ma fe : Int} {n : Nat} {ss : Nat → ByteArray} {ms : Nat → Int} (h : bellB s no ma fe n ss ms = true) : splC 44 (Lib.join (shP ss ms n) [44]) = shP ss ms n := by
  obtain ⟨-, h2⟩ := bell_names h
  obtain ⟨⟨h3, -⟩, -⟩ := bell_num h
  have hm : ∀ y ∈ shP ss ms n, (44 : UInt8) ∉ y := fun y hy => by
    obtain ⟨i, hi, rfl⟩ := List.mem_map.1 hy
    exact shX_no (h2 i (List.mem_range.1 hi)) (by decide)
  have hl := shP_len ss ms n
  cases hp : shP ss ms n with
  | nil => rw [hp] at hl; simp at hl; omega
  | cons x r => rw [hp] at hm; exact splC_join hm
theorem share_split {ss : Nat → ByteArray} {ms : Nat → Int} {i : Nat} (h : nameB (ss i) = true) : splC 58 (shX ss ms i) = [bl (ss i), Lib.itoa (ms i)] := by
  unfold shX
  rw [splC_app (name_no h (by decide)), splC_none (itoa_no (by decide) (by decide))]
theorem share_cut {ss : Nat → ByteArray} {ms : Nat → Int} {i : Nat} (h : nameB (ss i) = true) : Lib.cut (shX ss ms i) [58] = (bl (ss i), Lib.itoa (ms i), true) := by
  unfold shX
  rw [cut_app (name_no h (by decide))]
def noBell (s : ByteArray) : Prop := ∀ id no ma fe n ss ms, bellB id no ma fe n ss ms = true → bellT id no ma fe n ss ms ≠ s
/-- what two readers must agree on -/
theorem bell_inj {s1 s2 : ByteArray} {o1 o2 a1 a2 f1 f2 : Int} {n1 n2 : Nat} {ss1 ss2 : Nat → ByteArray} {ms1 ms2 : Nat → Int} (h1 : bellB s1 o1 a1 f1 n1 ss1 ms1 = true) (h2 : bellB s2 o2 a2 f2 n2 ss2 ms2 = true) (h : bellT s1 o1 a1 f1 n1 ss1 ms1 = bellT s2 o2 a2 f2 n2 ss2 ms2) :
    s1 = s2 ∧ o1 = o2 ∧ a1 = a2 ∧ f1 = f2 ∧ n1 = n2 ∧ ∀ i, i < n1 → ss1 i = ss2 i ∧ ms1 i = ms2 i := by
  have e1 := bell_split h1
  rw [h, bell_split h2] at e1
  obtain ⟨e2, e3⟩ := List.cons.inj e1
  obtain ⟨e4, e5⟩ := List.cons.inj e3
  have e6 := (List.cons.inj e5).1
  have e7 := lText_inj e4
  have e8 := bell_split2 h1
  rw [← e6, bell_split2 h2] at e8
  have e9 : n1 = n2 := by
    have := congrArg List.length e8
    rw [shP_len, shP_len] at this
    omega
  subst e9
  injection e7 with q1 q2
  injection q2 with q2 q3
  injection q3 with q3 _
  refine ⟨ba_eq e2.symm, q1.symm, q2.symm, q3.symm, rfl, fun i hi => ?_⟩
  have r1 := shP_at ss1 ms1 hi
  rw [← e8, shP_at ss2 ms2 hi] at r1
  have r2 : shX ss2 ms2 i = shX ss1 ms1 i := by simpa using r1
  have r3 := share_split (ms := ms1) ((bell_names h1).2 i hi)
  rw [← r2, share_split ((bell_names h2).2 i hi)] at r3
  obtain ⟨r4, r5⟩ := List.cons.inj r3
  exact ⟨ba_eq r4.symm, (itoa_inj (List.cons.inj r5).1).symm⟩
/-- the program's road -/
def cutS (ps : List (List UInt8)) (i : Nat) : ByteArray := tx (Lib.cut ((ps[i]?).getD []) [58]).1
noncomputable def cutM (ps : List (List UInt8)) (i : Nat) : Int := numD (Lib.cut ((ps[i]?).getD []) [58]).2.1
theorem allB_eq {p q : Nat → Bool} : ∀ {n : Nat}, (∀ i, i < n → p i = q i) → allB p n = allB q n
  | 0, _ => rfl
  | n + 1, h => by
    show (allB p n && p n) = (allB q n && q n)
    rw [allB_eq (n := n) (fun i hi => h i (by omega)), h n (by omega)]
theorem sumI_eq {p q : Nat → Int} : ∀ {n : Nat}, (∀ i, i < n → p i = q i) → sumI p n = sumI q n
  | 0, _ => rfl
  | n + 1, h => by
    have ih := sumI_eq (p := p) (q := q) (n := n) (fun i hi => h i (by omega))
    have hn := h n (by omega)
    simp only [sumI, ih, hn]
theorem bellB_eq {s : ByteArray} {no ma fe : Int} {n : Nat} {ss1 ss2 : Nat → ByteArray} {ms1 ms2 : Nat → Int} (h : ∀ i, i < n → ss1 i = ss2 i ∧ ms1 i = ms2 i) : bellB s no ma fe n ss1 ms1 = bellB s no ma fe n ss2 ms2 := by
  unfold bellB sharesB
  rw [sumI_eq (fun i hi => (h i hi).2)]
  congr 1
  refine allB_eq fun i hi => ?_
  unfold goodAt
  show (shareB (ss1 i) (ms1 i) && _) = (shareB (ss2 i) (ms2 i) && _)
  rw [(h i hi).1, (h i hi).2]
  rcases Nat.eq_zero_or_pos i with rfl | h0
  · rfl
  · rw [(h (i - 1) (by omega)).1]
theorem bellT_eq {s : ByteArray} {no ma fe : Int} {n : Nat} {ss1 ss2 : Nat → ByteArray} {ms1 ms2 : Nat → Int} (h : ∀ i, i < n → ss1 i = ss2 i ∧ ms1 i = ms2 i) : bellT s no ma fe n ss1 ms1 = bellT s no ma fe n ss2 ms2 := by
  apply ba_eq
  show bl _ = bl _
  rw [bellT_bl, bellT_bl]
  have e : shP ss1 ms1 n = shP ss2 ms2 n := by
    unfold shP
    apply List.map_congr_left
    intro i hi
    unfold shX
    rw [(h i (List.mem_range.1 hi)).1, (h i (List.mem_range.1 hi)).2]
  rw [e]
theorem bell_cand {s id : ByteArray} {no ma fe : Int} {n : Nat} {ss : Nat → ByteArray} {ms : Nat → Int} (h : bellB id no ma fe n ss ms = true) (ht : bellT id no ma fe n ss ms = s) :
    ∃ a b c, splC 32 (bl s) = [a, b, c] ∧ tx a = id ∧ listO b = some [no, ma, fe] ∧ (splC 44 c).length = n ∧ ∀ i, i < n → cutS (splC 44 c) i = ss i ∧ cutM (splC 44 c) i = ms i := by
  obtain ⟨-, n2, n3⟩ := bell_num h
  refine ⟨_, _, _, by rw [← ht]; exact bell_split h, tx_bl id, listO_some.2 ⟨n2, rfl⟩, by rw [bell_split2 h, shP_len], fun i hi => ?_⟩
  unfold cutS cutM
  rw [bell_split2 h, shP_at ss ms hi, Option.getD_some, share_cut ((bell_names h).2 i hi)]
  exact ⟨tx_bl _, numD_itoa (n3 i hi)⟩
theorem bell_no1 {s : ByteArray} (h : (splC 32 (bl s)).length ≠ 3) : noBell s := fun id no ma fe n ss ms q1 q2 => by
  obtain ⟨a, b, c, e, -⟩ := bell_cand q1 q2
  rw [e] at h
  exact h rfl
theorem bell_no2 {s : ByteArray} {a b c : List UInt8} (h1 : splC 32 (bl s) = [a, b, c]) (h : ∀ no ma fe, listO b ≠ some [no, ma, fe]) : noBell s := fun id no ma fe n ss ms q1 q2 => by
  obtain ⟨a2, b2, c2, e, -, e2, -⟩ := bell_cand q1 q2
  rw [h1] at e
  injection e with _ e
  injection e with e _
  rw [← e] at e2
  exact h _ _ _ e2
theorem bell_no3 {s : ByteArray} {a b c : List UInt8} {no ma fe : Int} (h1 : splC 32 (bl s) = [a, b, c]) (h2 : listO b = some [no, ma, fe]) (h : bellB (tx a) no ma fe (splC 44 c).length (cutS (splC 44 c)) (cutM (splC 44 c)) = false ∨ bellT (tx a) no ma fe (splC 44 c).length (cutS (splC 44 c)) (cutM (splC 44 c)) ≠ s) : noBell s := fun id o2 m2 f2 n ss ms q1 q2 => by
  obtain ⟨a2, b2, c2, e, e1, e2, e3, e4⟩ := bell_cand q1 q2
  rw [h1] at e
  injection e with d1 e
  injection e with d2 e
  injection e with d3 _
  subst d1 d2 d3
  rw [h2] at e2
  have e5 := Option.some.inj e2
  injection e5 with g1 g2
  injection g2 with g2 g3
  injection g3 with g3 _
  subst g1 g2 g3 e1 e3
  rw [bellB_eq e4, bellT_eq e4] at h
  rcases h with h | h
  · rw [q1] at h; cases h
  · exact h q2
/-- the reference's road -/
theorem bell_no4 {s : ByteArray} {a b c p : List UInt8} {i : Nat} (h1 : splC 32 (bl s) = [a, b, c]) (h2 : (splC 44 c)[i]? = some p) (h : (splC 58 p).length ≠ 2 ∨ ∃ x y, splC 58 p = [x, y] ∧ numO y = none) : noBell s := fun id no ma fe n ss ms q1 q2 => by
  obtain ⟨-, -, n3⟩ := bell_num q1
  rw [← q2, bell_split q1] at h1
  injection h1 with d1 e
  injection e with d2 e
  injection e with d3 _
  subst d3
  rw [bell_split2 q1] at h2
  have hi : i < n := by
    have := (List.getElem?_eq_some_iff.1 h2).1
    rwa [shP_len] at this
  rw [shP_at ss ms hi] at h2
  have h3 := Option.some.inj h2
  rw [← h3, share_split ((bell_names q1).2 i hi)] at h
  rcases h with h | ⟨x, y, h4, h5⟩
  · exact h rfl
  · injection h4 with d4 e
    injection e with d5 _
    rw [← d5, numO_itoa (n3 i hi)] at h5
    cases h5
theorem cut_two {p x y : List UInt8} (h : splC 58 p = [x, y]) : Lib.cut p [58] = (x, y, true) := by
  obtain ⟨rfl, h1, -⟩ := splC_two h
  exact cut_app h1
/-- .. where both agree on a part -/
theorem cut_same {ps : List (List UInt8)} {i : Nat} {p x y : List UInt8} {m : Int} (h1 : ps[i]? = some p) (h2 : splC 58 p = [x, y]) (h3 : numO y = some m) : cutS ps i = tx x ∧ cutM ps i = m := by
  unfold cutS cutM
  rw [h1, Option.getD_some, cut_two h2]
  exact ⟨rfl, numD_some h3⟩
theorem bell_yes {s : ByteArray} {a b c : List UInt8} {no ma fe : Int} (h1 : splC 32 (bl s) = [a, b, c]) (h2 : listO b = some [no, ma, fe]) (h : ∀ i, i < (splC 44 c).length → ∃ p x y m, (splC 44 c)[i]? = some p ∧ splC 58 p = [x, y] ∧ numO y = some m) : bellT (tx a) no ma fe (splC 44 c).length (cutS (splC 44 c)) (cutM (splC 44 c)) = s := by
  apply ba_eq
  show bl _ = bl _
  have e : shP (cutS (splC 44 c)) (cutM (splC 44 c)) (splC 44 c).length = splC 44 c := by
    apply List.ext_getElem?
    intro i
    by_cases hi : i < (splC 44 c).length
    · obtain ⟨p, x, y, m, q1, q2, q3⟩ := h i hi
      rw [shP_at _ _ hi, q1]
      obtain ⟨r1, r2⟩ := cut_same q1 q2 q3
      unfold shX
      rw [r1, r2, bl_tx, (numO_some q3).2, (splC_two q2).1]
    · rw [List.getElem?_eq_none (by rw [shP_len]; omega), List.getElem?_eq_none (by omega)]
  rw [bellT_bl, e, join_splC, bl_tx, (listO_some.1 h2).2, (splC_three h1).1]
end Go.Proofs.YtflhkldfhndafaaDoor
