/- Texts cut at a byte, lists of numbers as texts and back. No program in sight. -/
import Derived.Test.YtflhkldfhndafaaGreatDoorNumT
import Derived.Lib.Split
import Derived.Lib.SplitLaws
import Derived.Lib.CutLaws
import Derived.Lib.Join
namespace Go.Proofs.YtflhkldfhndafaaGreatDoor
set_option linter.unusedVariables false
open Go.Lib
/-- the parts of a text between the bytes c -/
def splC (c : UInt8) : List UInt8 → List (List UInt8)
  | [] => [[]]
  | b :: r => if b = c then [] :: splC c r else match splC c r with | [] => [[b]] | h :: t => (b :: h) :: t
theorem splC_ne (c : UInt8) (l : List UInt8) : splC c l ≠ [] := by
  cases l with
  | nil => simp [splC]
  | cons b r =>
    unfold splC
    split
    · simp
    · split <;> simp
theorem splC_app {c : UInt8} {a r : List UInt8} (h : c ∉ a) : splC c (a ++ c :: r) = a :: splC c r := by
  induction a with
  | nil => simp [splC]
  | cons b a ih =>
    have hb : ¬ b = c := fun e => h (by simp [e])
    have e := ih (fun q => h (List.mem_cons_of_mem _ q))
    simp only [List.cons_append, splC, if_neg hb, e]
theorem splC_none {c : UInt8} {a : List UInt8} (h : c ∉ a) : splC c a = [a] := by
  induction a with
  | nil => rfl
  | cons b a ih =>
    have hb : ¬ b = c := fun e => h (by simp [e])
    have e := ih (fun q => h (List.mem_cons_of_mem _ q))
    simp only [splC, if_neg hb, e]
theorem cut_cases (c : UInt8) (l : List UInt8) : c ∉ l ∨ ∃ a r, l = a ++ c :: r ∧ c ∉ a := by
  induction l with
  | nil => exact Or.inl (by simp)
  | cons b l ih =>
    by_cases hb : b = c
    · exact Or.inr ⟨[], l, by simp [hb], by simp⟩
    · rcases ih with h | ⟨a, r, e, h⟩
      · exact Or.inl (by simp only [List.mem_cons, not_or]; exact ⟨fun q => hb q.symm, h⟩)
      · exact Or.inr ⟨b :: a, r, by rw [e]; rfl, by simp only [List.mem_cons, not_or]; exact ⟨fun q => hb q.symm, h⟩⟩
theorem index_app {c : UInt8} {a r : List UInt8} (h : c ∉ a) : index (a ++ c :: r) [c] = (a.length : Int) := by
  induction a with
  | nil => simp [index, List.isPrefixOf]
  | cons b a ih =>
    have hb : ¬ c = b := fun e => h (by simp [e])
    have e := ih (fun q => h (List.mem_cons_of_mem _ q))
    have hp : ([c] : List UInt8).isPrefixOf (b :: (a ++ c :: r)) = false := by simp [List.isPrefixOf, hb]
    have hm : ((a.length : Int) == -1) = false := by rw [beq_eq_false_iff_ne]; omega
    rw [List.cons_append, index, hp, e, hm]
    simp
theorem index_no {c : UInt8} {a : List UInt8} (h : c ∉ a) : index a [c] = -1 := by
  induction a with
  | nil => simp [index]
  | cons b a ih =>
    have hb : ¬ c = b := fun e => h (by simp [e])
    have e := ih (fun q => h (List.mem_cons_of_mem _ q))
    have hp : ([c] : List UInt8).isPrefixOf (b :: a) = false := by simp [List.isPrefixOf, hb]
    rw [index, hp, e]
    simp
theorem cut_app {c : UInt8} {a r : List UInt8} (h : c ∉ a) : cut (a ++ c :: r) [c] = (a, r, true) := by
  unfold cut
  rw [index_app h, if_pos (by omega)]
  simp
theorem cut_no {c : UInt8} {a : List UInt8} (h : c ∉ a) : cut a [c] = (a, [], false) := by
  unfold cut
  rw [index_no h, if_neg (by omega)]
theorem split_eq (c : UInt8) (l : List UInt8) : splitK [c] 0 (l.count c) l = splC c l := by
  induction hn : l.length using Nat.strongRecOn generalizing l with
  | ind n ih =>
    rcases cut_cases c l with h | ⟨a, r, rfl, h⟩
    · rw [List.count_eq_zero.2 h, splC_none h]
      rfl
    · have hc : (a ++ c :: r).count c = r.count c + 1 := by
        rw [List.count_append, List.count_eq_zero.2 h, List.count_cons_self]
        omega
      have hm : ¬ (((a.length : Int) == -1) = true) := by simp <;> omega
      rw [hc, splitK, index_app h, if_neg hm, splC_app h]
      have := ih r.length (by rw [← hn]; simp; omega) r rfl
      simpa using this
theorem splC_one {c : UInt8} {l w : List UInt8} (h : splC c l = [w]) : w = l ∧ c ∉ l := by
  rcases cut_cases c l with h1 | ⟨a, r, rfl, h1⟩
  · rw [splC_none h1] at h
    exact ⟨by simpa using h.symm, h1⟩
  · rw [splC_app h1] at h
    have h2 : splC c r = [] := by simpa using (List.cons.inj h).2
    exact absurd h2 (splC_ne c r)
theorem splC_two {c : UInt8} {l v w : List UInt8} (h : splC c l = [v, w]) : l = v ++ c :: w ∧ c ∉ v ∧ c ∉ w := by
  rcases cut_cases c l with h1 | ⟨a, r, rfl, h1⟩
  · rw [splC_none h1] at h
    have := congrArg List.length h
    simp at this
  · rw [splC_app h1] at h
    obtain ⟨e1, e2⟩ := List.cons.inj h
    obtain ⟨rfl, h3⟩ := splC_one e2
    subst e1
    exact ⟨rfl, h1, h3⟩
theorem splC_three {c : UInt8} {l u v w : List UInt8} (h : splC c l = [u, v, w]) : l = u ++ c :: (v ++ c :: w) ∧ c ∉ u ∧ c ∉ v ∧ c ∉ w := by
  rcases cut_cases c l with h1 | ⟨a, r, rfl, h1⟩
  · rw [splC_none h1] at h
    have := congrArg List.length h
    simp at this
  · rw [splC_app h1] at h
    obtain ⟨e1, e2⟩ := List.cons.inj h
    obtain ⟨rfl, h3, h4⟩ := splC_two e2
    subst e1
    exact ⟨rfl, h1, h3, h4⟩
theorem joinTail_cons (sep x : List UInt8) (r : List (List UInt8)) : joinTail sep (x :: r) = sep ++ x ++ joinTail sep r := by simp [joinTail]
theorem splC_join {c : UInt8} : ∀ {r : List (List UInt8)} {x : List UInt8}, (∀ y ∈ x :: r, c ∉ y) → splC c (join (x :: r) [c]) = x :: r
  | [], x, h => by rw [join_one, splC_none (h x (by simp))]
  | y :: r, x, h => by
    have ih := splC_join (r := r) (x := y) (fun z hz => h z (List.mem_cons_of_mem _ hz))
    rw [join_cons, joinTail_cons, show x ++ ([c] ++ y ++ joinTail [c] r) = x ++ c :: (y ++ joinTail [c] r) by simp, splC_app (h x (by simp)), ← join_cons, ih]
theorem join_splC (c : UInt8) (l : List UInt8) : join (splC c l) [c] = l := by
  induction hn : l.length using Nat.strongRecOn generalizing l with
  | ind n ih =>
    rcases cut_cases c l with h | ⟨a, r, rfl, h⟩
    · rw [splC_none h, join_one]
    · have e := ih r.length (by rw [← hn]; simp; omega) r rfl
      rw [splC_app h, join_cons]
      cases hs : splC c r with
      | nil => exact absurd hs (splC_ne c r)
      | cons x t =>
        rw [hs, join_cons] at e
        rw [joinTail_cons]
        simp [← e]
theorem splC_mem {c : UInt8} {l : List UInt8} : ∀ x ∈ splC c l, c ∉ x := by
  induction hn : l.length using Nat.strongRecOn generalizing l with
  | ind n ih =>
    rcases cut_cases c l with h | ⟨a, r, rfl, h⟩
    · rw [splC_none h]
      intro x hx
      obtain rfl : x = l := by simpa using hx
      exact h
    · have e := ih r.length (by rw [← hn]; simp; omega) (l := r) rfl
      rw [splC_app h]
      intro x hx
      rcases List.mem_cons.1 hx with rfl | hx
      · exact h
      · exact e x hx
theorem itoa_mem {n : Int} {b : UInt8} (h : b ∈ itoa n) : b.toNat = 45 ∨ (48 ≤ b.toNat ∧ b.toNat ≤ 57) := by
  rcases itoa_cases n with ⟨_, u, rfl, e⟩ | ⟨_, u, hu, rfl, e⟩
  · rw [e] at h
    exact Or.inr (digits_byte u b h)
  · rw [e] at h
    rcases List.mem_cons.1 h with rfl | h
    · exact Or.inl rfl
    · exact Or.inr (digits_byte u b h)
theorem itoa_no {n : Int} {c : UInt8} (h1 : c.toNat ≠ 45) (h2 : c.toNat < 48 ∨ 57 < c.toNat) : c ∉ itoa n := fun h => by
  have := itoa_mem h
  omega
theorem itoa_ne (n : Int) : itoa n ≠ [] := by
  rcases itoa_cases n with ⟨_, u, rfl, e⟩ | ⟨_, u, hu, rfl, e⟩
  · rw [e]; exact decDigits_ne u
  · rw [e]; simp
theorem itoa_inj {a b : Int} (h : itoa a = itoa b) : a = b := by
  have := atoi_itoa a
  rw [h, atoi_itoa] at this
  simpa using this.symm
theorem itoa_dash {n : Int} : itoa n ≠ [45] := fun h => by
  rcases itoa_cases n with ⟨_, u, rfl, e⟩ | ⟨_, u, hu, rfl, e⟩
  · rw [e] at h
    have := digits_byte u 45 (by rw [h]; simp)
    have e45 : (45 : UInt8).toNat = 45 := rfl
    omega
  · rw [e] at h
    have h2 : decDigits u = [] := by simpa using h
    exact decDigits_ne u h2
/-- the numbers of a list, as text -/
def lText (xs : List Int) : List UInt8 := if xs = [] then [45] else join (xs.map itoa) [44]
def lFits (xs : List Int) : Prop := xs.length ≤ 64 ∧ ∀ x ∈ xs, -1000000000000 ≤ x ∧ x ≤ 1000000000000
/-- the list of which a text is the text, if there is one -/
noncomputable def listO (l : List UInt8) : Option (List Int) := @dite _ (∃ xs, lFits xs ∧ lText xs = l) (Classical.propDecidable _) (fun h => some h.choose) (fun _ => none)
theorem lText_parts {xs : List Int} (h : xs ≠ []) : splC 44 (lText xs) = xs.map itoa := by
  unfold lText
  rw [if_neg h]
  cases xs with
  | nil => exact absurd rfl h
  | cons x r =>
    rw [List.map_cons]
    refine splC_join fun y hy => ?_
    have : ∃ z, y = itoa z := by
      rw [← List.map_cons] at hy
      obtain ⟨z, -, rfl⟩ := List.mem_map.1 hy
      exact ⟨z, rfl⟩
    obtain ⟨z, rfl⟩ := this
    exact itoa_no (by decide) (by decide)
theorem map_itoa_inj : ∀ {xs ys : List Int}, xs.map itoa = ys.map itoa → xs = ys
  | [], [], _ => rfl
  | [], _ :: _, h => by simp at h
  | _ :: _, [], h => by simp at h
  | x :: xs, y :: ys, h => by
    rw [List.map_cons, List.map_cons] at h
    obtain ⟨h1, h2⟩ := List.cons.inj h
    rw [itoa_inj h1, map_itoa_inj h2]
theorem lText_dash {xs : List Int} (h : lText xs = [45]) : xs = [] := by
  by_cases h0 : xs = []
  · exact h0
  · exfalso
    have e := lText_parts h0
    rw [h, splC_none (by decide)] at e
    cases xs with
    | nil => exact h0 rfl
    | cons x r =>
      rw [List.map_cons] at e
      exact itoa_dash (List.cons.inj e).1.symm
theorem lText_inj {xs ys : List Int} (h : lText xs = lText ys) : xs = ys := by
  by_cases h1 : xs = []
  · subst h1
    exact (lText_dash (by rw [← h]; rfl)).symm
  · by_cases h2 : ys = []
    · subst h2
      exact lText_dash (by rw [h]; rfl)
    · have e1 := lText_parts h1
      rw [h, lText_parts h2] at e1
      exact (map_itoa_inj e1).symm
theorem listO_some {l : List UInt8} {xs : List Int} : listO l = some xs ↔ lFits xs ∧ lText xs = l := by
  unfold listO
  constructor
  · intro h
    split at h
    · rename_i hq
      obtain rfl : hq.choose = xs := by simpa using h
      exact hq.choose_spec
    · cases h
  · rintro ⟨h1, h2⟩
    have hq : ∃ xs, lFits xs ∧ lText xs = l := ⟨xs, h1, h2⟩
    rw [dif_pos hq]
    congr 1
    exact lText_inj (hq.choose_spec.2.trans h2.symm)
theorem listO_none {l : List UInt8} (h : ∀ xs, lFits xs → lText xs ≠ l) : listO l = none := by
  cases e : listO l with
  | none => rfl
  | some xs =>
    obtain ⟨h1, h2⟩ := listO_some.1 e
    exact absurd h2 (h xs h1)
theorem listO_dash : listO [45] = some [] := listO_some.2 ⟨⟨by simp, by simp⟩, rfl⟩
/-- .. by its parts -/
theorem listO_parts {l : List UInt8} {xs : List Int} (h0 : l ≠ [45]) (h : listO l = some xs) : xs ≠ [] ∧ splC 44 l = xs.map itoa := by
  obtain ⟨h1, h2⟩ := listO_some.1 h
  have hne : xs ≠ [] := by
    rintro rfl
    exact h0 h2.symm
  exact ⟨hne, by rw [← h2, lText_parts hne]⟩
theorem listO_long {l : List UInt8} (h0 : l ≠ [45]) (h : 64 < (splC 44 l).length) : listO l = none := by
  cases e : listO l with
  | none => rfl
  | some xs =>
    obtain ⟨h1, h2⟩ := listO_parts h0 e
    have := (listO_some.1 e).1.1
    rw [h2, List.length_map] at h
    omega
theorem numR_of {x : Int} (h : -1000000000000 ≤ x ∧ x ≤ 1000000000000) : numR x := ⟨by omega, by omega⟩
theorem listO_bad {l q : List UInt8} (h0 : l ≠ [45]) (hq : q ∈ splC 44 l) (h : ∀ x, numO q = some x → ¬ (-1000000000000 ≤ x ∧ x ≤ 1000000000000)) : listO l = none := by
  cases e : listO l with
  | none => rfl
  | some xs =>
    obtain ⟨h1, h2⟩ := listO_parts h0 e
    rw [h2] at hq
    obtain ⟨x, hx, rfl⟩ := List.mem_map.1 hq
    have hr := (listO_some.1 e).1.2 x hx
    exact absurd hr (h x (numO_itoa (numR_of hr)))
theorem listO_good {l : List UInt8} {xs : List Int} (h0 : l ≠ [45]) (hx : splC 44 l = xs.map itoa) (hf : lFits xs) : listO l = some xs := by
  refine listO_some.2 ⟨hf, ?_⟩
  have hne : xs ≠ [] := by
    rintro rfl
    exact splC_ne _ _ hx
  unfold lText
  rw [if_neg hne, ← hx, join_splC]
/-- the number of a text, 0 if there is none -/
noncomputable def numD (l : List UInt8) : Int := (numO l).getD 0
/-- the program's road: the parts' numbers, written again -/
theorem listO_again {l : List UInt8} (h0 : l ≠ [45]) : (listO l = some ((splC 44 l).map numD)) ∨ (listO l = none ∧ (lFits ((splC 44 l).map numD) → lText ((splC 44 l).map numD) ≠ l)) := by
  cases e : listO l with
  | none =>
    refine Or.inr ⟨rfl, fun h1 h2 => ?_⟩
    rw [listO_some.2 ⟨h1, h2⟩] at e
    cases e
  | some xs =>
    refine Or.inl ?_
    obtain ⟨h1, h2⟩ := listO_parts h0 e
    rw [h2, List.map_map]
    congr 1
    have hf := (listO_some.1 e).1.2
    clear e h2 h1
    induction xs with
    | nil => rfl
    | cons x r ih =>
      rw [List.map_cons, ← ih (fun y hy => hf y (List.mem_cons_of_mem _ hy))]
      congr 1
      show x = numD (itoa x)
      unfold numD
      rw [numO_itoa (numR_of (hf x (by simp)))]
      rfl
end Go.Proofs.YtflhkldfhndafaaGreatDoor
