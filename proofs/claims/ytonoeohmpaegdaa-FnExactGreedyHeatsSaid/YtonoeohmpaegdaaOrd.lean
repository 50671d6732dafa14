/- The order in which a stable sort by one key puts 0, 1, .., n - 1: the one that rises by the key and then by the number. No program in sight. -/
import Derived.Sort.LotA
namespace Go.Proofs.Ytonoeohmpaegdaa
set_option linter.unusedVariables false
open Go.Sort
def dueLt (d : Nat → Int) (x y : Int) : Bool := decide (d x.toNat < d y.toNat)
def lexLt (d : Nat → Int) (x y : Int) : Bool := decide (d x.toNat < d y.toNat ∨ (d x.toNat = d y.toNat ∧ x < y))
theorem lexLt_iff {d : Nat → Int} {x y : Int} : lexLt d x y = true ↔ d x.toNat < d y.toNat ∨ (d x.toNat = d y.toNat ∧ x < y) := by simp [lexLt]
theorem lexLt_not {d : Nat → Int} {x y : Int} : lexLt d x y = false ↔ ¬ (d x.toNat < d y.toNat ∨ (d x.toNat = d y.toNat ∧ x < y)) := by rw [lexLt]; exact decide_eq_false_iff_not
theorem lex_swo (d : Nat → Int) : SWO (lexLt d) where
  irrefl x := by rw [lexLt_not]; omega
  trans x y z h1 h2 := by
    rw [lexLt_iff] at *
    omega
  ntrans x y z h1 h2 := by
    rw [lexLt_not] at *
    omega
theorem inner_same (d : Nat → Int) : ∀ (j : Nat) (A : Array Int), j < A.size → (∀ k, k < j → A[k]! < A[j]!) → insInner (dueLt d) 0 j A = insInner (lexLt d) 0 j A
  | 0, A, _, _ => rfl
  | j + 1, A, hj, h => by
    have hc : dueLt d A[j + 1]! A[j]! = lexLt d A[j + 1]! A[j]! := by
      have h0 := h j (by omega)
      unfold dueLt lexLt
      rw [decide_eq_decide]
      omega
    have hL := swp_left A (j + 1) j (by omega) (by omega)
    have hR := swp_right A (j + 1) j (by omega)
    have ih := inner_same d j (swp A (j + 1) j) (by rw [size_swp]; omega) (fun k hk => by
      rw [hR, swp_other A (j + 1) j k (by omega) (by omega)]
      exact h k (by omega))
    unfold insInner
    rw [hc, ih]
theorem inner_perm (lt : Int → Int → Bool) (b : Nat) : ∀ (j : Nat) (A : Array Int), j < b → b ≤ A.size → PermIn 0 b A (insInner lt 0 j A)
  | 0, A, _, _ => by unfold insInner; exact permIn_refl A 0 b
  | j + 1, A, hj, hb => by
    unfold insInner
    split
    · exact permIn_trans _ _ _ 0 b (swp_permIn A 0 b (j + 1) j (by omega) (by omega) (by omega) (by omega) hb) (inner_perm lt b j (swp A (j + 1) j) (by omega) (by rw [size_swp]; exact hb))
    · exact permIn_refl A 0 b
theorem outer_same (d : Nat → Int) (n : Nat) : ∀ (q i : Nat) (A : Array Int), n - i = q → A.size = n → (∀ k, i ≤ k → k < n → A[k]! = (k : Int)) → (∀ k, k < i → k < n → 0 ≤ A[k]! ∧ A[k]! < (i : Int)) → insOuter (dueLt d) 0 n i A = insOuter (lexLt d) 0 n i A
  | 0, i, A, hq, _, _, _ => by
    have e : ∀ lt : Int → Int → Bool, insOuter lt 0 n i A = A := fun lt => by rw [insOuter, if_neg (by omega)]
    rw [e, e]
  | q + 1, i, A, hq, hs, h1, h2 => by
    have e : insInner (dueLt d) 0 i A = insInner (lexLt d) 0 i A := inner_same d i A (by omega) (fun k hk => by
      rw [h1 i (Nat.le_refl _) (by omega)]
      exact (h2 k hk (by omega)).2)
    have hp := inner_perm (lexLt d) (i + 1) i A (by omega) (by omega)
    have ih := outer_same d n q (i + 1) (insInner (lexLt d) 0 i A) (by omega) (by rw [hp.1]; exact hs) (fun k hk hn => by
      rw [hp.2.1 k (by omega)]
      exact h1 k (by omega) hn) (fun k hk hn => permIn_all A _ 0 (i + 1) (fun x => 0 ≤ x ∧ x < ((i + 1 : Nat) : Int)) (by omega) hp (fun m _ hm => by
        by_cases hmi : m = i
        · subst hmi
          rw [h1 m (Nat.le_refl _) (by omega)]
          omega
        · have := h2 m (by omega) (by omega)
          omega) k (by omega) hk)
    have e' : ∀ lt : Int → Int → Bool, insOuter lt 0 n i A = insOuter lt 0 n (i + 1) (insInner lt 0 i A) := fun lt => by rw [insOuter, if_pos (by omega)]
    rw [e', e', e, ih]
/-- 0, 1, .., n - 1 -/
def upTo (n : Nat) : Array Int := ((List.range n).map (fun k => ((k : Nat) : Int))).toArray
theorem upTo_size (n : Nat) : (upTo n).size = n := by simp [upTo]
theorem upTo_at {n k : Nat} (h : k < n) : (upTo n)[k]! = (k : Int) := by
  simp [upTo, h]
/-- .. in order -/
def ordA (d : Nat → Int) (n : Nat) : Array Int := insertionSort (dueLt d) (upTo n) 0 n
theorem ordA_eq (d : Nat → Int) (n : Nat) : ordA d n = insertionSort (lexLt d) (upTo n) 0 n :=
  outer_same d n _ (0 + 1) (upTo n) rfl (upTo_size n) (fun k _ hn => upTo_at hn) (fun k hk hn => by
    rw [upTo_at hn]
    omega)
theorem ordA_spec (d : Nat → Int) (n : Nat) : PermIn 0 n (upTo n) (ordA d n) ∧ SortedIn (lexLt d) 0 n (ordA d n) := by
  rw [ordA_eq]
  exact insertionSort_holds (lex_swo d) (upTo n) 0 n (Nat.zero_le _) (by rw [upTo_size]; exact Nat.le_refl _)
theorem ordA_size (d : Nat → Int) (n : Nat) : (ordA d n).size = n := by rw [(ordA_spec d n).1.1, upTo_size]
def ordF (d : Nat → Int) (n k : Nat) : Nat := ((ordA d n)[k]!).toNat
theorem ordA_rng (d : Nat → Int) {n k : Nat} (h : k < n) : 0 ≤ (ordA d n)[k]! ∧ (ordA d n)[k]! < (n : Int) :=
  permIn_all (upTo n) _ 0 n (fun x => 0 ≤ x ∧ x < (n : Int)) (by rw [upTo_size]; exact Nat.le_refl _) (ordA_spec d n).1 (fun m _ hm => by
    rw [upTo_at hm]
    omega) k (by omega) h
theorem ordA_at (d : Nat → Int) {n k : Nat} (h : k < n) : (ordA d n)[k]! = (ordF d n k : Int) := by
  have := ordA_rng d h
  unfold ordF
  omega
theorem ordF_lt (d : Nat → Int) {n k : Nat} (h : k < n) : ordF d n k < n := by
  have := ordA_rng d h
  unfold ordF
  omega
theorem ordA_perm (d : Nat → Int) (n : Nat) : (ordA d n).toList.Perm ((List.range n).map (fun k => ((k : Nat) : Int))) := by
  have h := (ordA_spec d n).1.2.2
  have e1 : (ordA d n).extract 0 n = ordA d n := by
    have h : (ordA d n).extract 0 (ordA d n).size = ordA d n := by simp
    rwa [ordA_size] at h
  have e2 : (upTo n).extract 0 n = upTo n := by
    have h : (upTo n).extract 0 (upTo n).size = upTo n := by simp
    rwa [upTo_size] at h
  rw [e1, e2] at h
  exact h
theorem range_nodup (n : Nat) : ((List.range n).map (fun k => ((k : Nat) : Int))).Nodup := by
  refine List.Pairwise.map _ (fun a b (h : a ≠ b) => ?_) List.nodup_range
  omega
theorem ordA_ne (d : Nat → Int) {n j k : Nat} (hj : j < k) (hk : k < n) : (ordA d n)[j]! ≠ (ordA d n)[k]! := by
  have hs := ordA_size d n
  have h : (ordA d n).toList.Nodup := (ordA_perm d n).nodup_iff.2 (range_nodup n)
  have h2 := List.pairwise_iff_getElem.1 h j k (by simp; omega) (by simp; omega) hj
  rw [getElem!_pos (ordA d n) j (by omega), getElem!_pos (ordA d n) k (by omega)]
  simpa using h2
theorem ordF_ne (d : Nat → Int) {n j k : Nat} (hj : j < k) (hk : k < n) : ordF d n j ≠ ordF d n k := fun e => by
  have h := ordA_ne d hj hk
  rw [ordA_at d (by omega), ordA_at d hk] at h
  omega
theorem ordF_onto (d : Nat → Int) {n i : Nat} (h : i < n) : ∃ k, k < n ∧ ordF d n k = i := by
  have hm : (i : Int) ∈ (ordA d n).toList := (ordA_perm d n).mem_iff.2 (List.mem_map.2 ⟨i, List.mem_range.2 h, rfl⟩)
  obtain ⟨k, hk, e⟩ := List.getElem_of_mem hm
  have hs := ordA_size d n
  have hk2 : k < n := by simp at hk; omega
  refine ⟨k, hk2, ?_⟩
  have h1 := ordA_at d hk2
  rw [getElem!_pos (ordA d n) k (by omega)] at h1
  have e2 : (ordA d n)[k]'(by omega) = (i : Int) := by simpa using e
  rw [e2] at h1
  omega
theorem ordF_less (d : Nat → Int) {n j k : Nat} (hj : j < k) (hk : k < n) : d (ordF d n j) < d (ordF d n k) ∨ (d (ordF d n j) = d (ordF d n k) ∧ ordF d n j < ordF d n k) := by
  have h := lexLt_not.1 ((ordA_spec d n).2 j k (by omega) hj hk)
  have hne := ordF_ne d hj hk
  rw [ordA_at d (show j < n by omega), ordA_at d hk] at h
  simp only [Int.toNat_natCast] at h
  omega
/-- what stands at k is the first by the key of those that do not stand ahead -/
theorem ordF_least (d : Nat → Int) {n k i : Nat} (hi : i < n) (h : ∀ j, j < k → ordF d n j ≠ i) : i = ordF d n k ∨ d (ordF d n k) < d i ∨ (d (ordF d n k) = d i ∧ ordF d n k < i) := by
  obtain ⟨m, hm, rfl⟩ := ordF_onto d hi
  rcases Nat.lt_or_ge m k with h1 | h1
  · exact absurd rfl (h m h1)
  · rcases Nat.eq_or_lt_of_le h1 with h2 | h2
    · exact Or.inl (by rw [h2])
    · exact Or.inr (ordF_less d h2 hm)
end Go.Proofs.Ytonoeohmpaegdaa
