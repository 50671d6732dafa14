/- The ingots of a bell's melts: collected and sorted by the program. -/
import Derived.Test.YtkilfapknemjhaaLeft2
import Derived.Test.YtkilfapknemjhaaSortS
namespace Go.Proofs.Ytkilfapknemjhaa
set_option linter.unusedVariables false
open Go.RowKit Go.Sort

def nmL (y : MeltV) : List (List UInt8) := (List.range y.n).map fun j => (y.ss j).toList
theorem nmL_len (y : MeltV) : (nmL y).length = y.n := by simp [nmL]
theorem nmL_at (y : MeltV) {j : Nat} (h : j < y.n) : (nmL y)[j]? = some (y.ss j).toList := by simp [nmL, h]
def catL (gs : Nat → List (List UInt8)) : Nat → List (List UInt8)
  | 0 => []
  | k + 1 => catL gs k ++ gs k
def gsOf (g : Nat → MeltV) (m : Nat) (x : BellV) (k : Nat) : List (List UInt8) := nmL (g (mIx (fun q => (g q).id) m (x.ss k)))
theorem catL_mem {gs : Nat → List (List UInt8)} {z : List UInt8} : ∀ {n : Nat}, z ∈ catL gs n → ∃ k, k < n ∧ z ∈ gs k
  | 0, h => by simp [catL] at h
  | n + 1, h => by
    unfold catL at h
    rcases List.mem_append.1 h with h | h
    · obtain ⟨k, hk, hz⟩ := catL_mem h
      exact ⟨k, by omega, hz⟩
    · exact ⟨n, by omega, h⟩
theorem catL_nodup {gs : Nat → List (List UInt8)} : ∀ {n : Nat}, (∀ k, k < n → (gs k).Nodup) → (∀ j k, j < k → k < n → ∀ z, z ∈ gs j → z ∉ gs k) → (catL gs n).Nodup
  | 0, _, _ => by simp [catL]
  | n + 1, h1, h2 => by
    unfold catL
    refine List.nodup_append.2 ⟨catL_nodup (fun k hk => h1 k (by omega)) (fun j k a b => h2 j k a (by omega)), h1 n (by omega), fun a ha b hb e => ?_⟩
    subst e
    obtain ⟨k, hk, hz⟩ := catL_mem ha
    exact h2 k n hk (by omega) a hz hb
theorem catL_len {gs : Nat → List (List UInt8)} : ∀ {n : Nat}, (∀ k, k < n → (gs k).length ≤ 16) → (catL gs n).length ≤ 16 * n
  | 0, _ => by simp [catL]
  | n + 1, h => by
    have h1 := catL_len (n := n) (fun k hk => h k (by omega))
    have h2 := h n (by omega)
    unfold catL
    rw [List.length_append]
    omega
theorem okM_melt {g : Nat → MeltV} {m i : Nat} (h : okMelts g m = true) (hi : i < m) : 1 ≤ (g i).n ∧ (g i).n ≤ 16 ∧ namesB (g i).ss (g i).n = true ∧ ∀ j, j < i → commonB (g i) (g j) = false := by
  unfold okMelts meltsOk at h
  simp only [Bool.and_eq_true] at h
  have h2 := allB_of h.1 i hi
  unfold meltAt' goodAt meltV at h2
  simp only [Bool.and_eq_true, decide_eq_true_eq, Bool.not_eq_true'] at h2
  refine ⟨by omega, by omega, h2.1.1.2.2.2.1, fun j hj => ?_⟩
  cases q : commonB (g i) (g j)
  · rfl
  · have := anyB_hit (p := fun j => commonB (g i) (g j)) hj q
    rw [this] at h2
    simp at h2
theorem common_no {x y : MeltV} (h : commonB x y = false) : ∀ z, z ∈ nmL x → z ∉ nmL y := by
  intro z hx hy
  simp only [nmL, List.mem_map, List.mem_range] at hx hy
  obtain ⟨i, hi, rfl⟩ := hx
  obtain ⟨j, hj, e⟩ := hy
  have : commonB x y = true := by
    unfold commonB
    exact anyB_hit hi (anyB_hit (p := fun j => (x.ss i).toList == (y.ss j).toList) hj (by rw [e]; exact beq_self_eq_true _))
  rw [h] at this; cases this
theorem names_srt {ss : Nat → ByteArray} {n : Nat} (h : namesB ss n = true) : Srt ss n := srt_of fun k hk => by
  have h1 := allB_of h (k + 1) hk
  unfold goodAt at h1
  simp only [Bool.and_eq_true] at h1
  have h2 := h1.2
  show Op.bytesLess (ss k).toList (ss (k + 1)).toList = true
  simpa using h2
theorem srt_pair {ss : Nat → ByteArray} {n : Nat} (h : Srt ss n) : ((List.range n).map fun j => (ss j).toList).Pairwise RB := by
  rw [List.pairwise_map]
  refine (List.pairwise_lt_range (n := n)).imp_of_mem ?_
  intro a b ha hb hab
  exact h a b hab (List.mem_range.1 hb)
/-- what a bell of existing melts has -/
structure BellIn (g : Nat → MeltV) (m : Nat) (x : BellV) : Prop where
  n4 : x.n ≤ 4
  at_ : ∀ k, k < x.n → mIx (fun q => (g q).id) m (x.ss k) < m ∧ eqS (g (mIx (fun q => (g q).id) m (x.ss k))).id (x.ss k) = true ∧ hasId (fun q => (g q).id) m (x.ss k) = true ∧ 1 ≤ (g (mIx (fun q => (g q).id) m (x.ss k))).n ∧ (g (mIx (fun q => (g q).id) m (x.ss k))).n ≤ 16
  nd : (catL (gsOf g m x) x.n).Nodup
theorem bellIn_of {g : Nat → MeltV} {m : Nat} {x : BellV} (h1 : okMelts g m = true) (h2 : bellV x = true) (h3 : knownB (fun q => (g q).id) m x = true) : BellIn g m x := by
  have hx := bellV_few h2
  have hat : ∀ k, k < x.n → mIx (fun q => (g q).id) m (x.ss k) < m ∧ eqS (g (mIx (fun q => (g q).id) m (x.ss k))).id (x.ss k) = true ∧ hasId (fun q => (g q).id) m (x.ss k) = true ∧ 1 ≤ (g (mIx (fun q => (g q).id) m (x.ss k))).n ∧ (g (mIx (fun q => (g q).id) m (x.ss k))).n ≤ 16 := fun k hk => by
    have h4 := allB_of h3 k hk
    obtain ⟨a, -, b⟩ := mIx_of h4
    obtain ⟨c, d, -⟩ := okM_melt h1 a
    exact ⟨a, b, h4, c, d⟩
  have hs : Srt x.ss x.n := srt_of fun k hk => by
    unfold bellV bellB at h2
    simp only [Bool.and_eq_true] at h2
    have h5 := allB_of h2.1 (k + 1) hk
    unfold goodAt at h5
    simp only [Bool.and_eq_true] at h5
    have h6 := h5.2
    show Op.bytesLess (x.ss k).toList (x.ss (k + 1)).toList = true
    simpa using h6
  refine ⟨hx.1, hat, catL_nodup (fun k hk => ?_) (fun j k hjk hk => ?_)⟩
  · exact rb_nodup (srt_pair (names_srt (okM_melt h1 (hat k hk).1).2.2.1))
  · obtain ⟨a1, a2, -⟩ := hat j (by omega)
    obtain ⟨b1, b2, -⟩ := hat k hk
    have hne : mIx (fun q => (g q).id) m (x.ss j) ≠ mIx (fun q => (g q).id) m (x.ss k) := fun e => by
      rw [e] at a2
      have e1 : (x.ss j).toList = (x.ss k).toList := (eq_of_beq a2).symm.trans (eq_of_beq b2)
      have := hs j k hjk hk
      unfold ltS at this
      rw [e1, less_irrefl] at this; cases this
    have hc : commonB (g (mIx (fun q => (g q).id) m (x.ss j))) (g (mIx (fun q => (g q).id) m (x.ss k))) = false := by
      rcases Nat.lt_or_ge (mIx (fun q => (g q).id) m (x.ss j)) (mIx (fun q => (g q).id) m (x.ss k)) with h | h
      · rw [commonB_comm]; exact (okM_melt h1 b1).2.2.2 _ h
      · exact (okM_melt h1 a1).2.2.2 _ (by omega)
    exact common_no hc
end Go.Proofs.Ytkilfapknemjhaa
