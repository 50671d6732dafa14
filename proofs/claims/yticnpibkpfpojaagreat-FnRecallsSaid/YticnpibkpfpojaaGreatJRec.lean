import Derived.Test.YticnpibkpfpojaaGreatRecallI
import Derived.Test.YticnpibkpfpojaaGreatTraced
import Derived.Test.YticnpibkpfpojaaGreatAlloyB
/- What the law on recalls says of lists of bells, in plain words: no program in sight. -/
namespace Go.Proofs.YticnpibkpfpojaaGreat
set_option linter.unusedVariables false
open Go.RowKit Go.Sort
/-- the chosen before k come first -/
theorem selL_pre (p : Nat → Bool) (s : Nat → ByteArray) {k n : Nat} (h : k ≤ n) : ∃ t, selL p s n = selL p s k ++ t := by
  induction n with
  | zero => exact ⟨[], by rw [show k = 0 by omega]; simp⟩
  | succ n ih =>
    rcases Nat.lt_or_ge n k with q | q
    · exact ⟨[], by rw [show k = n + 1 by omega]; simp⟩
    · obtain ⟨t, ht⟩ := ih q
      cases hp : p n
      · exact ⟨t, by rw [selL_no hp]; exact ht⟩
      · exact ⟨t ++ [s n], by rw [selL_yes hp, ht, List.append_assoc]⟩
theorem selL_le (p : Nat → Bool) (s : Nat → ByteArray) {k n : Nat} (h : k ≤ n) : (selL p s k).length ≤ (selL p s n).length := by
  obtain ⟨t, ht⟩ := selL_pre p s h
  rw [ht, List.length_append]; omega
/-- a chosen one stands behind the chosen before it -/
theorem selS_at {p : Nat → Bool} {s : Nat → ByteArray} {k n : Nat} (h : k < n) (hp : p k = true) : (selL p s k).length < (selL p s n).length ∧ selS p s n (selL p s k).length = s k := by
  obtain ⟨t, ht⟩ := selL_pre p s (show k + 1 ≤ n from h)
  rw [selL_yes hp] at ht
  constructor
  · rw [ht]; simp
  · unfold selS
    rw [ht, List.append_assoc, List.getElem?_append_right (Nat.le_refl _)]
    simp
theorem selL_mem {p : Nat → Bool} {s : Nat → ByteArray} {x : ByteArray} : ∀ {n : Nat}, x ∈ selL p s n → ∃ k, k < n ∧ p k = true ∧ s k = x
  | 0, h => by simp [selL] at h
  | n + 1, h => by
    cases hp : p n
    · rw [selL_no hp] at h
      obtain ⟨k, hk, h1, h2⟩ := selL_mem h
      exact ⟨k, by omega, h1, h2⟩
    · rw [selL_yes hp] at h
      rcases List.mem_append.1 h with h | h
      · obtain ⟨k, hk, h1, h2⟩ := selL_mem h
        exact ⟨k, by omega, h1, h2⟩
      · simp at h
        exact ⟨n, by omega, hp, h.symm⟩
/-- whether a text is among others -/
def inS (s : Nat → ByteArray) (n : Nat) (x : ByteArray) : Bool := anyB (fun i => (s i).toList == x.toList) n
theorem toList_inj {a b : ByteArray} (h : a.toList = b.toList) : a = b := by
  rw [← ba_eta a, ← ba_eta b, h]
/-- names that differ: a name is among the chosen if it was chosen -/
theorem sel_in {p : Nat → Bool} {s : Nat → ByteArray} {n i : Nat} (hs : Srt s n) (hi : i < n) : inS (selS p s n) (selL p s n).length (s i) = p i := by
  refine bool_iff ⟨fun h => ?_, fun h => ?_⟩
  · obtain ⟨j, hj, he⟩ := anyB_of h
    have hx : selS p s n j = s i := toList_inj (eq_of_beq he)
    have hm : s i ∈ selL p s n := by
      rw [← hx]; unfold selS
      rw [List.getElem?_eq_getElem hj]
      exact List.getElem_mem hj
    obtain ⟨k, hk, h1, h2⟩ := selL_mem hm
    have : k = i := srt_uniq hs hk hi (x := s i) (by rw [h2]; exact beq_self_eq_true _) (beq_self_eq_true _)
    rw [← this]; exact h1
  · obtain ⟨h1, h2⟩ := selS_at (s := s) hi h
    exact anyB_hit h1 (by show (selS p s n (selL p s i).length).toList == (s i).toList; rw [h2]; exact beq_self_eq_true _)
theorem hasI_in (R : List (List UInt8)) (id : ByteArray) : inS (sl R) R.length id = hasI R id := by
  unfold inS hasI
  congr 1
  funext i
  exact Bool.beq_comm
theorem okB_srt {f : Nat → BellV} {n : Nat} (h : okBells f n = true) : Srt (fun i => (f i).id) n := srt_of fun k hk => by
  unfold okBells bellsOk at h
  simp only [Bool.and_eq_true] at h
  have h1 := allB_of h.1 (k + 1) hk
  unfold goodAt at h1
  simp only [Bool.and_eq_true] at h1
  have h2 := h1.2
  show Op.bytesLess (f k).id.toList (f (k + 1)).id.toList = true
  simpa using h2
theorem okB_val {f : Nat → BellV} {n i : Nat} (h : okBells f n = true) (hi : i < n) : bellV (f i) = true := by
  unfold okBells bellsOk at h
  simp only [Bool.and_eq_true] at h
  have h1 := allB_of h.1 i hi
  unfold goodAt at h1
  simp only [Bool.and_eq_true] at h1
  exact h1.1
/-- what a traced list is -/
theorem tr_parts {s0 : Nat → ByteArray} {a1 a2 a3 a4 : Nat → Int} {n : Nat} {g : Nat → MeltV} {m : Nat} {f : Nat → BellV} {p : Nat} (h : trB s0 a1 a2 a3 a4 n g m f p = true) : okIngs s0 a1 a2 a3 a4 n = true ∧ okMelts g m = true ∧ possB s0 n a1 g m = true ∧ okBells f p = true ∧ allKnown (fun q => (g q).id) m f p = true := by
  unfold trB at h
  simp only [Bool.and_eq_true] at h
  obtain ⟨h1, h2, h3, -⟩ := h
  obtain ⟨a, b, c⟩ := posB_of s0 a1 a2 a3 a4 h2
  exact ⟨a, b, c, h1, h3⟩
theorem tr_ask {s0 : Nat → ByteArray} {a1 a2 a3 a4 : Nat → Int} {n : Nat} {g : Nat → MeltV} {m : Nat} {f : Nat → BellV} {p : Nat} (h : trB s0 a1 a2 a3 a4 n g m f p = true) : askC g m f p = 0 := by
  obtain ⟨-, h2, -, h4, h5⟩ := tr_parts h
  simp [askC, h2, h4, h5]
theorem tr_io {s0 : Nat → ByteArray} {a1 a2 a3 a4 : Nat → Int} {n : Nat} {g : Nat → MeltV} {m : Nat} {f : Nat → BellV} {p i : Nat} (h : trB s0 a1 a2 a3 a4 n g m f p = true) (hi : i < p) : ioC g m (f i) = 0 := by
  obtain ⟨-, h2, -, h4, h5⟩ := tr_parts h
  have h6 := okB_val h4 hi
  have h7 : knownB (fun q => (g q).id) m (f i) = true := allB_of h5 i hi
  simp [ioC, h2, h6, h7]
theorem tr_list {s0 : Nat → ByteArray} {a1 a2 a3 a4 : Nat → Int} {n : Nat} {g : Nat → MeltV} {m : Nat} {f : Nat → BellV} {p i : Nat} (h : trB s0 a1 a2 a3 a4 n g m f p = true) (hi : i < p) : ioL g m (f i) = ingL g m (f i) ∧ 0 < (ioL g m (f i)).length := by
  have hio := tr_io h hi
  obtain ⟨-, h2, -, h4, h5⟩ := tr_parts h
  have h6 := okB_val h4 hi
  have hb := bellIn_of h2 h6 (allB_of h5 i hi)
  have e : ioL g m (f i) = ingL g m (f i) := by unfold ioL; rw [if_pos hio]; rfl
  refine ⟨e, ?_⟩
  rw [e]
  have hn := (bellV_whole h6).2.2
  obtain ⟨-, -, -, h7, -⟩ := hb.at_ 0 (by omega)
  have hy : ((g (mIx (fun q => (g q).id) m ((f i).ss 0))).ss 0).toList ∈ nmL (g (mIx (fun q => (g q).id) m ((f i).ss 0))) := List.mem_of_getElem? (nmL_at _ (by omega))
  have hc : ∀ k, 0 < k → ((g (mIx (fun q => (g q).id) m ((f i).ss 0))).ss 0).toList ∈ catL (gsOf g m (f i)) k := fun k => by
    induction k with
    | zero => intro h; omega
    | succ k ih =>
      intro _
      show _ ∈ catL (gsOf g m (f i)) k ++ gsOf g m (f i) k
      rcases Nat.eq_zero_or_pos k with z | z
      · subst z; exact List.mem_append.2 (.inr hy)
      · exact List.mem_append.2 (.inl (ih z))
  have hm := (putAll_mem _ (catL (gsOf g m (f i)) (f i).n) []).2 (.inr (hc _ (by omega)))
  exact List.length_pos_of_mem hm
theorem tr_have {s0 : Nat → ByteArray} {a1 a2 a3 a4 : Nat → Int} {n : Nat} {g : Nat → MeltV} {m : Nat} {f : Nat → BellV} {p i k : Nat} (h : trB s0 a1 a2 a3 a4 n g m f p = true) (hi : i < p) (hk : k < (f i).n) : mIx (fun q => (g q).id) m ((f i).ss k) < m ∧ allHave s0 n (shM g m (f i) k).ss (shM g m (f i) k).n = true := by
  obtain ⟨h1, h2, h3, h4, h5⟩ := tr_parts h
  have hb := bellIn_of h2 (okB_val h4 hi) (allB_of h5 i hi)
  obtain ⟨a, -⟩ := hb.at_ k hk
  unfold possB at h3
  simp only [Bool.and_eq_true] at h3
  exact ⟨a, allB_of h3.1 _ a⟩
theorem tr_abC {s0 : Nat → ByteArray} {a1 a2 a3 a4 : Nat → Int} {n : Nat} {g : Nat → MeltV} {m : Nat} {f : Nat → BellV} {p i : Nat} (h : trB s0 a1 a2 a3 a4 n g m f p = true) (hi : i < p) : abC s0 a1 a2 a3 a4 n g m (f i) = 0 := by
  have hio := tr_io h hi
  obtain ⟨h1, -⟩ := tr_parts h
  have h6 : abH s0 n g m (f i) (f i).n = true := allB_yes fun k hk => (tr_have h hi hk).2
  simp [abC, h1, hio, h6]
/-- two parts of an alloy are together a part -/
theorem part_two {a1 r t : Nat → Int} {ix : Nat → Nat} {q : Nat} (hq : 0 < q) (h1 : ∀ u, u < q → 1 ≤ a1 (ix u)) (h2 : ∀ u, u < q → 0 ≤ r (ix u) ∧ 0 ≤ t (ix u) ∧ r (ix u) + t (ix u) ≤ 1000000) : 0 ≤ partV a1 r ix q ∧ 0 ≤ partV a1 t ix q ∧ partV a1 r ix q + partV a1 t ix q ≤ 1000000 := by
  have hp := sumX_pos h1
  have hs : ∀ k, k ≤ q → 0 ≤ sumX (fun i => a1 i * r i) ix k ∧ 0 ≤ sumX (fun i => a1 i * t i) ix k ∧ sumX (fun i => a1 i * r i) ix k + sumX (fun i => a1 i * t i) ix k ≤ sumX a1 ix k * 1000000 := fun k => by
    induction k with
    | zero => intro _; simp [sumX]
    | succ k ih =>
      intro hk
      obtain ⟨i1, i2, i3⟩ := ih (by omega)
      obtain ⟨r0, t0, rt⟩ := h2 k (by omega)
      have a0 : 0 ≤ a1 (ix k) := by have := h1 k (by omega); omega
      have e1 := Int.mul_nonneg a0 r0
      have e2 := Int.mul_nonneg a0 t0
      have e3 := Int.mul_le_mul_of_nonneg_left rt a0
      rw [Int.mul_add] at e3
      show 0 ≤ sumX (fun i => a1 i * r i) ix k + a1 (ix k) * r (ix k) ∧ 0 ≤ sumX (fun i => a1 i * t i) ix k + a1 (ix k) * t (ix k) ∧ (sumX (fun i => a1 i * r i) ix k + a1 (ix k) * r (ix k)) + (sumX (fun i => a1 i * t i) ix k + a1 (ix k) * t (ix k)) ≤ (sumX a1 ix k + a1 (ix k)) * 1000000
      rw [Int.add_mul]
      omega
  obtain ⟨b1, b2, b3⟩ := hs q (Nat.le_refl _)
  unfold partV
  generalize sumX (fun i => a1 i * r i) ix q = X at *
  generalize sumX (fun i => a1 i * t i) ix q = Y at *
  generalize sumX a1 ix q = S at *
  have s0 : 0 < S := by omega
  refine ⟨Int.ediv_nonneg b1 (by omega), Int.ediv_nonneg b2 (by omega), ?_⟩
  have c1 := Int.ediv_mul_le X (show S ≠ 0 by omega)
  have c2 := Int.ediv_mul_le Y (show S ≠ 0 by omega)
  have c3 : (X / S + Y / S) * S ≤ 1000000 * S := by rw [Int.add_mul]; omega
  exact Int.le_of_mul_le_mul_right c3 s0
theorem ab_two {s0 : Nat → ByteArray} {n : Nat} {a1 r t : Nat → Int} {g : Nat → MeltV} {m : Nat} {x : BellV} {N : Nat} (h : ∀ k, k < N → 0 ≤ x.ms k) (h2 : ∀ k, k < N → 0 ≤ mT s0 n a1 r (shM g m x k).ss (shM g m x k).n ∧ 0 ≤ mT s0 n a1 t (shM g m x k).ss (shM g m x k).n ∧ mT s0 n a1 r (shM g m x k).ss (shM g m x k).n + mT s0 n a1 t (shM g m x k).ss (shM g m x k).n ≤ 1000000) : ∀ k, k ≤ N → 0 ≤ abS s0 n a1 r g m x k ∧ 0 ≤ abS s0 n a1 t g m x k ∧ abS s0 n a1 r g m x k + abS s0 n a1 t g m x k ≤ sumI x.ms k * 1000000
  | 0, _ => by simp [abS, sumI]
  | k + 1, hk => by
    obtain ⟨i1, i2, i3⟩ := ab_two h h2 k (by omega)
    obtain ⟨r0, t0, rt⟩ := h2 k (by omega)
    have a0 := h k (by omega)
    have e1 := Int.mul_nonneg a0 r0
    have e2 := Int.mul_nonneg a0 t0
    have e3 := Int.mul_le_mul_of_nonneg_left rt a0
    rw [Int.mul_add] at e3
    have es : sumI x.ms (k + 1) = sumI x.ms k + x.ms k := rfl
    show 0 ≤ abS s0 n a1 r g m x k + x.ms k * _ ∧ 0 ≤ abS s0 n a1 t g m x k + x.ms k * _ ∧ (abS s0 n a1 r g m x k + x.ms k * _) + (abS s0 n a1 t g m x k + x.ms k * _) ≤ _
    rw [es, Int.add_mul]
    omega
theorem okIngs_two {s0 : Nat → ByteArray} {a1 a2 a3 a4 : Nat → Int} {n : Nat} (h : okIngs s0 a1 a2 a3 a4 n = true) : ∀ i, i < n → 0 ≤ a3 i ∧ 0 ≤ a4 i ∧ a3 i + a4 i ≤ 1000000 := fun i hi => by
  unfold okIngs at h
  simp only [Bool.and_eq_true] at h
  have h1 := allB_of h.1 i hi
  unfold goodAt at h1
  simp only [Bool.and_eq_true] at h1
  obtain ⟨-, h2, h3, h4, h5⟩ := ingB_of h1.1
  omega
/-- the alloy of a traced bell is one -/
theorem tr_alloy {s0 : Nat → ByteArray} {a1 a2 a3 a4 : Nat → Int} {n : Nat} {g : Nat → MeltV} {m : Nat} {f : Nat → BellV} {p i : Nat} (h : trB s0 a1 a2 a3 a4 n g m f p = true) (hi : i < p) : alloyB (abF s0 a1 a2 a3 a4 n g m (f i) 0) (abF s0 a1 a2 a3 a4 n g m (f i) 1) (abF s0 a1 a2 a3 a4 n g m (f i) 2) = true := by
  obtain ⟨e0, e1, e2⟩ := abF_yes s0 a1 a2 a3 a4 (tr_abC h hi)
  rw [e0, e1, e2]
  obtain ⟨h1, h2, h3, h4, h5⟩ := tr_parts h
  have h6 := okB_val h4 hi
  have hw := bellV_whole h6
  have hfew := (bellV_few h6).2
  have hsum : sumI (f i).ms (f i).n = (f i).ma + (f i).fe := by
    unfold bellV bellB at h6
    simp only [Bool.and_eq_true] at h6
    have := h6.2
    simp at this
    omega
  have hb := ab_two (s0 := s0) (n := n) (a1 := a1) (r := a3) (t := a4) (g := g) (m := m) (x := f i) (N := (f i).n) (fun k hk => by have := hfew k hk; omega) (fun k hk => by
    obtain ⟨a, b⟩ := tr_have h hi hk
    have hq : 0 < (shM g m (f i) k).n := by
      obtain ⟨-, -, -, q, -⟩ := (bellIn_of h2 h6 (allB_of h5 i hi)).at_ k hk
      exact q
    exact part_two hq (fun u hu => okIngs_pos h1 _ (mIx_all b u hu)) (fun u hu => okIngs_two h1 _ (mIx_all b u hu))) (f i).n (Nat.le_refl _)
  rw [hsum] at hb
  unfold abQ
  have s0' : 0 < (f i).ma + (f i).fe := by omega
  generalize abS s0 n a1 a3 g m (f i) (f i).n = X at *
  generalize abS s0 n a1 a4 g m (f i) (f i).n = Y at *
  generalize (f i).ma + (f i).fe = S at *
  have s0 : 0 < S := s0'
  have c0 := Int.ediv_nonneg hb.1 (show 0 ≤ S by omega)
  have c1 := Int.ediv_nonneg hb.2.1 (show 0 ≤ S by omega)
  have c2 := Int.ediv_mul_le X (show S ≠ 0 by omega)
  have c3 := Int.ediv_mul_le Y (show S ≠ 0 by omega)
  have c4 : (X / S + Y / S) * S ≤ 1000000 * S := by rw [Int.add_mul]; omega
  have c5 := Int.le_of_mul_le_mul_right c4 s0
  unfold alloyB
  rw [inB_iff.2 ⟨by omega, by omega⟩, inB_iff.2 ⟨by omega, by omega⟩, inB_iff.2 ⟨by omega, by omega⟩]
  simp
  omega
/-- a recall of an ingot names a bell if its ingots have it -/
theorem tr_recall {s0 : Nat → ByteArray} {a1 a2 a3 a4 : Nat → Int} {n : Nat} {g : Nat → MeltV} {m : Nat} {f : Nat → BellV} {p i : Nat} {id : ByteArray} (h : trB s0 a1 a2 a3 a4 n g m f p = true) (hi : i < p) : inS (riS g m f p id) (riN g m f p id) (f i).id = inS (sl (ioL g m (f i))) (ioL g m (f i)).length id := by
  rw [hasI_in, (tr_list h hi).1]
  have hN : riN g m f p id = (selL (fun i => hasI (ingL g m (f i)) id) (fun i => (f i).id) p).length := by unfold riN; rw [if_pos (tr_ask h)]
  rw [hN]
  exact sel_in (p := fun i => hasI (ingL g m (f i)) id) (s := fun i => (f i).id) (okB_srt (tr_parts h).2.2.2.1) hi
end Go.Proofs.YticnpibkpfpojaaGreat

/- What the law on recalls calls besides: a text among texts, a valid alloy. -/
namespace Go.Proofs.YticnpibkpfpojaaGreat
set_option linter.unusedVariables false
open Go.RowKit

set_option maxHeartbeats 1000000 in
theorem b10In_calls (A : Option Addr) (n c : Nat) (s : Nat → ByteArray) (x : ByteArray) (w : World) (h : StrRow w A n s) (hn : n ≤ 1048576) :
    Calls Tryz.prog 13 #[.slice A n c, .string x] w fun e w' => e = .returned (.bool (inS s n x)) ∧ w = w' := by
  have H := Lib.hid h
  clear h
  generalize hR : inS s n x = R
  have HR := Lib.hid hR
  clear hR
  go_enter Tryz.func13, Tryz.ntmps13
  go_wp2
  go_loopw [5] (fun i wr => ∃ k : Nat, k ≤ n ∧ i = .int .i64 k ∧ Hid (anyB (fun i => (s i).toList == x.toList) k = false) ∧ w = wr) (fun i _ => n - (intOf i).toNat)
  case atStart => exact ⟨0, by omega, rfl, rfl, rfl⟩
  case round =>
    obtain ⟨k, hk, rfl, hno, rfl⟩ := hrel
    by_cases hlt : k < n
    · obtain ⟨b, o, rfl, hrow⟩ := H.out (by omega)
      have c0 := hrow k hlt
      obtain ⟨y, hy⟩ : ∃ y, y = s k := ⟨_, rfl⟩
      rw [← hy] at c0
      have HY := Lib.hid hy
      clear hy hrow
      cases q1 : (y.toList == x.toList)
      · have hn2 : Hid (anyB (fun i => (s i).toList == x.toList) (k + 1) = false) := Lib.hid (by rw [anyB_succ, hno.out]; show (false || ((s k).toList == x.toList)) = false; rw [← HY.out, q1]; rfl)
        go_wp2
        go_roundw
        case rel => exact ⟨k + 1, by omega, by go_num, hn2, by first | rfl | trivial⟩
        case measure => simp [intOf]; omega
      · have hy2 : Hid (R = true) := Lib.hid (by rw [← HR.out]; exact anyB_hit hlt (by show ((s k).toList == x.toList) = true; rw [← HY.out]; exact q1))
        go_wp2
        go_ret
        exact ⟨ret_bool hy2.out.symm, rfl⟩
    · obtain rfl : k = n := by omega
      have hz : Hid (R = false) := Lib.hid (by rw [← HR.out]; exact hno.out)
      go_wp2
      go_ret
      exact ⟨ret_bool hz.out.symm, rfl⟩
set_option maxHeartbeats 1000000 in
theorem sValidAlloy_calls (c t o : Int) (w : World) :
    Calls Tryz.prog 11 #[.agg #[.int .i64 c, .int .i64 t, .int .i64 o]] w fun e w' => e = .returned (.bool (alloyB c t o)) ∧ Below w.heap.size w w' := by
  have hB := Blk.new w 42 #[.int .i64 c, .int .i64 t, .int .i64 o]
  have x0 := (hB.cell 0).trans rfl
  have x1 := (hB.cell 1).trans rfl
  have x2 := (hB.cell 2).trans rfl
  have hal := (Below.refl w.heap.size w).alloc (Nat.le_refl _) (.cells #[.int .i64 c, .int .i64 t, .int .i64 o] 42)
  have HC := Lib.hid (sAlloy_calls w.heap.size 0 c t o _ x0 x1 x2)
  have HAL := Lib.hid hal
  clear hB x0 x1 x2 hal
  go_enter Tryz.func11, Tryz.ntmps11
  go_wp2_with fail
  go_at_call 31
  refine HC.out.mono ?_
  rintro e w1 ⟨rfl, nd, rfl⟩
  go_wp2
  go_ret
  exact ⟨rfl, below_drewN HAL.out nd⟩
end Go.Proofs.YticnpibkpfpojaaGreat
