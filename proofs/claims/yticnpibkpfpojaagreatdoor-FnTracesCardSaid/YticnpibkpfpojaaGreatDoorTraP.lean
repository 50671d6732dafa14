/- What a list of bells is behind AddBell, in plain words: no program in sight. -/
import Derived.Test.YticnpibkpfpojaaGreatDoorAddS
namespace Go.Proofs.YticnpibkpfpojaaGreatDoor
set_option linter.unusedVariables false
open Go.RowKit
theorem toList_injT {a b : ByteArray} (h : a.toList = b.toList) : a = b := by
  rw [ByteArray.toList_eq, ByteArray.toList_eq] at h
  cases a; cases b
  simp at h
  rw [h]
theorem okB_srtT {f : Nat → BellV} {n : Nat} (h : okBells f n = true) : Srt (fun i => (f i).id) n := srt_of fun k hk => by
  unfold okBells bellsOk at h
  simp only [Bool.and_eq_true] at h
  have h1 := allB_of h.1 (k + 1) hk
  unfold goodAt at h1
  simp only [Bool.and_eq_true] at h1
  have h2 := h1.2
  show Op.bytesLess (f k).id.toList (f (k + 1)).id.toList = true
  simpa using h2
theorem okB_mk {f : Nat → BellV} {n : Nat} (hv : ∀ i, i < n → bellV (f i) = true) (hs : ∀ i, i + 1 < n → ltS (f i).id (f (i + 1)).id = true) (hn : n ≤ 24) : okBells f n = true := by
  unfold okBells bellsOk
  simp only [Bool.and_eq_true, decide_eq_true_eq]
  refine ⟨allB_yes fun i hi => ?_, by omega⟩
  unfold goodAt
  simp only [Bool.and_eq_true]
  refine ⟨hv i hi, ?_⟩
  cases i with
  | zero => rfl
  | succ i => exact hs i hi
/-- what the code 0 says -/
theorem ad_parts {g : Nat → MeltV} {m : Nat} {f : Nat → BellV} {n : Nat} {x : BellV} (h : adC g m f n x = 0) :
    okMelts g m = true ∧ okBells f n = true ∧ bellV x = true ∧ allKnown (fun q => (g q).id) m f n = true ∧ knownB (fun q => (g q).id) m x = true ∧ suffB g m (insF f (posA f x n) x) (n + 1) = true ∧ hasB f x n = false ∧ n ≠ 24 := by
  unfold adC at h
  split at h
  · cases h
  · rename_i h1
    split at h
    · cases h
    · rename_i h2
      split at h
      · cases h
      · rename_i h3
        split at h
        · cases h
        · rename_i h4
          split at h
          · cases h
          · rename_i h5
            simp only [Bool.not_eq_false, Bool.and_eq_true] at h1 h2 h3
            exact ⟨h1.1.1, h1.1.2, h1.2, h2.1, h2.2, h3, by simpa using h4, h5⟩
theorem ad_bells {g : Nat → MeltV} {m : Nat} {f : Nat → BellV} {n : Nat} {x : BellV} (h : adC g m f n x = 0) : okBells (insF f (posA f x n) x) (n + 1) = true := by
  obtain ⟨-, h2, h3, -, -, -, h7, h8⟩ := ad_parts h
  obtain ⟨p1, p2, p3⟩ := posA_spec f x n
  generalize posA f x n = P at *
  have hn : n ≤ 24 := by
    unfold okBells at h2
    simp only [Bool.and_eq_true, decide_eq_true_eq] at h2
    omega
  have hs := okB_srtT h2
  have hlt : ∀ q, q < n → q < P → ltS (f q).id x.id = true := fun q hq hqp => by
    have h9 := p2 q hqp
    have h10 := ltS_total (f q).id x.id
    rw [h9] at h10
    have h11 : eqS (f q).id x.id = false := by
      cases he : eqS (f q).id x.id
      · rfl
      · have := anyB_hit (p := fun i => eqS (f i).id x.id) hq he
        rw [show anyB (fun i => eqS (f i).id x.id) n = hasB f x n from rfl, h7] at this
        cases this
    rw [h11] at h10
    simpa using h10
  refine okB_mk (insF_all (C := fun y => bellV y = true) (fun i hi => okB_V h2 hi) h3 p1) (fun i hi => ?_) (by omega)
  rcases Nat.lt_trichotomy (i + 1) P with z | z | z
  · rw [insF_lo (show i < P by omega), insF_lo z]
    exact hs i (i + 1) (by omega) (by omega)
  · rw [insF_lo (show i < P by omega), z, insF_at]
    exact hlt i (by omega) (by omega)
  · rcases Nat.lt_or_ge i P with y | y
    · omega
    · rw [insF_hi y]
      rcases Nat.eq_or_lt_of_le y with y | y
      · rw [← y, insF_at]
        exact p3 (by omega)
      · obtain ⟨j, rfl⟩ : ∃ j, i = j + 1 := ⟨i - 1, by omega⟩
        rw [insF_hi (show P ≤ j by omega)]
        exact hs j (j + 1) (by omega) (by omega)
theorem ad_known {g : Nat → MeltV} {m : Nat} {f : Nat → BellV} {n : Nat} {x : BellV} (h : adC g m f n x = 0) : allKnown (fun q => (g q).id) m (insF f (posA f x n) x) (n + 1) = true := by
  obtain ⟨-, -, -, h4, h5, -⟩ := ad_parts h
  exact allB_yes (insF_all (C := fun y => knownB (fun q => (g q).id) m y = true) (fun i hi => allB_of h4 i hi) h5 (posA_spec f x n).1)
theorem tkS_zero {x : BellV} {id : ByteArray} : ∀ k, (∀ j, j < k → eqS (x.ss j) id = false) → tkS x id k = 0
  | 0, _ => rfl
  | k + 1, h => by
    show tkS x id k + (if eqS (x.ss k) id = true then x.ms k else 0) = 0
    rw [tkS_zero k (fun j hj => h j (by omega)), h k (by omega)]
    rfl
/-- of the names that differ one is met -/
theorem tkS_one {x : BellV} {j : Nat} : ∀ {k}, (∀ a b, a < k → b < k → a ≠ b → eqS (x.ss a) (x.ss b) = false) → j < k → tkS x (x.ss j) k = x.ms j
  | 0, _, h => by omega
  | k + 1, hd, h => by
    show tkS x (x.ss j) k + (if eqS (x.ss k) (x.ss j) = true then x.ms k else 0) = x.ms j
    rcases Nat.lt_or_ge j k with z | z
    · rw [tkS_one (fun a b ha hb => hd a b (by omega) (by omega)) z, hd k j (by omega) (by omega) (by omega)]
      simp
    · obtain rfl : j = k := by omega
      rw [tkS_zero j (fun a ha => hd a j (by omega) (by omega) (by omega)), if_pos (show eqS (x.ss j) (x.ss j) = true from beq_self_eq_true _)]
      omega
theorem bellV_diff {x : BellV} (h : bellV x = true) : ∀ a b, a < x.n → b < x.n → a ≠ b → eqS (x.ss a) (x.ss b) = false := by
  have hs : Srt x.ss x.n := srt_of fun k hk => by
    unfold bellV bellB at h
    simp only [Bool.and_eq_true] at h
    have h5 := allB_of h.1 (k + 1) hk
    unfold goodAt at h5
    simp only [Bool.and_eq_true] at h5
    have h6 := h5.2
    show Op.bytesLess (x.ss k).toList (x.ss (k + 1)).toList = true
    simpa using h6
  intro a b ha hb hne
  cases he : eqS (x.ss a) (x.ss b)
  · rfl
  · exact absurd (srt_uniq hs ha hb he (beq_self_eq_true _)) hne
/-- what a bell takes from its melts -/
theorem ad_left {g : Nat → MeltV} {m : Nat} {f : Nat → BellV} {n k : Nat} {x : BellV} (h : adC g m f n x = 0) (hk : k < x.n) :
    lfC g m f n (x.ss k) = 0 ∧ lfC g m (insF f (posA f x n) x) (n + 1) (x.ss k) = 0 ∧ lfV g m f n (x.ss k) - lfV g m (insF f (posA f x n) x) (n + 1) (x.ss k) = x.ms k := by
  obtain ⟨h1, h2, h3, h4, h5, h6, -⟩ := ad_parts h
  have h7 := ad_bells h
  have h8 := ad_known h
  have hid : hasId (fun q => (g q).id) m (x.ss k) = true := allB_of h5 k hk
  obtain ⟨a, -, b⟩ := mIx_of hid
  have he : (g (mIx (fun q => (g q).id) m (x.ss k))).id = x.ss k := toList_injT (eq_of_beq b)
  have hsf := allB_of h6 _ a
  simp only [he] at hsf
  have htk := tkB_ins f x (x.ss k) (posA f x n) (posA_spec f x n).1
  have hone := tkS_one (bellV_diff h3) hk
  have hms := (bellV_few h3).2 k hk
  have hA : ¬ (g (mIx (fun q => (g q).id) m (x.ss k))).ma - tkB (insF f (posA f x n) x) (x.ss k) (n + 1) < 0 := by simpa using hsf
  have hB : ¬ (g (mIx (fun q => (g q).id) m (x.ss k))).ma - tkB f (x.ss k) n < 0 := by omega
  have c1 : lfC g m f n (x.ss k) = 0 := by simp [lfC, h1, h2, hid, h4, hB]
  have c2 : lfC g m (insF f (posA f x n) x) (n + 1) (x.ss k) = 0 := by simp [lfC, h1, h7, hid, h8, hA]
  refine ⟨c1, c2, ?_⟩
  unfold lfV
  rw [if_pos c1, if_pos c2]
  omega
end Go.Proofs.YticnpibkpfpojaaGreatDoor
