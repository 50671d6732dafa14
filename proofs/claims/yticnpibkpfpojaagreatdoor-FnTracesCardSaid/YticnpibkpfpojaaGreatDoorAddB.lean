/- A bell put into a list in order: where it goes, the list, the code; one more bell in a list of the call's own. -/
import Derived.Test.YticnpibkpfpojaaGreatDoorCopyB
import Derived.Test.YticnpibkpfpojaaGreatDoorEnough
import Derived.Test.YticnpibkpfpojaaGreatDoorLeft2
namespace Go.Proofs.YticnpibkpfpojaaGreatDoor
set_option linter.unusedVariables false
open Go.RowKit

/-- the first bell with a greater id -/
def posA (f : Nat → BellV) (x : BellV) : Nat → Nat
  | 0 => 0
  | n + 1 => if posA f x n < n then posA f x n else if ltS x.id (f n).id = true then n else n + 1
theorem posA_spec (f : Nat → BellV) (x : BellV) : ∀ n, posA f x n ≤ n ∧ (∀ q, q < posA f x n → ltS x.id (f q).id = false) ∧ (posA f x n < n → ltS x.id (f (posA f x n)).id = true)
  | 0 => ⟨Nat.le_refl _, fun q h => absurd h (Nat.not_lt_zero _), fun h => absurd h (Nat.not_lt_zero _)⟩
  | n + 1 => by
    obtain ⟨h1, h2, h3⟩ := posA_spec f x n
    unfold posA
    by_cases h : posA f x n < n
    · rw [if_pos h]; exact ⟨by omega, h2, fun _ => h3 h⟩
    · have e : posA f x n = n := by omega
      rw [e] at h2
      rw [if_neg h]
      by_cases hl : ltS x.id (f n).id = true
      · rw [if_pos hl]; exact ⟨by omega, h2, fun _ => hl⟩
      · rw [if_neg hl]
        refine ⟨by omega, fun q hq => ?_, fun hq => by omega⟩
        rcases Nat.lt_or_ge q n with c | c
        · exact h2 q c
        · obtain rfl : q = n := by omega
          simpa using hl
def insF (f : Nat → BellV) (p : Nat) (x : BellV) : Nat → BellV := fun i => if i < p then f i else if i = p then x else f (i - 1)
theorem insF_lo {f : Nat → BellV} {p i : Nat} {x : BellV} (h : i < p) : insF f p x i = f i := if_pos h
theorem insF_at (f : Nat → BellV) (p : Nat) (x : BellV) : insF f p x p = x := by
  show (if p < p then f p else if p = p then x else f (p - 1)) = x
  rw [if_neg (by omega), if_pos rfl]
theorem insF_hi {f : Nat → BellV} {p i : Nat} {x : BellV} (h : p ≤ i) : insF f p x (i + 1) = f i := by
  show (if i + 1 < p then f (i + 1) else if i + 1 = p then x else f (i + 1 - 1)) = f i
  rw [if_neg (by omega), if_neg (by omega)]; rfl
theorem insF_all {f : Nat → BellV} {p n : Nat} {x : BellV} {C : BellV → Prop} (hf : ∀ i, i < n → C (f i)) (hx : C x) (hp : p ≤ n) : ∀ i, i < n + 1 → C (insF f p x i) := fun i hi => by
  rcases Nat.lt_or_ge i p with q | q
  · rw [insF_lo q]; exact hf i (by omega)
  · rcases Nat.eq_or_lt_of_le q with e | e
    · subst e; rw [insF_at]; exact hx
    · obtain ⟨j, rfl⟩ : ∃ j, i = j + 1 := ⟨i - 1, by omega⟩
      rw [insF_hi (by omega)]; exact hf j (by omega)
theorem tkB_lo {f : Nat → BellV} {p : Nat} {x : BellV} (id : ByteArray) : ∀ {k}, k ≤ p → tkB (insF f p x) id k = tkB f id k
  | 0, _ => rfl
  | k + 1, h => by
    show tkB (insF f p x) id k + tkS (insF f p x k) id (insF f p x k).n = tkB f id k + tkS (f k) id (f k).n
    rw [tkB_lo id (by omega), insF_lo (by omega)]
/-- what is taken does not ask for the place -/
theorem tkB_ins (f : Nat → BellV) (x : BellV) (id : ByteArray) (p : Nat) : ∀ {k}, p ≤ k → tkB (insF f p x) id (k + 1) = tkB f id k + tkS x id x.n := by
  intro k
  induction k with
  | zero =>
    intro h
    obtain rfl : p = 0 := by omega
    show tkB (insF f 0 x) id 0 + tkS (insF f 0 x 0) id (insF f 0 x 0).n = _
    rw [insF_at]; rfl
  | succ k ih =>
    intro h
    rcases Nat.eq_or_lt_of_le h with e | e
    · subst e
      show tkB (insF f (k + 1) x) id (k + 1) + tkS (insF f (k + 1) x (k + 1)) id (insF f (k + 1) x (k + 1)).n = _
      rw [insF_at, tkB_lo id (Nat.le_refl _)]
    · show tkB (insF f p x) id (k + 1) + tkS (insF f p x (k + 1)) id (insF f p x (k + 1)).n = (tkB f id k + tkS (f k) id (f k).n) + tkS x id x.n
      rw [ih (by omega), insF_hi (by omega)]
      omega
theorem suffB_ins {g : Nat → MeltV} {m : Nat} {f : Nat → BellV} {n p p2 : Nat} {x : BellV} (h : p ≤ n) (h2 : p2 ≤ n) : suffB g m (insF f p x) (n + 1) = suffB g m (insF f p2 x) (n + 1) := by
  unfold suffB
  congr 1
  funext i
  rw [tkB_ins f x _ p h, tkB_ins f x _ p2 h2]
theorem few_ins {f : Nat → BellV} {n p : Nat} {x : BellV} (h : okBells f n = true) (hx : bellV x = true) (hp : p ≤ n) : Few (insF f p x) (n + 1) := by
  have hfew := okB_few h
  refine ⟨?_, insF_all (C := fun x => x.n ≤ 4 ∧ ∀ k, k < x.n → 1 ≤ x.ms k ∧ x.ms k ≤ 20000000) hfew.2 (bellV_few hx) hp⟩
  unfold okBells at h
  simp only [Bool.and_eq_true, decide_eq_true_eq] at h
  omega
def hasB (f : Nat → BellV) (x : BellV) (n : Nat) : Bool := anyB (fun i => eqS (f i).id x.id) n
noncomputable def adC (g : Nat → MeltV) (m : Nat) (f : Nat → BellV) (n : Nat) (x : BellV) : Int :=
  if (okMelts g m && okBells f n && bellV x) = false then 1 else if (allKnown (fun q => (g q).id) m f n && knownB (fun q => (g q).id) m x) = false then 3
  else if suffB g m (insF f (posA f x n) x) (n + 1) = false then 6 else if hasB f x n = true then 4 else if n = 24 then 5 else 0
/-- what the call returns: the code, and the list when the code is 0 -/
def AddOut (g : Nat → MeltV) (m : Nat) (f : Nat → BellV) (n : Nat) (x : BellV) (w : World) (e : Ending) (w' : World) : Prop :=
  (adC g m f n x ≠ 0 ∧ e = .returned (.tuple #[.slice none 0 0, .int .i64 (adC g m f n x)]) ∧ Below w.heap.size w w') ∨
  (adC g m f n x = 0 ∧ ∃ A c G, e = .returned (.tuple #[.slice A (n + 1) c, .int .i64 0]) ∧ BellOwn w' A (n + 1) (insF f (posA f x n) x) G w.heap.size ∧ w.heap.size ≤ G ∧ Below w.heap.size w w')
/-- one more bell with shares of its own -/
theorem push {wr w1 : World} {base k G c : Nat} {v : Value} {xs : List Value} {F : Nat → BellV} {x : BellV} {w : World} (hown : wr.ownsRow base 28 5 v k xs) (hbx : BellsX wr base wr.heap.size xs k F) (hbr : Below base w wr) (hbs : base ≤ wr.heap.size) (hw : base ≤ w.heap.size) (hb : Below wr.heap.size wr w1) (hso : ShareOwnC w1 x.n x.ss x.ms G c) (g1 : wr.heap.size ≤ G) (g2 : G < w1.heap.size) (hx : F k = x) :
    (w1.alloc (.cells (bellC x (.slice (some ⟨G, 0, none⟩) x.n c)).toArray 28)).ownsRow base 28 5 v k xs ∧
    (∀ j u, (bellC x (.slice (some ⟨G, 0, none⟩) x.n c))[j]? = some u → (w1.alloc (.cells (bellC x (.slice (some ⟨G, 0, none⟩) x.n c)).toArray 28)).cell? ((⟨w1.heap.size, 0, none⟩ : Addr).add j) = some u) ∧
    (∀ w9, (w1.alloc (.cells (bellC x (.slice (some ⟨G, 0, none⟩) x.n c)).toArray 28)).grownBy w9 v.ownBlock → BellsX w9 base w9.heap.size (xs ++ bellC x (.slice (some ⟨G, 0, none⟩) x.n c)) (k + 1) F ∧ Below base w w9 ∧ base ≤ w9.heap.size) := by
  have hlt := hown.lt
  have own1 := own_keep hown hb
  have hs := hb.size
  have bx1 := hbx.keep hb
  have br1 := hbr.trans (hb.mono hbs)
  refine ⟨own1.alloc _, World.news_of_block (Blk.new w1 28 (bellC x (.slice (some ⟨G, 0, none⟩) x.n c)).toArray), fun w9 hgrow => ?_⟩
  have hgs : w1.heap.size ≤ w9.heap.size := Nat.le_trans (show w1.heap.size ≤ (w1.alloc (.cells (bellC x (.slice (some ⟨G, 0, none⟩) x.n c)).toArray 28)).heap.size by simp) hgrow.size
  subst hx
  exact ⟨bx1.snoc own1 hso hbs g1 (by omega) hgrow, (br1.alloc (by omega) _).grown hgrow (by simp; omega) (fun z hz => (hlt z hz).1), by omega⟩
end Go.Proofs.YticnpibkpfpojaaGreatDoor
