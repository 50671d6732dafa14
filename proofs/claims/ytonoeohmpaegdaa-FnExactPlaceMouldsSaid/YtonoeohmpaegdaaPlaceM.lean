/- mostPlaced: the greatest number of moulds that can be placed; a set of holes is a number. -/
import Derived.Test.YtonoeohmpaegdaaPlaceP
import Derived.Test.YtonoeohmpaegdaaHolesFor
namespace Go.Proofs.Ytonoeohmpaegdaa
set_option linter.unusedVariables false
set_option linter.unusedSimpArgs false
open Go.RowKit

/-- the holes of a number -/
def setU (u : Nat) : Nat → Bool := fun j => u.testBit j
theorem setU_upd (u i : Nat) : setU (u ||| 1 <<< i) = upd (setU u) i := by
  funext j
  unfold setU upd
  rw [Nat.testBit_or, Nat.one_shiftLeft, Nat.testBit_two_pow]
  by_cases h : i = j
  · subst h; simp
  · rw [decide_eq_false h, show (j == i) = false from beq_eq_false_iff_ne.2 (fun e => h e.symm)]
theorem setU_lt {u i : Nat} (hu : u < 256) (hi : i < 8) : u ||| 1 <<< i < 256 := by
  have h : 1 <<< i < 2 ^ 8 := by rw [Nat.one_shiftLeft]; exact Nat.pow_lt_pow_right (by decide) hi
  exact Nat.or_lt_two_pow (n := 8) hu h
theorem bits_and8 : ∀ u : Fin 256, ∀ x : Fin 8, bits BinOp.and IntKind.i64 (((u : Nat) : Int) / 2 ^ (x : Nat)) 1 = (bif (u : Nat).testBit (x : Nat) then 1 else 0 : Int) := by decide +kernel
theorem bits_or8 : ∀ u : Fin 256, ∀ x : Fin 8, bits BinOp.or IntKind.i64 ((u : Nat) : Int) (2 ^ (x : Nat)) = (((u : Nat) ||| 1 <<< (x : Nat) : Nat) : Int) := by decide +kernel
theorem and8 {u x : Nat} (hu : u < 256) (hx : x < 8) {b : Bool} (hb : setU u x = b) : bits BinOp.and IntKind.i64 ((u : Int) / 2 ^ x) 1 = (bif b then 1 else 0 : Int) := by
  have := bits_and8 ⟨u, hu⟩ ⟨x, hx⟩
  subst hb
  exact this
theorem or8 {u x : Nat} (hu : u < 256) (hx : x < 8) : bits BinOp.or IntKind.i64 (u : Int) (2 ^ x) = ((u ||| 1 <<< x : Nat) : Int) := bits_or8 ⟨u, hu⟩ ⟨x, hx⟩
theorem pow8' : ∀ x : Fin 8, IntKind.i64.wrap ((2 : Int) ^ (x : Nat)) = (2 : Int) ^ (x : Nat) := by decide +kernel
theorem pow8 {x : Nat} (hx : x < 8) : IntKind.i64.wrap ((2 : Int) ^ x) = (2 : Int) ^ x := pow8' ⟨x, hx⟩
theorem setU_zero : setU 0 = fun _ => false := by funext j; simp [setU]
theorem bit_is (u i : Nat) : (u >>> i) &&& 1 = bif setU u i then 1 else 0 := by
  unfold setU
  rw [Nat.testBit]
  cases h : (1 &&& u >>> i != 0)
  · simp at h
    rw [Nat.and_comm]
    simpa using h
  · rw [Nat.and_comm]
    simp at h
    have := Nat.and_one_is_mod (u >>> i)
    rw [Nat.and_comm] at this
    simp only [cond_true]
    omega
/-- the holes among the first k that meet f -/
def hitN (f : Nat → Bool) : Nat → List Nat
  | 0 => []
  | k + 1 => bif f k then hitN f k ++ [k] else hitN f k
theorem hitN_map (f : Nat → Bool) : ∀ k, hits f k = (hitN f k).map fun i => ((i : Nat) : Int)
  | 0 => rfl
  | k + 1 => by
    unfold hits hitN
    rw [hitN_map f k]
    cases f k <;> simp
theorem hitN_lt (f : Nat → Bool) : ∀ k, ∀ i ∈ hitN f k, i < k
  | 0, i, h => by cases h
  | k + 1, i, h => by
    unfold hitN at h
    cases q : f k
    · rw [q, cond_false] at h
      have := hitN_lt f k i h
      omega
    · rw [q, cond_true] at h
      rcases List.mem_append.1 h with h | h
      · have := hitN_lt f k i h
        omega
      · have := List.mem_singleton.1 h
        omega
/-- the numbers of a list -/
def chP (l : List Nat) (j : Nat) : Int := ((l[j]?.getD 0 : Nat) : Int)
theorem chP_at {l : List Nat} {j : Nat} (h : j < l.length) : chP l j = ((l[j] : Nat) : Int) := by simp [chP, h]
theorem hitP_eq (f : Nat → Bool) (n : Nat) : hitP f n = chP (hitN f n) := by
  funext j
  unfold hitP chP
  rw [hitN_map, List.getElem?_map]
  cases (hitN f n)[j]? <;> rfl
theorem hits_len2 (f : Nat → Bool) (n : Nat) : (hits f n).length = (hitN f n).length := by rw [hitN_map, List.length_map]
/-- r lists of holes, from list k on, at ⟨g, o⟩ -/
def ChAt (w : World) (g o r : Nat) (ch : Nat → List Nat) (k : Nat) : Prop := ∀ i, i < r → ∃ A c, w.cell? ⟨g, o + i, none⟩ = some (.slice A (ch (k + i)).length c) ∧ IntRow w A (ch (k + i)).length (chP (ch (k + i)))
theorem ChAt.keep {w w' : World} {g o r : Nat} {ch : Nat → List Nat} {k : Nat} (h : ChAt w g o r ch k) (hb : Below w.heap.size w w') : ChAt w' g o r ch k := fun i hi => by
  obtain ⟨A, c, h1, h2⟩ := h i hi
  exact ⟨A, c, cell_keep hb h1, h2.keep hb⟩
theorem ChAt.tail {w : World} {g o r : Nat} {ch : Nat → List Nat} {k : Nat} (h : ChAt w g o (r + 1) ch k) : ChAt w g (o + 1) r ch (k + 1) := fun i hi => by
  have := h (i + 1) (by omega)
  rw [show o + (i + 1) = o + 1 + i by omega, show k + (i + 1) = k + 1 + i by omega] at this
  exact this
theorem ChAt.drop {w : World} {g o n : Nat} {ch : Nat → List Nat} (h : ChAt w g o n ch 0) {k : Nat} (hk : k ≤ n) : ChAt w g (o + k) (n - k) ch k := fun i hi => by
  have := h (k + i) (by omega)
  rw [show o + (k + i) = o + k + i by omega, show 0 + (k + i) = k + i by omega] at this
  exact this
def stepM (ch : Nat → List Nat) (r k u : Nat) (a i : Nat) : Nat := if setU u i = true then a else max a (1 + mostC ch r (k + 1) (upd (setU u) i))
theorem stepM_le (ch : Nat → List Nat) (r k u : Nat) : ∀ (l : List Nat) (a : Nat), a ≤ r + 1 → l.foldl (stepM ch r k u) a ≤ r + 1
  | [], a, h => h
  | i :: l, a, h => stepM_le ch r k u l _ (by
      have := most_le ch r (k + 1) (upd (setU u) i)
      unfold stepM
      split <;> omega)
theorem fold_take {α : Type} (f : α → Nat → α) (l : List Nat) (a : α) {j : Nat} (h : j < l.length) : (l.take (j + 1)).foldl f a = f ((l.take j).foldl f a) l[j] := by
  rw [List.take_succ_eq_append_getElem h, List.foldl_append]; rfl
theorem most_M (ch : Nat → List Nat) (r k u : Nat) : mostC ch (r + 1) k (setU u) = (ch k).foldl (stepM ch r k u) (mostC ch r (k + 1) (setU u)) := rfl
theorem sizeCh_calls (A : Option Addr) (n c : Nat) (w : World) (hn : n ≤ 1048576) :
    Calls Try.prog 89 #[.slice A n c] w fun e w' => e = .returned (.int .i64 n) ∧ w = w' := by
  go_enter Try.func89, Try.ntmps89
  go_wp2
  go_ret
  exact ⟨rfl, rfl⟩
set_option maxRecDepth 20000 in
set_option maxHeartbeats 4000000 in
theorem mostPlaced_calls (ch : Nat → List Nat) (h8 : ∀ k, ∀ i ∈ ch k, i < 8) (hL : ∀ k, (ch k).length ≤ 8) : ∀ (r k g o c u : Nat) (w : World), ChAt w g o r ch k → r ≤ 8 → r ≤ c → c ≤ maxLen → u < 256 →
    Calls Try.prog 47 #[.slice (some ⟨g, o, none⟩) r c, .int .i64 u] w fun e w' => e = .returned (.int .i64 (mostC ch r k (setU u))) ∧ Below w.heap.size w w' := by
  intro r
  induction r with
  | zero =>
    intro k g o c u w _ _ _ _ _
    go_enter Try.func47, Try.ntmps47
    go_wp2
    go_ret
    exact ⟨rfl, Below.refl _ _⟩
  | succ r ih =>
    intro k g o c u w h hr hc hm hu
    have IH := Lib.hid ih
    clear ih
    obtain ⟨A0, c0, x0, hrow0⟩ := h 0 (by omega)
    simp only [Nat.add_zero] at x0 hrow0
    have hLk := hL k
    have H8 := Lib.hid (h8 k)
    have HT := Lib.hid h.tail
    have HROW := Lib.hid hrow0
    obtain ⟨L, hLe⟩ : ∃ L, L = (ch k).length := ⟨_, rfl⟩
    rw [← hLe] at x0 hLk HROW
    have HLE := Lib.hid hLe
    unfold maxLen at hm
    clear h hrow0 hLe
    rcases (show (c = 1 ∧ r = 0) ∨ (2 ≤ c ∧ ¬ c = 1) by omega) with ⟨rfl, rfl⟩ | ⟨hc2, hc3⟩
    · have HTL : Hid (ChAt w g o 0 ch (k + 1)) := Lib.hid fun i hi => absurd hi (Nat.not_lt_zero _)
      go_enter Try.func47, Try.ntmps47
      go_wp2_with (go_at_call 47; refine (IH.out (k + 1) g o 0 u w HTL.out (by omega) (by omega) (by unfold maxLen; omega) hu).mono ?_; rintro e w1 ⟨rfl, hb1⟩; have x9 := cell_keep hb1 x0; have HB1 := Lib.hid hb1; clear hb1 x0)
      go_loopw [19, 5] (fun vi va wr => ∃ j a : Nat, j ≤ L ∧ vi = .int .i64 j ∧ va = .int .i64 a ∧ a ≤ 0 + 1 ∧ Hid (a = ((ch k).take j).foldl (stepM ch 0 k u) (mostC ch 0 (k + 1) (setU u))) ∧ Hid (Below w.heap.size w wr)) (fun vi _ _ => L - (intOf vi).toNat)
      case atStart => exact ⟨0, _, by omega, rfl, rfl, by have := most_le ch 0 (k + 1) (setU u); omega, Lib.hid rfl, HB1⟩
      case round =>
        obtain ⟨j, a, hj, rfl, rfl, ha, hfold, hwr⟩ := hrel
        by_cases hlt : j < L
        · obtain ⟨x, hx⟩ : ∃ x, x = (ch k)[j]'(by rw [← HLE.out]; exact hlt) := ⟨_, rfl⟩
          have hx8 : x < 8 := H8.out x (by rw [hx]; exact List.getElem_mem _)
          obtain ⟨b0, o0, rfl, hrow⟩ := HROW.out (by omega)
          have c1 : wr.cell? ⟨b0, o0 + j, none⟩ = some (.int .i64 x) := by
            rw [hx, ← chP_at (by rw [← HLE.out]; exact hlt)]
            exact (hwr.out.cell (p := ⟨b0, o0 + j, none⟩) (cell_lt (hrow j hlt))).trans (hrow j hlt)
          have hst : ((ch k).take (j + 1)).foldl (stepM ch 0 k u) (mostC ch 0 (k + 1) (setU u)) = stepM ch 0 k u a x := by
            rw [fold_take _ _ _ (by rw [← HLE.out]; exact hlt), ← hfold.out, ← hx]
          have HST := Lib.hid hst
          have HR := Lib.hid hrow
          clear hst hrow hx
          cases qb : setU u x
          · have hand : bits BinOp.and IntKind.i64 ((u : Int) / 2 ^ x) 1 = 0 := and8 hu hx8 qb
            have hor := or8 hu hx8
            have hw2 := pow8 hx8
            have hle1 : (1 : Int) ≤ (0 : Int) + 1 := by omega
            have hml := most_le ch 0 (k + 1) (upd (setU u) x)
            have hst2 : stepM ch 0 k u a x = max a (1 + mostC ch 0 (k + 1) (upd (setU u) x)) := by unfold stepM; rw [qb]; rfl
            by_cases hlt2 : a < 0 + 1
            · have hlt3 : (a : Int) < (0 : Int) + 1 := by omega
              have HC := Lib.hid (show ∀ W, Below w.heap.size w W → Calls Try.prog 47 #[.slice (some ⟨g, o, none⟩) 0 0, .int .i64 ((u ||| 1 <<< x : Nat) : Int)] W (fun e w' => e = .returned (.int .i64 (mostC ch 0 (k + 1) (upd (setU u) x) : Nat)) ∧ Below W.heap.size W w') from fun W hW => by
                have h3 := IH.out (k + 1) g o 0 (u ||| 1 <<< x) W (HTL.out.keep hW) (by omega) (by omega) (by unfold maxLen; omega) (setU_lt hu hx8)
                rwa [setU_upd] at h3)
              generalize hM : mostC ch 0 (k + 1) (upd (setU u) x) = M at HC hml hst2
              have ew : IntKind.i64.wrap (1 + (M : Int)) = 1 + (M : Int) := IntWalk.i64_in _ ⟨by omega, by omega⟩
              have HS2 := Lib.hid (HST.out.trans hst2)
              clear hst2 hM
              go_wp2_with (go_at_call 89; refine (sizeCh_calls _ _ _ _ (by omega)).mono ?_; rintro e w5 ⟨rfl, rfl⟩)
              refine wp_gen (fun W0 hW0 => ?_)
              have s0_ : Below w.heap.size w W0 := by rw [hW0]; exact hwr.out
              have s1_ : w.heap.size ≤ W0.heap.size := by rw [hW0]; exact hwr.out.size
              clear hW0
              refine wp_region_held_drew (S := fun w' => Below w.heap.size w w' ∧ w.heap.size ≤ w'.heap.size) (by kernel_rfl) ?_ (fun hHeld => ?_)
              · exact ⟨s0_.drew, s1_⟩
              clear s0_ s1_
              refine take_yes (i := 0) (d := 34) (v := ?_) _ rfl rfl (by kernel_rfl) (by kernel_rfl) (by kernel_rfl) (fun _ _ _ _ h => h) (by rfl) ?_ (by assumption) ?_
              rotate_left 1
              · ((intro w hSw; (try dsimp only at hSw); go_simp) <;> (try with_reducible rfl))
              (try simp only [Act.put, List.setIfInBounds_toArray, List.set_cons_zero, List.set_cons_succ])
              refine take_yes (i := 1) (d := 35) (v := ?_) _ rfl rfl (by kernel_rfl) (by kernel_rfl) (by kernel_rfl) (fun _ _ _ _ h => h) (by rfl) ?_ (by assumption) ?_
              rotate_left 1
              · ((intro w hSw; (try dsimp only at hSw); go_simp) <;> (try with_reducible rfl))
              (try simp only [Act.put, List.setIfInBounds_toArray, List.set_cons_zero, List.set_cons_succ])
              refine take_yes (i := 2) (d := 36) (v := ?_) _ rfl rfl (by kernel_rfl) (by kernel_rfl) (by kernel_rfl) (fun _ _ _ _ h => h) (by rfl) ?_ (by assumption) ?_
              rotate_left 1
              · ((intro w hSw; (try dsimp only at hSw); go_simp) <;> (try with_reducible rfl))
              (try simp only [Act.put, List.setIfInBounds_toArray, List.set_cons_zero, List.set_cons_succ])
              refine take_yes (i := 3) (d := 37) (v := ?_) _ rfl rfl (by kernel_rfl) (by kernel_rfl) (by kernel_rfl) (fun _ _ _ _ h => h) (by rfl) ?_ (by assumption) ?_
              rotate_left 1
              · ((intro w hSw; (try dsimp only at hSw); go_simp) <;> (try with_reducible rfl))
              (try simp only [Act.put, List.setIfInBounds_toArray, List.set_cons_zero, List.set_cons_succ])
              refine take_yes (i := 4) (d := 38) (v := ?_) _ rfl rfl (by kernel_rfl) (by kernel_rfl) (by kernel_rfl) (fun _ _ _ _ h => h) (by rfl) ?_ (by assumption) ?_
              rotate_left 1
              · ((intro w hSw; (try dsimp only at hSw); go_simp) <;> (try with_reducible rfl))
              (try simp only [Act.put, List.setIfInBounds_toArray, List.set_cons_zero, List.set_cons_succ])
              refine take_yes (i := 5) (d := 39) (v := ?_) _ rfl rfl (by kernel_rfl) (by kernel_rfl) (by kernel_rfl) (fun _ _ _ _ h => h) (by rfl) ?_ (by assumption) ?_
              rotate_left 1
              · ((intro w hSw; (try dsimp only at hSw); go_simp) <;> (try with_reducible rfl))
              (try simp only [Act.put, List.setIfInBounds_toArray, List.set_cons_zero, List.set_cons_succ])
              refine take_yes (i := 6) (d := 40) (v := ?_) _ rfl rfl (by kernel_rfl) (by kernel_rfl) (by kernel_rfl) (fun _ _ _ _ h => h) (by rfl) ?_ (by assumption) ?_
              rotate_left 1
              · ((intro w hSw; (try dsimp only at hSw); go_simp) <;> (try with_reducible rfl))
              (try simp only [Act.put, List.setIfInBounds_toArray, List.set_cons_zero, List.set_cons_succ])
              (refine wpAnyH_ready (rs := [7]) (by kernel_rfl) (by simp) ?_; refine AllReadyH.cons rfl (fun K hK => ?_) AllReadyH.nil; go_simp; go_at_call 47; refine (HC.out _ hHeld.1).mono ?_; rintro e wd ⟨rfl, hb⟩; refine hK.out _ _ (by obtain ⟨x0_, x1_⟩ := hHeld; exact ⟨x0_.trans (hb.mono x0_.size), Nat.le_trans x1_ hb.size⟩) (fun hHeld2 => ?_); clear hK K hHeld hb; have hHeld := hHeld2; clear hHeld2; (try simp only [Act.put, List.setIfInBounds_toArray, List.set_cons_zero, List.set_cons_succ]))
              refine take_yes (i := 8) (d := 42) (v := ?_) _ rfl rfl (by kernel_rfl) (by kernel_rfl) (by kernel_rfl) (fun _ _ _ _ h => h) (by rfl) ?_ (by assumption) ?_
              rotate_left 1
              · ((intro w hSw; (try dsimp only at hSw); go_simp) <;> (try with_reducible rfl))
              (try simp only [Act.put, List.setIfInBounds_toArray, List.set_cons_zero, List.set_cons_succ])
              refine take_yes (i := 9) (d := 43) (v := ?_) _ rfl rfl (by kernel_rfl) (by kernel_rfl) (by kernel_rfl) (fun _ _ _ _ h => h) (by rfl) ?_ (by assumption) ?_
              rotate_left 1
              · ((intro w hSw; (try dsimp only at hSw); go_simp) <;> (try with_reducible rfl))
              (try simp only [Act.put, List.setIfInBounds_toArray, List.set_cons_zero, List.set_cons_succ])
              refine take_yes (i := 10) (d := 5) (v := ?_) _ rfl rfl (by kernel_rfl) (by kernel_rfl) (by kernel_rfl) (fun _ _ _ _ h => h) (by rfl) ?_ (by assumption) ?_
              rotate_left 1
              · ((intro w hSw; (try dsimp only at hSw); go_simp) <;> (try with_reducible rfl))
              (try simp only [Act.put, List.setIfInBounds_toArray, List.set_cons_zero, List.set_cons_succ])
              refine wpAnyH_done (by kernel_rfl) ?_ _
              obtain ⟨z0, z1⟩ := hHeld
              by_cases hmx : (a : Int) < 1 + (M : Int)
              · have HS3 := Lib.hid (show stepM ch 0 k u a x = 1 + M by rw [← HST.out, HS2.out]; omega)
                go_wp2
                go_roundw
                case rel => exact ⟨j + 1, 1 + M, by omega, by go_num, by simp only [if_pos hmx]; congr 1, by omega, Lib.hid (by rw [HST.out, HS3.out]), Lib.hid z0⟩
                case measure => simp [intOf]; omega
              · have HS3 := Lib.hid (show stepM ch 0 k u a x = a by rw [← HST.out, HS2.out]; omega)
                go_wp2
                go_roundw
                case rel => exact ⟨j + 1, a, by omega, by go_num, by simp only [if_neg hmx], by omega, Lib.hid (by rw [HST.out, HS3.out]), Lib.hid z0⟩
                case measure => simp [intOf]; omega
            · have HS2 := Lib.hid (show stepM ch 0 k u a x = a by rw [hst2]; omega)
              have hlt3 : ¬ (a : Int) < (0 : Int) + 1 := by omega
              clear hst2 hml
              go_wp2_with (go_at_call 89; refine (sizeCh_calls _ _ _ _ (by omega)).mono ?_; rintro e w5 ⟨rfl, rfl⟩)
              go_roundw
              case rel => exact ⟨j + 1, a, by omega, by go_num, rfl, ha, Lib.hid (by rw [HST.out, HS2.out]), hwr⟩
              case measure => simp [intOf]; omega
          · have hand : bits BinOp.and IntKind.i64 ((u : Int) / 2 ^ x) 1 = 1 := and8 hu hx8 qb
            have HS2 := Lib.hid (show stepM ch 0 k u a x = a by unfold stepM; rw [qb]; rfl)
            go_wp2
            go_roundw
            case rel => exact ⟨j + 1, a, by omega, by go_num, rfl, ha, Lib.hid (by rw [HST.out, HS2.out]), hwr⟩
            case measure => simp [intOf]; omega
        · obtain rfl : L = j := by omega
          have HF := Lib.hid (show a = mostC ch (0 + 1) k (setU u) by rw [hfold.out, HLE.out, List.take_length]; rfl)
          go_wp2
          go_ret
          exact ⟨ret_int (by rw [HF.out]), hwr.out⟩
    · have HTL := HT
      go_enter Try.func47, Try.ntmps47
      go_wp2_with (go_at_call 47; refine (IH.out (k + 1) g (o + 1) (c - 1) u w HTL.out (by omega) (by omega) (by unfold maxLen; omega) hu).mono ?_; rintro e w1 ⟨rfl, hb1⟩; have x9 := cell_keep hb1 x0; have HB1 := Lib.hid hb1; clear hb1 x0)
      go_loopw [19, 5] (fun vi va wr => ∃ j a : Nat, j ≤ L ∧ vi = .int .i64 j ∧ va = .int .i64 a ∧ a ≤ r + 1 ∧ Hid (a = ((ch k).take j).foldl (stepM ch r k u) (mostC ch r (k + 1) (setU u))) ∧ Hid (Below w.heap.size w wr)) (fun vi _ _ => L - (intOf vi).toNat)
      case atStart => exact ⟨0, _, by omega, rfl, rfl, by have := most_le ch r (k + 1) (setU u); omega, Lib.hid rfl, HB1⟩
      case round =>
        obtain ⟨j, a, hj, rfl, rfl, ha, hfold, hwr⟩ := hrel
        by_cases hlt : j < L
        · obtain ⟨x, hx⟩ : ∃ x, x = (ch k)[j]'(by rw [← HLE.out]; exact hlt) := ⟨_, rfl⟩
          have hx8 : x < 8 := H8.out x (by rw [hx]; exact List.getElem_mem _)
          obtain ⟨b0, o0, rfl, hrow⟩ := HROW.out (by omega)
          have c1 : wr.cell? ⟨b0, o0 + j, none⟩ = some (.int .i64 x) := by
            rw [hx, ← chP_at (by rw [← HLE.out]; exact hlt)]
            exact (hwr.out.cell (p := ⟨b0, o0 + j, none⟩) (cell_lt (hrow j hlt))).trans (hrow j hlt)
          have hst : ((ch k).take (j + 1)).foldl (stepM ch r k u) (mostC ch r (k + 1) (setU u)) = stepM ch r k u a x := by
            rw [fold_take _ _ _ (by rw [← HLE.out]; exact hlt), ← hfold.out, ← hx]
          have HST := Lib.hid hst
          have HR := Lib.hid hrow
          clear hst hrow hx
          cases qb : setU u x
          · have hand : bits BinOp.and IntKind.i64 ((u : Int) / 2 ^ x) 1 = 0 := and8 hu hx8 qb
            have hor := or8 hu hx8
            have hw2 := pow8 hx8
            have hle1 : (1 : Int) ≤ (r : Int) + 1 := by omega
            have hml := most_le ch r (k + 1) (upd (setU u) x)
            have hst2 : stepM ch r k u a x = max a (1 + mostC ch r (k + 1) (upd (setU u) x)) := by unfold stepM; rw [qb]; rfl
            by_cases hlt2 : a < r + 1
            · have hlt3 : (a : Int) < (r : Int) + 1 := by omega
              have HC := Lib.hid (show ∀ W, Below w.heap.size w W → Calls Try.prog 47 #[.slice (some ⟨g, (o + 1), none⟩) r (c - 1), .int .i64 ((u ||| 1 <<< x : Nat) : Int)] W (fun e w' => e = .returned (.int .i64 (mostC ch r (k + 1) (upd (setU u) x) : Nat)) ∧ Below W.heap.size W w') from fun W hW => by
                have h3 := IH.out (k + 1) g (o + 1) (c - 1) (u ||| 1 <<< x) W (HTL.out.keep hW) (by omega) (by omega) (by unfold maxLen; omega) (setU_lt hu hx8)
                rwa [setU_upd] at h3)
              generalize hM : mostC ch r (k + 1) (upd (setU u) x) = M at HC hml hst2
              have ew : IntKind.i64.wrap (1 + (M : Int)) = 1 + (M : Int) := IntWalk.i64_in _ ⟨by omega, by omega⟩
              have HS2 := Lib.hid (HST.out.trans hst2)
              clear hst2 hM
              go_wp2_with (go_at_call 89; refine (sizeCh_calls _ _ _ _ (by omega)).mono ?_; rintro e w5 ⟨rfl, rfl⟩)
              refine wp_gen (fun W0 hW0 => ?_)
              have s0_ : Below w.heap.size w W0 := by rw [hW0]; exact hwr.out
              have s1_ : w.heap.size ≤ W0.heap.size := by rw [hW0]; exact hwr.out.size
              clear hW0
              refine wp_region_held_drew (S := fun w' => Below w.heap.size w w' ∧ w.heap.size ≤ w'.heap.size) (by kernel_rfl) ?_ (fun hHeld => ?_)
              · exact ⟨s0_.drew, s1_⟩
              clear s0_ s1_
              refine take_yes (i := 0) (d := 34) (v := ?_) _ rfl rfl (by kernel_rfl) (by kernel_rfl) (by kernel_rfl) (fun _ _ _ _ h => h) (by rfl) ?_ (by assumption) ?_
              rotate_left 1
              · ((intro w hSw; (try dsimp only at hSw); go_simp) <;> (try with_reducible rfl))
              (try simp only [Act.put, List.setIfInBounds_toArray, List.set_cons_zero, List.set_cons_succ])
              refine take_yes (i := 1) (d := 35) (v := ?_) _ rfl rfl (by kernel_rfl) (by kernel_rfl) (by kernel_rfl) (fun _ _ _ _ h => h) (by rfl) ?_ (by assumption) ?_
              rotate_left 1
              · ((intro w hSw; (try dsimp only at hSw); go_simp) <;> (try with_reducible rfl))
              (try simp only [Act.put, List.setIfInBounds_toArray, List.set_cons_zero, List.set_cons_succ])
              refine take_yes (i := 2) (d := 36) (v := ?_) _ rfl rfl (by kernel_rfl) (by kernel_rfl) (by kernel_rfl) (fun _ _ _ _ h => h) (by rfl) ?_ (by assumption) ?_
              rotate_left 1
              · ((intro w hSw; (try dsimp only at hSw); go_simp) <;> (try with_reducible rfl))
              (try simp only [Act.put, List.setIfInBounds_toArray, List.set_cons_zero, List.set_cons_succ])
              refine take_yes (i := 3) (d := 37) (v := ?_) _ rfl rfl (by kernel_rfl) (by kernel_rfl) (by kernel_rfl) (fun _ _ _ _ h => h) (by rfl) ?_ (by assumption) ?_
              rotate_left 1
              · ((intro w hSw; (try dsimp only at hSw); go_simp) <;> (try with_reducible rfl))
              (try simp only [Act.put, List.setIfInBounds_toArray, List.set_cons_zero, List.set_cons_succ])
              refine take_yes (i := 4) (d := 38) (v := ?_) _ rfl rfl (by kernel_rfl) (by kernel_rfl) (by kernel_rfl) (fun _ _ _ _ h => h) (by rfl) ?_ (by assumption) ?_
              rotate_left 1
              · ((intro w hSw; (try dsimp only at hSw); go_simp) <;> (try with_reducible rfl))
              (try simp only [Act.put, List.setIfInBounds_toArray, List.set_cons_zero, List.set_cons_succ])
              refine take_yes (i := 5) (d := 39) (v := ?_) _ rfl rfl (by kernel_rfl) (by kernel_rfl) (by kernel_rfl) (fun _ _ _ _ h => h) (by rfl) ?_ (by assumption) ?_
              rotate_left 1
              · ((intro w hSw; (try dsimp only at hSw); go_simp) <;> (try with_reducible rfl))
              (try simp only [Act.put, List.setIfInBounds_toArray, List.set_cons_zero, List.set_cons_succ])
              refine take_yes (i := 6) (d := 40) (v := ?_) _ rfl rfl (by kernel_rfl) (by kernel_rfl) (by kernel_rfl) (fun _ _ _ _ h => h) (by rfl) ?_ (by assumption) ?_
              rotate_left 1
              · ((intro w hSw; (try dsimp only at hSw); go_simp) <;> (try with_reducible rfl))
              (try simp only [Act.put, List.setIfInBounds_toArray, List.set_cons_zero, List.set_cons_succ])
              (refine wpAnyH_ready (rs := [7]) (by kernel_rfl) (by simp) ?_; refine AllReadyH.cons rfl (fun K hK => ?_) AllReadyH.nil; go_simp; go_at_call 47; refine (HC.out _ hHeld.1).mono ?_; rintro e wd ⟨rfl, hb⟩; refine hK.out _ _ (by obtain ⟨x0_, x1_⟩ := hHeld; exact ⟨x0_.trans (hb.mono x0_.size), Nat.le_trans x1_ hb.size⟩) (fun hHeld2 => ?_); clear hK K hHeld hb; have hHeld := hHeld2; clear hHeld2; (try simp only [Act.put, List.setIfInBounds_toArray, List.set_cons_zero, List.set_cons_succ]))
              refine take_yes (i := 8) (d := 42) (v := ?_) _ rfl rfl (by kernel_rfl) (by kernel_rfl) (by kernel_rfl) (fun _ _ _ _ h => h) (by rfl) ?_ (by assumption) ?_
              rotate_left 1
              · ((intro w hSw; (try dsimp only at hSw); go_simp) <;> (try with_reducible rfl))
              (try simp only [Act.put, List.setIfInBounds_toArray, List.set_cons_zero, List.set_cons_succ])
              refine take_yes (i := 9) (d := 43) (v := ?_) _ rfl rfl (by kernel_rfl) (by kernel_rfl) (by kernel_rfl) (fun _ _ _ _ h => h) (by rfl) ?_ (by assumption) ?_
              rotate_left 1
              · ((intro w hSw; (try dsimp only at hSw); go_simp) <;> (try with_reducible rfl))
              (try simp only [Act.put, List.setIfInBounds_toArray, List.set_cons_zero, List.set_cons_succ])
              refine take_yes (i := 10) (d := 5) (v := ?_) _ rfl rfl (by kernel_rfl) (by kernel_rfl) (by kernel_rfl) (fun _ _ _ _ h => h) (by rfl) ?_ (by assumption) ?_
              rotate_left 1
              · ((intro w hSw; (try dsimp only at hSw); go_simp) <;> (try with_reducible rfl))
              (try simp only [Act.put, List.setIfInBounds_toArray, List.set_cons_zero, List.set_cons_succ])
              refine wpAnyH_done (by kernel_rfl) ?_ _
              obtain ⟨z0, z1⟩ := hHeld
              by_cases hmx : (a : Int) < 1 + (M : Int)
              · have HS3 := Lib.hid (show stepM ch r k u a x = 1 + M by rw [← HST.out, HS2.out]; omega)
                go_wp2
                go_roundw
                case rel => exact ⟨j + 1, 1 + M, by omega, by go_num, by simp only [if_pos hmx]; congr 1, by omega, Lib.hid (by rw [HST.out, HS3.out]), Lib.hid z0⟩
                case measure => simp [intOf]; omega
              · have HS3 := Lib.hid (show stepM ch r k u a x = a by rw [← HST.out, HS2.out]; omega)
                go_wp2
                go_roundw
                case rel => exact ⟨j + 1, a, by omega, by go_num, by simp only [if_neg hmx], by omega, Lib.hid (by rw [HST.out, HS3.out]), Lib.hid z0⟩
                case measure => simp [intOf]; omega
            · have HS2 := Lib.hid (show stepM ch r k u a x = a by rw [hst2]; omega)
              have hlt3 : ¬ (a : Int) < (r : Int) + 1 := by omega
              clear hst2 hml
              go_wp2_with (go_at_call 89; refine (sizeCh_calls _ _ _ _ (by omega)).mono ?_; rintro e w5 ⟨rfl, rfl⟩)
              go_roundw
              case rel => exact ⟨j + 1, a, by omega, by go_num, rfl, ha, Lib.hid (by rw [HST.out, HS2.out]), hwr⟩
              case measure => simp [intOf]; omega
          · have hand : bits BinOp.and IntKind.i64 ((u : Int) / 2 ^ x) 1 = 1 := and8 hu hx8 qb
            have HS2 := Lib.hid (show stepM ch r k u a x = a by unfold stepM; rw [qb]; rfl)
            go_wp2
            go_roundw
            case rel => exact ⟨j + 1, a, by omega, by go_num, rfl, ha, Lib.hid (by rw [HST.out, HS2.out]), hwr⟩
            case measure => simp [intOf]; omega
        · obtain rfl : L = j := by omega
          have HF := Lib.hid (show a = mostC ch (r + 1) k (setU u) by rw [hfold.out, HLE.out, List.take_length]; rfl)
          go_wp2
          go_ret
          exact ⟨ret_int (by rw [HF.out]), hwr.out⟩
end Go.Proofs.Ytonoeohmpaegdaa
