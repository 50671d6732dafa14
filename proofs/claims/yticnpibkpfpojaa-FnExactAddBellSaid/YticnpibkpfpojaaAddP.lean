/- The program's copies and the bell put in: where it goes, what lies apart. -/
import Derived.Test.YticnpibkpfpojaaAddS
import Derived.Test.YticnpibkpfpojaaInsB
import Derived.Test.YticnpibkpfpojaaConcB
import Derived.Test.YticnpibkpfpojaaMeltN
namespace Go.Proofs.Yticnpibkpfpojaa
set_option linter.unusedVariables false
open Go.RowKit


theorem okB_srt {f : Nat → BellV} {n : Nat} (h : okBells f n = true) : Srt (fun q => (f q).id) n := srt_of fun k hk => by
  unfold okBells bellsOk at h
  simp only [Bool.and_eq_true] at h
  have h1 := allB_of h.1 (k + 1) hk
  unfold goodAt at h1
  simp only [Bool.and_eq_true, Bool.or_eq_true] at h1
  rcases h1.2 with h2 | h2
  · simp at h2
  · exact h2
theorem allKnown_ins (g : Nat → MeltV) (m : Nat) (f : Nat → BellV) (n : Nat) (x : BellV) : allKnown (fun q => (g q).id) m (insF f n x) (n + 1) = (allKnown (fun q => (g q).id) m f n && knownB (fun q => (g q).id) m x) := by
  show (allB (fun i => knownB (fun q => (g q).id) m (insF f n x i)) n && knownB (fun q => (g q).id) m (insF f n x n)) = _
  rw [insF_at]
  congr 1
  unfold allKnown
  cases h : allB (fun i => knownB (fun q => (g q).id) m (f i)) n
  · obtain ⟨i, hi, h2⟩ : ∃ i, i < n ∧ knownB (fun q => (g q).id) m (f i) = false := by
      obtain ⟨i, hi, -, h2⟩ := fno_hit2 h
      exact ⟨i, hi, h2⟩
    exact allB_no hi (by show knownB _ m (insF f n x i) = false; rw [insF_lo hi]; exact h2)
  · exact allB_yes fun i hi => by show knownB _ m (insF f n x i) = true; rw [insF_lo hi]; exact allB_of h i hi
theorem pos_half {f : Nat → BellV} {n k : Nat} {x : BellV} (hh : Half (fun q => (f q).id) n x.id k k) (s : Srt (fun q => (f q).id) n) (hk : k ≤ n) (hno : hasB f x n = false) : posA f x n = k := by
  obtain ⟨h1, h2⟩ := hh s
  obtain ⟨p1, p2, p3⟩ := posA_spec f x n
  rcases Nat.lt_trichotomy (posA f x n) k with q | q | q
  · have a := h1 _ q
    have b := p3 (by omega)
    have := ltS_trans a b
    rw [ltS_irrefl] at this; cases this
  · exact q
  · have hkn : k < n := by omega
    have a := h2 k (Nat.le_refl _) hkn
    have b := p2 k q
    have c := ltS_total (f k).id x.id
    rw [show ltS (f k).id x.id = false from a, b] at c
    have d : eqS (f k).id x.id = true := by simpa using c
    have : hasB f x n = true := anyB_hit hkn d
    rw [hno] at this; cases this
/-- lists of bells live behind what writes another row of bells alone -/
theorem BellsX.grow {w w' : World} {base b2 top k m : Nat} {v : Value} {xs ys : List Value} {f : Nat → BellV} (h : BellsX w base top xs k f) (ho : w.ownsRow b2 38 5 v m ys) (hg : w.grownBy w' v.ownBlock) : BellsX w' base top xs k f := by
  obtain ⟨hl, gs, cs, hx, hap⟩ := h
  refine ⟨hl, gs, cs, fun i hi => ?_, hap⟩
  obtain ⟨a, a4, a5, a6, a7⟩ := hx i hi
  refine ⟨a, a4, a5, a6, ?_⟩
  obtain ⟨arr, hb, ha⟩ := a7
  refine ⟨arr, (hg.block _ hb.lt (fun e => ?_)).trans hb, ha⟩
  rcases ho.2 with ⟨rfl, -⟩ | ⟨g3, cap, cur, rfl, -, h3, -⟩
  · cases e
  · have e2 := Option.some.inj e
    have h4 : Blk w (gs i) 38 cur := by rw [show gs i = g3 from e2]; exact h3
    have := (hb.uniq h4).1
    exact absurd this (by decide)
theorem ShareOwnC.grow {w w' : World} {b2 m n G c : Nat} {v : Value} {ys : List Value} {ss : Nat → ByteArray} {ms : Nat → Int} (h : ShareOwnC w n ss ms G c) (ho : w.ownsRow b2 38 5 v m ys) (hg : w.grownBy w' v.ownBlock) : ShareOwnC w' n ss ms G c := by
  obtain ⟨arr, hb, ha⟩ := h
  refine ⟨arr, (hg.block G hb.lt (fun e => ?_)).trans hb, ha⟩
  rcases ho.2 with ⟨rfl, -⟩ | ⟨g3, cap, cur, rfl, -, h3, -⟩
  · cases e
  · have e2 : G = g3 := Option.some.inj e
    subst e2
    have := (hb.uniq (show Blk w G 38 cur from h3)).1
    exact absurd this (by decide)
theorem BellsX.insert {w : World} {base n k top top' G c : Nat} {xs : List Value} {f : Nat → BellV} {x : BellV} (h : BellsX w base top xs n f) (hG : top ≤ G) (hGt : G < top') (hbt : base ≤ top) (hs : ShareOwnC w x.n x.ss x.ms G c) (hk : k ≤ n) : BellsX w base top' (xs.take (k * 5) ++ bellC x (.slice (some ⟨G, 0, none⟩) x.n c) ++ xs.drop (k * 5)) (n + 1) (insF f k x) := by
  obtain ⟨hl, gs, cs, hx, hap⟩ := h
  have hbl : (bellC x (.slice (some ⟨G, 0, none⟩) x.n c)).length = 5 := rfl
  have htl : (xs.take (k * 5)).length = k * 5 := by rw [List.length_take]; omega
  refine ⟨by simp [hl, bellC]; omega, fun i => if i < k then gs i else if i = k then G else gs (i - 1), fun i => if i < k then cs i else if i = k then c else cs (i - 1), fun i hi => ?_, fun i j hij hj => ?_⟩
  · rcases Nat.lt_trichotomy i k with q | q | q
    · have e : ∀ r, r < 5 → (xs.take (k * 5) ++ bellC x (.slice (some ⟨G, 0, none⟩) x.n c) ++ xs.drop (k * 5))[i * 5 + r]? = xs[i * 5 + r]? := fun r hr => by
        rw [List.getElem?_append_left (by rw [List.length_append]; omega), List.getElem?_append_left (by omega), List.getElem?_take, if_pos (by omega)]
      obtain ⟨⟨a0, a1, a2, a3⟩, a4, a5, a6, a7⟩ := hx i (by omega)
      rw [insF_lo q]
      show BellX _ _ _ _ _ _ (if i < k then gs i else if i = k then G else gs (i - 1)) (if i < k then cs i else if i = k then c else cs (i - 1))
      rw [if_pos q, if_pos q]
      exact ⟨⟨(e 0 (by omega)).trans a0, (e 1 (by omega)).trans a1, (e 2 (by omega)).trans a2, (e 3 (by omega)).trans a3⟩, (e 4 (by omega)).trans a4, a5, by omega, a7⟩
    · subst q
      have e : ∀ r, r < 5 → (xs.take (i * 5) ++ bellC x (.slice (some ⟨G, 0, none⟩) x.n c) ++ xs.drop (i * 5))[i * 5 + r]? = (bellC x (.slice (some ⟨G, 0, none⟩) x.n c))[r]? := fun r hr => by
        rw [List.getElem?_append_left (by rw [List.length_append]; omega), List.getElem?_append_right (by omega), htl, show i * 5 + r - i * 5 = r by omega]
      rw [insF_at]
      show BellX _ _ _ _ _ _ (if i < i then gs i else if i = i then G else gs (i - 1)) (if i < i then cs i else if i = i then c else cs (i - 1))
      rw [if_neg (by omega), if_pos rfl, if_neg (by omega), if_pos rfl]
      exact ⟨⟨(e 0 (by omega)).trans rfl, (e 1 (by omega)).trans rfl, (e 2 (by omega)).trans rfl, (e 3 (by omega)).trans rfl⟩, (e 4 (by omega)).trans rfl, by omega, hGt, hs⟩
    · obtain ⟨i, rfl⟩ : ∃ j, i = j + 1 := ⟨i - 1, by omega⟩
      have e : ∀ r, r < 5 → (xs.take (k * 5) ++ bellC x (.slice (some ⟨G, 0, none⟩) x.n c) ++ xs.drop (k * 5))[(i + 1) * 5 + r]? = xs[i * 5 + r]? := fun r hr => by
        rw [List.getElem?_append_right (by rw [List.length_append]; omega), List.length_append, htl, hbl, List.getElem?_drop]
        congr 1
        omega
      obtain ⟨⟨a0, a1, a2, a3⟩, a4, a5, a6, a7⟩ := hx i (by omega)
      rw [insF_hi (by omega)]
      show BellX _ _ _ _ _ _ (if i + 1 < k then gs (i + 1) else if i + 1 = k then G else gs (i + 1 - 1)) (if i + 1 < k then cs (i + 1) else if i + 1 = k then c else cs (i + 1 - 1))
      rw [if_neg (by omega), if_neg (by omega), if_neg (by omega), if_neg (by omega)]
      exact ⟨⟨(e 0 (by omega)).trans a0, (e 1 (by omega)).trans a1, (e 2 (by omega)).trans a2, (e 3 (by omega)).trans a3⟩, (e 4 (by omega)).trans a4, a5, Nat.lt_of_lt_of_le a6 (by omega), a7⟩
  · have lt : ∀ i, i < n → gs i ≠ G := fun i hi => by have := (hx i hi).2.2.2.1; omega
    show (if i < k then gs i else if i = k then G else gs (i - 1)) ≠ (if j < k then gs j else if j = k then G else gs (j - 1))
    rcases Nat.lt_trichotomy i k with q | q | q <;> rcases Nat.lt_trichotomy j k with r | r | r
    · rw [if_pos q, if_pos r]; exact hap i j hij (by omega)
    · rw [if_pos q, if_neg (by omega), if_pos r]; exact lt i (by omega)
    · rw [if_pos q, if_neg (by omega), if_neg (by omega)]; exact hap i (j - 1) (by omega) (by omega)
    · omega
    · omega
    · rw [if_neg (by omega), if_pos q, if_neg (by omega), if_neg (by omega)]; exact (lt (j - 1) (by omega)).symm
    · omega
    · omega
    · rw [if_neg (by omega), if_neg (by omega), if_neg (by omega), if_neg (by omega)]; exact hap (i - 1) (j - 1) (by omega) (by omega)
theorem new_ofB {B : Nat} {w W : World} {t : TypeId} {cs : Array Value} (_ : Below B w (W.alloc (.cells cs t))) : Blk (W.alloc (.cells cs t)) W.heap.size t cs := Blk.new W t cs
theorem own_slice {w : World} {base e size n : Nat} {v : Value} {xs : List Value} (h : w.ownsRow base e size v n xs) : ∃ A c, v = .slice A n c := by
  rcases h.2 with ⟨q, h0⟩ | ⟨g, cap, cur, q, -⟩
  · exact ⟨none, 0, by rw [q, h0]⟩
  · exact ⟨_, _, q⟩
/-- the program's copy of a list -/
def CopyOf (base : Nat) (v : Value) (n : Nat) (xs : List Value) (f : Nat → BellV) (W : World) : Prop := W.ownsRow base 38 5 v n xs ∧ BellsX W base W.heap.size xs n f ∧ base ≤ W.heap.size
theorem BellsX.raise {w : World} {base top top' k : Nat} {xs : List Value} {f : Nat → BellV} (h : BellsX w base top xs k f) (ht : top ≤ top') : BellsX w base top' xs k f := by
  obtain ⟨hl, gs, cs, hx, hap⟩ := h
  exact ⟨hl, gs, cs, fun i hi => by
    obtain ⟨a, a4, a5, a6, a7⟩ := hx i hi
    exact ⟨a, a4, a5, by omega, a7⟩, hap⟩
theorem BellsX.base {w : World} {base base' top k : Nat} {xs : List Value} {f : Nat → BellV} (h : BellsX w base top xs k f) (ht : base' ≤ base) : BellsX w base' top xs k f := by
  obtain ⟨hl, gs, cs, hx, hap⟩ := h
  exact ⟨hl, gs, cs, fun i hi => by
    obtain ⟨a, a4, a5, a6, a7⟩ := hx i hi
    exact ⟨a, a4, by omega, a6, a7⟩, hap⟩
theorem own_base {w : World} {base base' e size n : Nat} {v : Value} {xs : List Value} (h : w.ownsRow base e size v n xs) (ht : base' ≤ base) : w.ownsRow base' e size v n xs := by
  rcases h.2 with ⟨q, h0⟩ | ⟨g, cap, cur, q, q1, q2⟩
  · exact ⟨h.1, .inl ⟨q, h0⟩⟩
  · exact ⟨h.1, .inr ⟨g, cap, cur, q, by omega, q2⟩⟩
theorem CopyOf.keep {base : Nat} {v : Value} {n : Nat} {xs : List Value} {f : Nat → BellV} {W W' : World} (h : CopyOf base v n xs f W) (hb : Below W.heap.size W W') : CopyOf base v n xs f W' := ⟨own_keep h.1 hb, (h.2.1.keep hb).raise hb.size, Nat.le_trans h.2.2 hb.size⟩
theorem copyAll_calls (base : Nat) (A : Option Addr) (n c : Nat) (f : Nat → BellV) (w : World) (h : BellRow w A n f) (hf : ∀ i, i < n → 0 < (f i).n ∧ (f i).n ≤ 1048576) (hn : n ≤ 1048576) (hbw : base ≤ w.heap.size) :
    Calls Try.prog 38 #[.slice A n c] w fun e w' => ∃ A1 c1 xs, e = .returned (.slice A1 n c1) ∧ CopyOf base (.slice A1 n c1) n xs f w' ∧ Below w.heap.size w w' := by
  refine (copyBells_calls A n c f w h hf hn).mono ?_
  rintro e w' ⟨v, xs, rfl, ho, hx, hb⟩
  obtain ⟨A1, c1, rfl⟩ := own_slice ho
  exact ⟨A1, c1, xs, rfl, ⟨own_base ho hbw, hx.base hbw, Nat.le_trans hbw hb.size⟩, hb⟩
/-- the copy of one bell, behind the copy of a list -/
theorem copyOne_calls (base : Nat) (v : Value) (n : Nat) (xs : List Value) (f : Nat → BellV) (vb : Nat) (x : BellV) (C : Option Addr) (e2 : Nat) (w : World) (h0 : 0 < x.n) (hx : x.n ≤ 1048576) (hC : CopyOf base v n xs f w) (hB : Blk w vb 38 #[.string x.id, .int .i64 x.no, .int .i64 x.ma, .int .i64 x.fe, .slice C x.n e2]) (hsh : ShareRow w C x.n x.ss x.ms) :
    Calls Try.prog 38 #[.slice (some ⟨vb, 0, none⟩) 1 1] w fun e w' => ∃ g2 c2 G c3, e = .returned (.slice (some ⟨g2, 0, none⟩) 1 c2) ∧ (w'.cell? ⟨g2, 0, none⟩ = some (.string x.id) ∧ w'.cell? ⟨g2, 1, none⟩ = some (.int .i64 x.no) ∧ w'.cell? ⟨g2, 2, none⟩ = some (.int .i64 x.ma) ∧ w'.cell? ⟨g2, 3, none⟩ = some (.int .i64 x.fe) ∧ w'.cell? ⟨g2, 4, none⟩ = some (.slice (some ⟨G, 0, none⟩) x.n c3)) ∧ (∃ top, w'.ownsRow base 38 5 v n xs ∧ (∀ z, v.ownBlock = some z → z < top) ∧ BellsX w' base top xs n f ∧ base ≤ top ∧ top ≤ G ∧ G < w'.heap.size ∧ ShareOwnC w' x.n x.ss x.ms G c3) ∧ Below w.heap.size w w' := by
  refine (copyBells_calls (some ⟨vb, 0, none⟩) 1 1 (fun _ => x) w (fun _ => ⟨vb, 0, rfl, fun i hi => by rw [show 0 + i * 5 = 0 by omega]; exact bellAt_blk hB hsh⟩) (fun _ _ => ⟨h0, hx⟩) (by omega)).mono ?_
  rintro e w' ⟨v2, xs2, rfl, ho, hX, hb⟩
  obtain ⟨g, cap, cur, hv, hg, hbk, hc, hm, hs, hxx⟩ := own_blk ho (by omega)
  obtain ⟨hl2, gs, cs, hx2, -⟩ := hX
  obtain ⟨⟨a0, a1, a2, a3⟩, a4, a5, a6, a7⟩ := hx2 0 (by omega)
  have e : ∀ r u, r < 5 → xs2[0 * 5 + r]? = some u → w'.cell? ⟨g, r, none⟩ = some u := fun r u hr hu => by
    rw [hbk.cell, hxx _ (by omega), ← hu]
    congr 1
    omega
  exact ⟨g, cap, gs 0, cs 0, by rw [hv], ⟨e 0 _ (by omega) a0, e 1 _ (by omega) a1, e 2 _ (by omega) a2, e 3 _ (by omega) a3, e 4 _ (by omega) a4⟩, ⟨w.heap.size, own_keep hC.1 hb, fun z hz => (hC.1.lt z hz).2, hC.2.1.keep hb, hC.2.2, a5, a6, a7⟩, hb⟩
set_option maxHeartbeats 1000000 in
theorem addBell1_calls (s : ByteArray) (no ma fe : Int) (A : Option Addr) (n c : Nat) (x : ByteArray) (w : World) :
    Calls Try.prog 29 #[.agg #[.string s, .int .i64 no, .int .i64 ma, .int .i64 fe, .slice A n c], .string x] w fun e w' => e = .returned (.int .i64 (cmpS s x)) ∧ Below w.heap.size w w' := by
  have hal := (Below.refl w.heap.size w).alloc (Nat.le_refl _) (.cells #[.string s, .int .i64 no, .int .i64 ma, .int .i64 fe, .slice A n c] 38)
  have HAL := Lib.hid hal
  clear hal
  go_enter Try.func29, Try.ntmps29
  go_wp2_with (go_at_call 30; refine (compareS_calls _ _ _).mono ?_; rintro e w1 ⟨rfl, rfl⟩)
  go_ret
  exact ⟨rfl, HAL.out⟩
set_option maxRecDepth 20000 in
set_option maxHeartbeats 4000000 in
theorem bellSearch (A : Option Addr) (n c : Nat) (f : Nat → BellV) (x : ByteArray) (w : World) (h : BellRow w A n f) (hn : n ≤ 1048576) (hp : ∀ k W AK CK, k < n → Below w.heap.size w W → Calls Try.prog 29 #[.agg #[.string (f k).id, .int .i64 (f k).no, .int .i64 (f k).ma, .int .i64 (f k).fe, .slice AK (f k).n CK], .string x] W fun e w' => e = .returned (.int .i64 (cmpS ((fun q => (f q).id) k) x)) ∧ Below W.heap.size W w') :
    Calls Try.prog 28 #[.slice A n c, .string x, .func (.func 29) #[] #[]] w fun e w' => (∃ k : Nat, e = .returned (.tuple #[.int .i64 k, .bool (decide (k < n) && eqS ((fun q => (f q).id) k) x)]) ∧ k ≤ n ∧ Half (fun q => (f q).id) n x k k) ∧ Below w.heap.size w w' := by
  have H := Lib.hid h
  have HP := Lib.hid hp
  clear h hp
  go_enter Try.func28, Try.ntmps28
  go_wp2
  go_loopw [9, 10] (fun a b wr => ∃ i j : Nat, i ≤ j ∧ j ≤ n ∧ a = .int .i64 i ∧ b = .int .i64 j ∧ Hid (Half (fun q => (f q).id) n x i j) ∧ Below w.heap.size w wr) (fun a b _ => (intOf b - intOf a).toNat)
  case atStart => exact ⟨0, n, by omega, by omega, rfl, rfl, Lib.hid (Half.start _ _ _), Below.refl _ _⟩
  case round =>
    obtain ⟨i, j, hij, hjn, rfl, rfl, hh, hbr⟩ := hrel
    by_cases hlt : i < j
    · obtain ⟨k, hk⟩ : ∃ k, k = (i + j) / 2 := ⟨_, rfl⟩
      have hki : i ≤ k := by omega
      have hkj : k < j := by omega
      have hkn : k < n := by omega
      have u1 : IntKind.u64.wrap ((i : Int) + j) = (i : Int) + j := by
        unfold IntKind.wrap; simp [IntKind.bits, IntKind.signed]; omega
      have u2 : ((i : Int) + j) / 2 = (k : Int) := by omega
      have u3 : ((i : Int) + j) >>> 1 = (k : Int) := by rw [Int.shiftRight_eq_div_pow]; omega
      have u4 : IntKind.i64.wrap (k : Int) = (k : Int) := IntWalk.i64_in _ ⟨by omega, by omega⟩
      have u5 : IntKind.u64.wrap (k : Int) = (k : Int) := by
        unfold IntKind.wrap; simp [IntKind.bits, IntKind.signed]; omega
      clear hk
      obtain ⟨b, o, rfl, hrow⟩ := H.out (by omega)
      obtain ⟨AK, CK, c0, c1, c2, c3, c4, -⟩ := (hrow k hkn).keep hbr
      have HR := Lib.hid hrow
      clear hrow
      have HC := Lib.hid (HP.out k wr AK CK hkn hbr)
      have hcn := cmpS_neg ((fun q => (f q).id) k) x
      generalize hcv : cmpS ((fun q => (f q).id) k) x = cv at HC hcn
      cases q1 : ltS ((fun q => (f q).id) k) x
      · rw [q1] at hcn
        have hcn2 : ¬ cv < 0 := by simpa using hcn
        go_wp2_with (go_at_call 29; with_reducible refine HC.out.mono ?_; rintro e w1 ⟨rfl, hb⟩; have hbr2 := hbr.trans (hb.mono hbr.size); clear hb)
        go_roundw
        case rel => exact ⟨i, k, by omega, by omega, rfl, rfl, Lib.hid (hh.out.down q1), hbr2⟩
        case measure => simp [intOf]; omega
      · rw [q1] at hcn
        have hcn2 : cv < 0 := by simpa using hcn
        go_wp2_with (go_at_call 29; with_reducible refine HC.out.mono ?_; rintro e w1 ⟨rfl, hb⟩; have hbr2 := hbr.trans (hb.mono hbr.size); clear hb)
        go_roundw
        case rel => exact ⟨k + 1, j, by omega, by omega, by go_num, rfl, Lib.hid (hh.out.up hki hkn q1), hbr2⟩
        case measure => simp [intOf]; omega
    · obtain rfl : i = j := by omega
      by_cases hin : i < n
      · obtain ⟨b, o, rfl, hrow⟩ := H.out (by omega)
        have k := i
        obtain ⟨AK, CK, c0, c1, c2, c3, c4, -⟩ := (hrow i hin).keep hbr
        have HR := Lib.hid hrow
        clear hrow
        have HC := Lib.hid (HP.out i wr AK CK hin hbr)
        have hcz := cmpS_zero ((fun q => (f q).id) i) x
        generalize hcv : cmpS ((fun q => (f q).id) i) x = cv at HC hcz
        have hd : decide (i < n) = true := decide_eq_true hin
        go_wp2_with (go_at_call 29; with_reducible refine HC.out.mono ?_; rintro e w1 ⟨rfl, hb⟩; have hbr2 := hbr.trans (hb.mono hbr.size); clear hb)
        refine bodyPost_ret (v := .tuple #[.int .i64 i, .bool (eqS ((fun q => (f q).id) i) x)]) (by simp [results, Try.results28, go_sem]) rfl ?_
        exact ⟨⟨i, by rw [hd, Bool.true_and], by omega, hh.out⟩, hbr2⟩
      · have hd : decide (i < n) = false := decide_eq_false hin
        have hd2 : decide ((i : Int) < n) = false := decide_eq_false (by omega)
        go_wp2
        refine bodyPost_ret (v := .tuple #[.int .i64 i, .bool false]) (by simp [results, Try.results28, go_sem]) rfl ?_
        exact ⟨⟨i, by simp [hd], by omega, hh.out⟩, hbr⟩
end Go.Proofs.Yticnpibkpfpojaa
