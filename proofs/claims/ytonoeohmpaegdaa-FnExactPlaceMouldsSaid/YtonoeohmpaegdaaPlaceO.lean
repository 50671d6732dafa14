/- PlaceMoulds: words for its result; which arguments are valid; the plain facts on the first placing. -/
import Derived.Test.YtonoeohmpaegdaaPlaceM
import Derived.Test.YtonoeohmpaegdaaProfL
import Derived.Test.YtonoeohmpaegdaaProfR
import Derived.Test.YtonoeohmpaegdaaMarkT
namespace Go.Proofs.Ytonoeohmpaegdaa
set_option linter.unusedVariables false
open Go.RowKit


set_option maxHeartbeats 1000000 in
theorem anyProf_index (A : Option Addr) (n c : Nat) (f : Nat → ProfV) (p : Nat → Bool) (w : World) (h : ProfRow w A n f) (hn : n ≤ 1048576) (hp : ∀ k W AK CK, k < n → Below w.heap.size w W → RingRow W AK (f k).n (f k).p (f k).q (f k).h → Calls Try.prog 42 #[.agg #[.string (f k).id, .slice AK (f k).n CK]] W fun e w' => e = .returned (.bool (p k)) ∧ Below W.heap.size W w') :
    Calls Try.prog 80 #[.slice A n c, .func (.func 42) #[] #[]] w fun e w' => (∃ x : Int, decide (0 ≤ x) = anyB p n ∧ e = .returned (.int .i64 x)) ∧ Below w.heap.size w w' := by
  have H := Lib.hid h
  have HP := Lib.hid hp
  generalize hres : anyB p n = R
  have HRES := Lib.hid hres
  clear h hp hres
  go_enter Try.func80, Try.ntmps80
  go_wp2
  go_loopw [8] (fun i wr => ∃ k : Nat, k ≤ n ∧ i = .int .i64 k ∧ Hid (allB (fun i => !p i) k = true) ∧ Below w.heap.size w wr) (fun i _ => n - (intOf i).toNat)
  case atStart => exact ⟨0, by omega, rfl, rfl, Below.refl _ _⟩
  case round =>
    obtain ⟨k, hk, rfl, hgood, hbr⟩ := hrel
    by_cases hlt : k < n
    · obtain ⟨b, o, rfl, hrow⟩ := H.out (by omega)
      obtain ⟨AK, CK, c0, c1, c3⟩ := (hrow k hlt).keep hbr
      have HR := Lib.hid hrow
      have HC := Lib.hid (HP.out k wr AK CK hlt hbr c3)
      clear hrow c3
      cases q1 : p k
      · rw [q1] at HC
        go_wp2_with (go_at_call 42; with_reducible refine HC.out.mono ?_; rintro e w1 ⟨rfl, hb⟩; have hbr2 := hbr.trans (hb.mono hbr.size); clear hb)
        go_roundw
        case rel => exact ⟨k + 1, by omega, by go_num, Lib.hid (by rw [show allB (fun i => !p i) (k + 1) = (allB (fun i => !p i) k && !p k) from rfl, hgood.out, q1]; rfl), hbr2⟩
        case measure => simp [intOf]; omega
      · rw [q1] at HC
        go_wp2_with (go_at_call 42; with_reducible refine HC.out.mono ?_; rintro e w1 ⟨rfl, hb⟩; have hbr2 := hbr.trans (hb.mono hbr.size); clear hb)
        go_ret
        exact ⟨⟨k, by rw [← HRES.out, anyB_hit hlt q1]; exact decide_eq_true (by omega), rfl⟩, hbr2⟩
    · obtain rfl : k = n := by omega
      go_wp2
      go_ret
      exact ⟨⟨-1, by rw [← HRES.out]; simp [anyB, hgood.out], rfl⟩, hbr⟩
set_option maxHeartbeats 400000 in
theorem anyProf (A : Option Addr) (n c : Nat) (f : Nat → ProfV) (p : Nat → Bool) (w : World) (h : ProfRow w A n f) (hn : n ≤ 1048576) (hp : ∀ k W AK CK, k < n → Below w.heap.size w W → RingRow W AK (f k).n (f k).p (f k).q (f k).h → Calls Try.prog 42 #[.agg #[.string (f k).id, .slice AK (f k).n CK]] W fun e w' => e = .returned (.bool (p k)) ∧ Below W.heap.size W w') :
    Calls Try.prog 41 #[.slice A n c, .func (.func 42) #[] #[]] w fun e w' => e = .returned (.bool (anyB p n)) ∧ Below w.heap.size w w' := by
  go_enter Try.func41, Try.ntmps41
  go_wp2_with (go_at_call 80; refine (anyProf_index A n c f p w h hn hp).mono ?_; rintro e w1 ⟨⟨x, hx, rfl⟩, hb⟩)
  go_ret
  exact ⟨by first | rfl | exact ret_bool hx, hb⟩
set_option maxHeartbeats 400000 in
theorem place1_calls (s : ByteArray) (A : Option Addr) (n c : Nat) (p q h : Nat → Int) (w : World) (hs : s.size ≤ maxLen) (hr : RingRow w A n p q h) (hn : n ≤ 1048576) :
    Calls Try.prog 42 #[.agg #[.string s, .slice A n c]] w fun e w' => e = .returned (.bool (!profB s n p q h)) ∧ Below w.heap.size w w' := by
  have hB := (Below.refl w.heap.size w).alloc (Nat.le_refl _) (.cells #[.string s, .slice A n c] 69)
  have H := Lib.hid (hr.below hB (Nat.le_refl _))
  have HB := Lib.hid hB
  clear hr hB
  go_enter Try.func42, Try.ntmps42
  go_wp2_with (go_at_call 43; refine (ValidProfile_calls _ _ _ _ _ _ _ _ hs H.out hn).mono ?_; rintro e w1 ⟨rfl, hb⟩; have HB2 := Lib.hid (HB.out.trans (hb.mono HB.out.size)); clear hb)
  go_ret
  exact ⟨rfl, HB2.out⟩
/-- whether all profiles of a list are valid -/
noncomputable def profsB (f : Nat → ProfV) (n : Nat) : Bool := !anyB (fun i => !profV (f i)) n
def fitF (f : Nat → ProfV) (wall : Int) (hr hd : Nat → Int) (k i : Nat) : Bool := fitH (f k).p (f k).h (f k).n wall (hr i) (hd i)
def pmCh (f : Nat → ProfV) (wall : Int) (m : Nat) (hr hd : Nat → Int) (k : Nat) : List Nat := hitN (fitF f wall hr hd k) m
noncomputable def pmOk (f : Nat → ProfV) (n : Nat) (wall : Int) (m : Nat) (ht : Nat → ByteArray) (hr hd : Nat → Int) : Bool := profsB f n && (allB (goodAt (fun i => holeB (ht i) (hr i) (hd i)) ht) m && decide ((m : Int) ≤ 8))
noncomputable def pmC (f : Nat → ProfV) (n : Nat) (wall : Int) (m : Nat) (ht : Nat → ByteArray) (hr hd : Nat → Int) : Int := bif pmOk f n wall m ht hr hd then (bif inB wall 1 150000 then (bif decide (8 < n) then 5 else 0) else 2) else 1
noncomputable def pmL (f : Nat → ProfV) (n : Nat) (wall : Int) (m : Nat) (ht : Nat → ByteArray) (hr hd : Nat → Int) : List Int := bif pmOk f n wall m ht hr hd && inB wall 1 150000 && !decide (8 < n) then greedyC (pmCh f wall m hr hd) n 0 (setU 0) else []
def lstF (l : List Int) (j : Nat) : Int := (l[j]?).getD 0
theorem lst_ints (l : List Int) : l.map (Value.int .i64) = intsL (lstF l) l.length := by
  apply List.ext_getElem?
  intro i
  rcases Nat.lt_or_ge i l.length with h | h
  · rw [intsL_at _ h]
    simp [lstF, h]
  · simp [intsL, h]
def PmOut (w : World) (f : Nat → ProfV) (n : Nat) (wall : Int) (m : Nat) (ht : Nat → ByteArray) (hr hd : Nat → Int) (e : Ending) (w' : World) : Prop :=
  ∃ v, e = .returned (.tuple #[v, .int .i64 (pmC f n wall m ht hr hd)]) ∧ IntsOut w (pmL f n wall m ht hr hd).length (lstF (pmL f n wall m ht hr hd)) v w'
theorem PmOut.none {w w' : World} {f : Nat → ProfV} {n : Nat} {wall : Int} {m : Nat} {ht : Nat → ByteArray} {hr hd : Nat → Int} (hb : Below w.heap.size w w') {k : Int} (h1 : pmL f n wall m ht hr hd = []) (h2 : pmC f n wall m ht hr hd = k) : PmOut w f n wall m ht hr hd (.returned (.tuple #[.slice none 0 0, .int .i64 k])) w' := by
  unfold PmOut
  rw [h1, h2]
  exact ⟨_, rfl, Option.none, 0, w.heap.size, rfl, fun h0 => absurd h0 (Nat.lt_irrefl _), Nat.le_refl _, hb⟩
theorem pmOut_own {w w' : World} {base : Nat} {v : Value} {l : List Int} (ho : w'.ownsRow base 2 1 v l.length (l.map (Value.int .i64))) (h1 : w.heap.size ≤ base) (h2 : base ≤ w'.heap.size) (hb : Below w.heap.size w w') : IntsOut w l.length (lstF l) v w' := by
  rw [lst_ints] at ho
  obtain ⟨A, c, G, hv, hi, hg⟩ := intOwn_of ho h2
  exact ⟨A, c, G, hv, hi, Nat.le_trans h1 hg, hb⟩
theorem profsB_of {f : Nat → ProfV} {n : Nat} (h : profsB f n = true) : ∀ i, i < n → profV (f i) = true := fun i hi => by
  unfold profsB at h
  have h2 : anyB (fun i => !profV (f i)) n = false := by simpa using h
  cases e : profV (f i)
  · have := anyB_hit (p := fun i => !profV (f i)) hi (by simp [e])
    rw [h2] at this
    cases this
  · rfl
theorem greedyC_len (ch : Nat → List Nat) : ∀ (r k : Nat) (U : Nat → Bool), (greedyC ch r k U).length = r
  | 0, _, _ => rfl
  | r + 1, k, U => by
    rw [greedyC]
    split
    · simp [greedyC_len ch r]
    · simp [greedyC_len ch r]
/-- the hole that is taken for mould k -/
def takeP (ch : Nat → List Nat) (r k u x : Nat) : Bool := !setU u x && (1 + mostC ch r (k + 1) (upd (setU u) x) == mostC ch (r + 1) k (setU u))
theorem greedy_hit {ch : Nat → List Nat} {r k u x : Nat} (h : (ch k).find? (takeP ch r k u) = some x) : greedyC ch (r + 1) k (setU u) = (x : Int) :: greedyC ch r (k + 1) (setU (u ||| 1 <<< x)) ∧ mostC ch (r + 1) k (setU u) = 1 + mostC ch r (k + 1) (setU (u ||| 1 <<< x)) := by
  have h2 := List.find?_some h
  unfold takeP at h h2
  rw [setU_upd]
  refine ⟨by rw [greedyC, h], ?_⟩
  have h3 := (Bool.and_eq_true _ _ |>.mp h2).2
  exact (eq_of_beq h3).symm
theorem greedy_miss {ch : Nat → List Nat} {r k u : Nat} (h : (ch k).find? (takeP ch r k u) = none) : greedyC ch (r + 1) k (setU u) = -1 :: greedyC ch r (k + 1) (setU u) ∧ mostC ch (r + 1) k (setU u) = mostC ch r (k + 1) (setU u) := by
  unfold takeP at h
  refine ⟨by rw [greedyC, h], ?_⟩
  rw [find_eq] at h
  have hb := best_is ch r k (setU u)
  cases e : bestC ch r k (setU u) with
  | none => exact (greedy_none (Or.inr e)).1
  | some p =>
    obtain ⟨x, i⟩ := p
    rw [e] at hb
    rcases Nat.lt_or_ge x (mostC ch r (k + 1) (setU u)) with h1 | h1
    · exact (greedy_none (Or.inl (by rw [e]; exact h1))).1
    · rw [(greedy_take e h1).1, hb.2.1] at h
      cases h
theorem find_take {p : Nat → Bool} {l : List Nat} {j : Nat} (hj : j < l.length) (h : ∀ i (hi : i < j), p (l[i]'(by omega)) = false) (hx : p l[j] = true) : l.find? p = some l[j] := by
  rw [List.find?_eq_some_iff_getElem]
  exact ⟨hx, j, hj, rfl, fun i hi => by simp [h i hi]⟩
theorem find_no {p : Nat → Bool} {l : List Nat} (h : ∀ i (hi : i < l.length), p l[i] = false) : l.find? p = none := by
  rw [List.find?_eq_none]
  intro x hx
  obtain ⟨i, hi, rfl⟩ := List.getElem_of_mem hx
  simp [h i hi]
theorem mostNone_calls (A : Option Addr) (c u : Nat) (w : World) : Calls Try.prog 47 #[.slice A 0 c, .int .i64 u] w fun e w' => e = .returned (.int .i64 0) ∧ Below w.heap.size w w' := by
  go_enter Try.func47, Try.ntmps47
  go_wp2
  go_ret
  exact ⟨rfl, Below.refl _ _⟩
theorem ints_info : (Try.prog.info? 26).map (fun i => (i.zero, i.size, i.bytes)) = some (some (.slice none 0 0), 1, 24) := by kernel_rfl
theorem isMouldWallP_calls (x : Int) (w : World) : Calls Try.prog 45 #[.int .i64 x] w fun e w' => e = .returned (.bool (inB x 1 150000)) ∧ w = w' := by
  go_enter Try.func45, Try.ntmps45
  go_wp2_with (go_at_call 87; refine (within_calls _ _ _ _).mono ?_; rintro e w1 ⟨rfl, rfl⟩)
  go_ret
  exact ⟨rfl, rfl⟩
theorem own_sl {w : World} {base : Nat} {e : TypeId} {size : Nat} {v : Value} {n : Nat} {xs : List Value} (h : w.ownsRow base e size v n xs) : ∃ A c, v = .slice A n c := by
  rcases h.2 with ⟨hv, h0⟩ | ⟨g, cap, cur, hv, -⟩
  · subst h0
    exact ⟨_, _, hv⟩
  · exact ⟨_, _, hv⟩
/-- lists of holes that have been made: each lies in a block of its own -/
def ChOwn (w : World) (xs : List Value) (k : Nat) (ch : Nat → List Nat) : Prop := xs.length = k ∧ ∀ i, i < k → ∃ A c G, xs[i]? = some (.slice A (ch i).length c) ∧ IntOwn w A (ch i).length (chP (ch i)) G
theorem ChOwn.keep {w w' : World} {xs : List Value} {k : Nat} {ch : Nat → List Nat} (h : ChOwn w xs k ch) (hb : Below w.heap.size w w') : ChOwn w' xs k ch := ⟨h.1, fun i hi => by
  obtain ⟨A, c, G, h1, h2⟩ := h.2 i hi
  exact ⟨A, c, G, h1, h2.keep hb⟩⟩
theorem ChOwn.snoc {w w' : World} {base k : Nat} {v : Value} {xs : List Value} {ch : Nat → List Nat} {o : Obj} {A : Option Addr} {c G : Nat} (h : ChOwn w xs k ch) (ho : w.ownsRow base 26 1 v k xs) (hn : IntOwn w A (ch k).length (chP (ch k)) G) (hg : (w.alloc o).grownBy w' v.ownBlock) : ChOwn w' (xs ++ [.slice A (ch k).length c]) (k + 1) ch := by
  have hne : ∀ {A2 : Option Addr} {n2 G2 : Nat} {p : Nat → Int}, IntOwn w A2 n2 p G2 → IntOwn w' A2 n2 p G2 := fun {A2 n2 G2 p} hi h0 => by
    obtain ⟨hA, arr, hb, hs, ha⟩ := hi h0
    refine ⟨hA, arr, (hg.block G2 (hb.alloc o).lt (fun e => ?_)).trans (hb.alloc o), hs, ha⟩
    rcases ho.2 with ⟨rfl, -⟩ | ⟨g, cap, cur, rfl, -, h3, -⟩
    · cases e
    · have e2 : G2 = g := Option.some.inj e
      subst e2
      have := (hb.uniq (show Blk w G2 26 cur from h3)).1
      exact absurd this (by decide)
  refine ⟨by simp [h.1], fun i hi => ?_⟩
  rcases Nat.lt_or_ge i k with q | q
  · obtain ⟨A2, c2, G2, h1, h2⟩ := h.2 i q
    exact ⟨A2, c2, G2, by rw [List.getElem?_append_left (by have := h.1; omega)]; exact h1, hne h2⟩
  · obtain rfl : i = k := by omega
    exact ⟨A, c, G, by rw [List.getElem?_append_right (by have := h.1; omega)]; simp [h.1], hne hn⟩
theorem ChOwn.at {w : World} {base n g cap : Nat} {xs : List Value} {ch : Nat → List Nat} (h : ChOwn w xs n ch) (ho : w.ownsRow base 26 1 (.slice (some ⟨g, 0, none⟩) n cap) n xs) : ChAt w g 0 n ch 0 := fun i hi => by
  obtain ⟨A, c, G, h1, h2⟩ := h.2 i hi
  rcases ho.2 with ⟨hv, -⟩ | ⟨g2, cap2, cur, hv, -, h3, -, -, -, h4⟩
  · cases hv
  · simp only [Value.slice.injEq, Option.some.injEq, Addr.mk.injEq, and_true, true_and] at hv
    obtain ⟨rfl, rfl⟩ := hv
    refine ⟨A, c, ?_, by rw [Nat.zero_add]; exact h2.row⟩
    rw [Nat.zero_add, (show Blk w g 26 cur from h3).cell i]
    have h5 := congrArg (fun l => l[i]?) h4
    simp only [List.getElem?_take, Nat.mul_one, if_pos hi] at h5
    rw [h1] at h5
    simpa using h5
end Go.Proofs.Ytonoeohmpaegdaa
