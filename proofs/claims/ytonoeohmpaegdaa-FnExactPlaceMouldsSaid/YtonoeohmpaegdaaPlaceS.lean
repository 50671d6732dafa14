/- PlaceMoulds (the reference's). -/
import Derived.Test.YtonoeohmpaegdaaPlaceO
import Derived.Test.YtonoeohmpaegdaaPlaceW
import Derived.Test.YtonoeohmpaegdaaFitS
namespace Go.Proofs.Ytonoeohmpaegdaa
set_option linter.unusedVariables false
set_option linter.unusedSimpArgs false
open Go.RowKit

theorem boolP_info : (Try.prog.info? 4).map (fun i => (i.zero, i.size, i.bytes)) = some (some (.bool false), 1, 1) := by kernel_rfl
theorem boolsP_info : (Try.prog.info? 73).map (fun i => (i.zero, i.size, i.bytes)) = some (some (.slice none 0 0), 1, 24) := by kernel_rfl
def boolsL (f : Nat → Bool) (k : Nat) : List Value := (List.range k).map fun i => .bool (f i)
theorem boolsL_succ (f : Nat → Bool) (k : Nat) : boolsL f k ++ [.bool (f k)] = boolsL f (k + 1) := by simp [boolsL, List.range_succ]
theorem boolsL_at (f : Nat → Bool) {k i : Nat} (h : i < k) : (boolsL f k)[i]? = some (.bool (f i)) := by simp [boolsL, h]
/-- rows of what fits, each in a block of its own -/
def RowsB (w : World) (base : Nat) (xs : List Value) (k m : Nat) (F : Nat → Nat → Bool) : Prop := xs.length = k ∧ ∀ i, i < k → ∃ A c, xs[i]? = some (.slice A m c) ∧ (0 < m → ∃ gr cur, A = some ⟨gr, 0, none⟩ ∧ base ≤ gr ∧ Blk w gr 4 cur ∧ ∀ j, j < m → cur[j]? = some (.bool (F i j)))
theorem RowsB.keep {w w' : World} {base k m : Nat} {xs : List Value} {F : Nat → Nat → Bool} (h : RowsB w base xs k m F) (hb : Below w.heap.size w w') : RowsB w' base xs k m F := ⟨h.1, fun i hi => by
  obtain ⟨A, c, h1, h2⟩ := h.2 i hi
  refine ⟨A, c, h1, fun hm => ?_⟩
  obtain ⟨gr, cur, h3, h4, h5, h6⟩ := h2 hm
  exact ⟨gr, cur, h3, h4, h5.keep hb, h6⟩⟩
theorem RowsB.far {w : World} {base k m : Nat} {xs : List Value} {F : Nat → Nat → Bool} {p : Addr} (h : RowsB w base xs k m F) (hp : p.block < base) (u : Value) : RowsB (w.setCell p u) base xs k m F := ⟨h.1, fun i hi => by
  obtain ⟨A, c, h1, h2⟩ := h.2 i hi
  refine ⟨A, c, h1, fun hm => ?_⟩
  obtain ⟨gr, cur, h3, h4, h5, h6⟩ := h2 hm
  exact ⟨gr, cur, h3, h4, h5.far (by omega) u, h6⟩⟩
theorem RowsB.snoc {w w' : World} {base b2 k m c : Nat} {v : Value} {xs : List Value} {F : Nat → Nat → Bool} {o : Obj} {A : Option Addr} (h : RowsB w base xs k m F) (ho : w.ownsRow base 73 1 v k xs) (hn : w.ownsRow b2 4 1 (.slice A m c) m (boolsL (F k) m)) (hb : base ≤ b2) (hg : (w.alloc o).grownBy w' v.ownBlock) : RowsB w' base (xs ++ [.slice A m c]) (k + 1) m F := by
  have hne : ∀ {gr : Nat} {cur : Array Value}, Blk w gr 4 cur → Blk w' gr 4 cur := fun {gr cur} hb => by
    refine (hg.block gr (hb.alloc o).lt (fun e => ?_)).trans (hb.alloc o)
    rcases ho.2 with ⟨rfl, -⟩ | ⟨g, cap, cur2, rfl, -, h3, -⟩
    · cases e
    · have e2 : gr = g := Option.some.inj e
      subst e2
      have := (hb.uniq (show Blk w gr 73 cur2 from h3)).1
      exact absurd this (by decide)
  refine ⟨by simp [h.1], fun i hi => ?_⟩
  rcases Nat.lt_or_ge i k with q | q
  · obtain ⟨A2, c2, h1, h2⟩ := h.2 i q
    refine ⟨A2, c2, by rw [List.getElem?_append_left (by have := h.1; omega)]; exact h1, fun hm => ?_⟩
    obtain ⟨gr, cur, h3, h4, h5, h6⟩ := h2 hm
    exact ⟨gr, cur, h3, h4, hne h5, h6⟩
  · obtain rfl : i = k := by omega
    refine ⟨A, c, by rw [List.getElem?_append_right (by have := h.1; omega)]; simp [h.1], fun hm => ?_⟩
    obtain ⟨gr, cap, cur, hv, h4, h5, -, -, -, h6⟩ := own_blk hn hm
    simp only [Value.slice.injEq] at hv
    exact ⟨gr, cur, hv.1, by omega, hne h5, fun j hj => by rw [h6 j (by omega), boolsL_at _ hj]⟩
theorem RowsB.fits {w : World} {base k m gx gu c : Nat} {A : Option Addr} {xs : List Value} {F : Nat → Nat → Bool} (h : RowsB w base xs k m F) (ho : w.ownsRow base 73 1 (.slice A k c) k xs) (h1 : gx < base) (h2 : gu < base) : FitsAt w w.heap.size gx gu A k m F := fun i hi => by
  obtain ⟨g, cap, cur, hv, hg, hb, -, -, -, hc⟩ := own_blk ho (by omega)
  simp only [Value.slice.injEq] at hv
  obtain ⟨rfl, -, rfl⟩ := hv
  obtain ⟨A2, c2, h3, h4⟩ := h.2 i hi
  refine ⟨g, rfl, ⟨hb.lt, by omega, by omega⟩, A2, c2, ?_, fun hm => ?_⟩
  · rw [hb.cell i, hc i (by omega)]; exact h3
  · obtain ⟨gr, cur2, h5, h6, h7, h8⟩ := h4 hm
    exact ⟨gr, h5, ⟨h7.lt, by omega, by omega⟩, fun j hj => by rw [h7.cell j]; exact h8 j hj⟩
set_option maxRecDepth 20000 in
set_option maxHeartbeats 8000000 in
theorem sPlaceMoulds_calls (A : Option Addr) (c : Nat) (B : Option Addr) (c2 : Nat) (f : Nat → ProfV) (n : Nat) (wall : Int) (m : Nat) (ht : Nat → ByteArray) (hr hd : Nat → Int) (w : World) (h : ProfRow w A n f) (hf : ∀ i, i < n → FineP (f i)) (hn : n ≤ 1048576) (hrow2 : HoleRow w B m ht hr hd) (hts : ∀ i, i < m → (ht i).size ≤ maxLen) (hm : m ≤ maxLen) (hm2 : m ≤ 1048576) :
    Calls Try.prog 7 #[.slice A n c, .int .i64 wall, .slice B m c2] w fun e w' => PmOut w f n wall m ht hr hd e w' := by
  have H := Lib.hid h
  have HF := Lib.hid hf
  have HH := Lib.hid hrow2
  have HT := Lib.hid hts
  clear h hf hrow2 hts
  go_enter Try.func7, Try.ntmps7
  go_wp2
  go_loopw [8] (fun i wr => ∃ k : Nat, k ≤ n ∧ i = .int .i64 k ∧ Hid (∀ j, j < k → profV (f j) = true) ∧ Below w.heap.size w wr) (fun i _ => n - (intOf i).toNat)
  case atStart => exact ⟨0, by omega, rfl, Lib.hid fun j hj => absurd hj (Nat.not_lt_zero _), Below.refl _ _⟩
  case round =>
    obtain ⟨k, hk, rfl, hgood, hbr⟩ := hrel
    by_cases hlt : k < n
    · obtain ⟨b, o, rfl, hrow⟩ := H.out (by omega)
      obtain ⟨AK, CK, c0, c1, c3⟩ := (hrow k hlt).keep hbr
      have C3 := Lib.hid c3
      have HR := Lib.hid hrow
      obtain ⟨hs1, hn1⟩ := HF.out k hlt
      clear hrow c3
      cases qk : profV (f k)
      · have hqk : profB (f k).id (f k).n (f k).p (f k).q (f k).h = false := qk
        go_wp2_with (go_at_call 33; refine (l05Ok_calls b (o + k * 2) (f k).id AK (f k).n CK (f k).p (f k).q (f k).h _ hs1 C3.out hn1 c0 c1).mono ?_; rintro e w1 ⟨rfl, nd, rfl⟩; rw [hqk])
        have hpf : profsB f n = false := by unfold profsB; rw [anyB_hit (p := fun i => !profV (f i)) hlt (by rw [qk]; rfl)]; rfl
        exact bodyPost_ret (v := .tuple #[.slice none 0 0, .int .i64 1]) (by simp [results, Try.results7, go_sem]) rfl (PmOut.none (below_drewN hbr _) (by simp only [pmL, pmOk, hpf]; rfl) (by simp only [pmC, pmOk, hpf]; rfl))
      · have hqk : profB (f k).id (f k).n (f k).p (f k).q (f k).h = true := qk
        go_wp2_with (go_at_call 33; refine (l05Ok_calls b (o + k * 2) (f k).id AK (f k).n CK (f k).p (f k).q (f k).h _ hs1 C3.out hn1 c0 c1).mono ?_; rintro e w1 ⟨rfl, nd, rfl⟩; rw [hqk])
        go_roundw
        case rel => exact ⟨k + 1, by omega, by go_num, Lib.hid (fun j hj => by
          rcases Nat.lt_or_ge j k with q | q
          · exact hgood.out j q
          · obtain rfl : j = k := by omega
            exact qk), below_drewN hbr _⟩
        case measure => simp [intOf]; omega
    · obtain rfl : n = k := by omega
      have q1 : profsB f n = true := by
        unfold profsB
        rw [anyB_no fun i hi => by rw [hgood.out i hi]; rfl]; rfl
      cases q2 : (allB (goodAt (fun i => holeB (ht i) (hr i) (hd i)) ht) m && decide ((m : Int) ≤ 8))
      · go_wp2_with (go_at_call 34; refine (spec_l15Holes_calls _ _ _ _ _ _ _ (HH.out.below hbr (Nat.le_refl _)) HT.out hm).mono ?_; rintro e w2 ⟨rfl, hb⟩; rw [q2]; have HB2 := Lib.hid (hbr.trans (hb.mono hbr.size)); clear hb)
        exact bodyPost_ret (v := .tuple #[.slice none 0 0, .int .i64 1]) (by simp [results, Try.results7, go_sem]) rfl (PmOut.none HB2.out (by simp only [pmL, pmOk, q1, q2]; rfl) (by simp only [pmC, pmOk, q1, q2]; rfl))
      · cases q3 : inB wall 1 150000
        · go_wp2_with (first | (go_at_call 34; refine (spec_l15Holes_calls _ _ _ _ _ _ _ (HH.out.below hbr (Nat.le_refl _)) HT.out hm).mono ?_; rintro e w2 ⟨rfl, hb⟩; rw [q2]; have HB2 := Lib.hid (hbr.trans (hb.mono hbr.size)); clear hb) | (go_at_call 35; refine (in_calls _ _ _ _).mono ?_; rintro e w3 ⟨rfl, rfl⟩; rw [q3]))
          exact bodyPost_ret (v := .tuple #[.slice none 0 0, .int .i64 2]) (by simp [results, Try.results7, go_sem]) rfl (PmOut.none HB2.out (by simp only [pmL, pmOk, q1, q2, q3]; rfl) (by simp only [pmC, pmOk, q1, q2, q3]; rfl))
        · by_cases hn8 : 8 < n
          · have hd8 : decide (8 < n) = true := decide_eq_true hn8
            have hd9 : decide ((n : Int) > 8) = true := decide_eq_true (by omega)
            go_wp2_with (first | (go_at_call 34; refine (spec_l15Holes_calls _ _ _ _ _ _ _ (HH.out.below hbr (Nat.le_refl _)) HT.out hm).mono ?_; rintro e w2 ⟨rfl, hb⟩; rw [q2]; have HB2 := Lib.hid (hbr.trans (hb.mono hbr.size)); clear hb) | (go_at_call 35; refine (in_calls _ _ _ _).mono ?_; rintro e w3 ⟨rfl, rfl⟩; rw [q3]))
            exact bodyPost_ret (v := .tuple #[.slice none 0 0, .int .i64 5]) (by simp [results, Try.results7, go_sem]) rfl (PmOut.none HB2.out (by simp only [pmL, pmOk, q1, q2, q3, hd8]; rfl) (by simp only [pmC, pmOk, q1, q2, q3, hd8]; rfl))
          · have hd8 : decide (8 < n) = false := decide_eq_false hn8
            have hd9 : ¬ (8 : Int) < (n : Int) := by omega
            have hm8 : m ≤ 8 := by
              have := of_decide_eq_true (Bool.and_eq_true _ _ |>.mp q2).2
              omega
            have hpc : pmC f n wall m ht hr hd = 0 := by simp only [pmC, pmOk, q1, q2, q3, hd8]; rfl
            have hpl : pmL f n wall m ht hr hd = greedyC (pmCh f wall m hr hd) n 0 (setU 0) := by simp only [pmL, pmOk, q1, q2, q3, hd8]; rfl
            have HPC := Lib.hid hpc
            have HPL := Lib.hid hpl
            have HQ := Lib.hid hgood.out
            obtain ⟨ib, hib, hzb0, hzb1, hzb2⟩ := info_parts boolP_info
            obtain ⟨i1, hj, hy0, hy1, hy2⟩ := info_parts boolsP_info
            have hmkA := fun W => run_make_rowN (P := Try.prog) 73 4 ib _ Try.underlying73 hib hzb0 .i64 .i64 m m (Nat.le_refl _) (by rw [hzb2]; omega) (by omega) W
            rw [hzb1] at hmkA
            have hD0 : Hid (∀ x, x < m → (madeCells (Value.cells (.bool false)) (m * 1))[x]? = some (.bool false)) := Lib.hid fun x hx => by rw [Nat.mul_one]; exact madeBools_at hx
            generalize madeCells (Value.cells (.bool false)) (m * 1) = arr0 at hmkA hD0
            have HMK := Lib.hid hmkA
            clear hpc hpl hgood hmkA
            go_wp2_with (first | (go_at_call 34; refine (spec_l15Holes_calls _ _ _ _ _ _ _ (HH.out.below hbr (Nat.le_refl _)) HT.out hm).mono ?_; rintro e w2 ⟨rfl, hb⟩; rw [q2]; have HB2 := Lib.hid (hbr.trans (hb.mono hbr.size)); have hmk := HMK.out w2; clear hb) | (go_at_call 35; refine (in_calls _ _ _ _).mono ?_; rintro e w3 ⟨rfl, rfl⟩; rw [q3]))
            clear hmk hd8 hd9
            have hz2 := HB2.out.size
            go_loopw [10] (fun i wr => ∃ (k : Nat) (fv : Value) (xs : List Value), k ≤ n ∧ i = .int .i64 k ∧ Hid (Blk wr (w2.heap.size + 1) 76 #[fv, .slice (some ⟨w2.heap.size, 0, none⟩) m m, .slice none 0 0, .int .i64 0, .slice none 0 0, .int .i64 (-1)]) ∧ Hid (Blk wr w2.heap.size 4 arr0) ∧ Hid (wr.ownsRow (w2.heap.size + 2) 73 1 fv k xs) ∧ Hid (RowsB wr (w2.heap.size + 2) xs k m (fitF f wall hr hd)) ∧ Below w.heap.size w wr ∧ w2.heap.size + 2 ≤ wr.heap.size) (fun i _ => n - (intOf i).toNat)
            case atStart => exact ⟨0, _, [], by omega, rfl, Lib.hid (Blk.new2 w2 _ _ _), Lib.hid ((Blk.new w2 _ _).alloc _), Lib.hid (World.ownsRow_nil _ _ _ _), Lib.hid ⟨rfl, fun i hi => absurd hi (Nat.not_lt_zero _)⟩, (HB2.out.alloc hz2 _).alloc (by simp; omega) _, by simp⟩
            case round =>
              obtain ⟨wq, hwq⟩ : ∃ wq, wq = wr := ⟨_, rfl⟩
              subst hwq
              obtain ⟨k, fv, xs, hk, rfl, hbx, hbu, hfo, hrb, hbq, hzq⟩ := hrel
              by_cases hlt : k < n
              · obtain ⟨b, o, rfl, hrow⟩ := H.out (by omega)
                obtain ⟨AK, CK, c0, c1, c3⟩ := (hrow k hlt).keep hbq
                have C3 := Lib.hid c3
                have HR := Lib.hid hrow
                obtain ⟨-, hn32, hx⟩ := prof_rng (HQ.out k hlt)
                have HX := Lib.hid hx
                obtain ⟨Af, cfp, rfl⟩ := own_sl hfo.out
                have HL0 := Lib.hid (World.ownsRow_lit (base := wq.heap.size) (e := 4) (size := 1) wq #[] 0 (Nat.le_refl _) (by unfold maxLen; omega) rfl)
                have hbl := cell_lt c1
                clear hrow c3 hx c0
                go_wp2_with fail
                go_loopw [12, 11] (fun vj v wr => ∃ j : Nat, j ≤ m ∧ vj = .int .i64 j ∧ Hid (wr.ownsRow wq.heap.size 4 1 v j (boolsL ((fitF f wall hr hd) k) j)) ∧ Below wq.heap.size wq wr) (fun vj _ _ => m - (intOf vj).toNat)
                case atStart => exact ⟨0, by omega, rfl, HL0, (Below.refl _ _).alloc (Nat.le_refl _) _⟩
                case round =>
                  clear HL0
                  obtain ⟨wi, hwi⟩ : ∃ wi, wi = wr := ⟨_, rfl⟩
                  subst hwi
                  obtain ⟨j, hj2, rfl, hv, hbi⟩ := hrel
                  have hBI := Lib.hid (hbq.trans (hbi.mono hbq.size))
                  by_cases hjm : j < m
                  · obtain ⟨b2, o2, rfl, hrow2⟩ := HH.out (by omega)
                    obtain ⟨u0, u1, u2⟩ := (hrow2 j hjm).below hBI.out (Nat.le_refl _)
                    have hbl2 := hbq.size
                    have hbl3 := cell_lt (hrow2 j hjm).2.1
                    have hbl4 : b2 < wq.heap.size := by omega
                    have c1i := (hbi.cell (p := ⟨b, o + k * 2 + 1, none⟩) hbl).trans c1
                    have HR2 := Lib.hid hrow2
                    have HLT := Lib.hid hv.out.lt
                    obtain ⟨Aj, cj, rfl⟩ := own_sl hv.out
                    have hfr : fitF f wall hr hd k j = fitH (f k).p (f k).h (f k).n wall (hr j) (hd j) := rfl
                    have HFR := Lib.hid hfr
                    clear hrow2 u0 hfr
                    go_wp2_with fail
                    refine wp_gen (fun W0 hW0 => ?_)
                    have s0_ : Below wq.heap.size wq W0 := by rw [hW0]; exact hbi
                    have s1_ : wq.heap.size ≤ W0.heap.size := by rw [hW0]; exact hbi.size
                    have s2_ : W0.cell? ⟨b, o + k * 2 + 1, none⟩ = some (.slice AK (f k).n CK) := by rw [hW0]; exact c1i
                    have s3_ : W0.cell? ⟨b2, o2 + j * 3 + 1, none⟩ = some (.int .i64 (hr j)) := by rw [hW0]; exact u1
                    have s4_ : W0.cell? ⟨b2, o2 + j * 3 + 2, none⟩ = some (.int .i64 (hd j)) := by rw [hW0]; exact u2
                    have HO0 : Hid (W0.ownsRow wq.heap.size 4 1 (.slice Aj j cj) j (boolsL ((fitF f wall hr hd) k) j)) := Lib.hid (by rw [hW0]; exact hv.out)
                    clear c1i u1 u2
                    clear hW0
                    refine wp_region_held_drew (S := fun w' => Below wq.heap.size wq w' ∧ wq.heap.size ≤ w'.heap.size ∧ w'.cell? ⟨b, o + k * 2 + 1, none⟩ = some (.slice AK (f k).n CK) ∧ w'.cell? ⟨b2, o2 + j * 3 + 1, none⟩ = some (.int .i64 (hr j)) ∧ w'.cell? ⟨b2, o2 + j * 3 + 2, none⟩ = some (.int .i64 (hd j))) (by kernel_rfl) ?_ (fun hHeld => ?_)
                    · exact ⟨s0_.drew, s1_, s2_, s3_, s4_⟩
                    clear s0_ s1_ s2_ s3_ s4_
                    refine take_yes (i := 0) (d := 51) (v := ?_) _ rfl rfl (by kernel_rfl) (by kernel_rfl) (by kernel_rfl) (fun _ _ _ _ h => h) (by rfl) ?_ (by assumption) ?_
                    rotate_left 1
                    · ((intro w hSw; (try dsimp only at hSw); go_simp) <;> (try with_reducible rfl))
                    (try simp only [Act.put, List.setIfInBounds_toArray, List.set_cons_zero, List.set_cons_succ])
                    refine take_yes (i := 1) (d := 52) (v := ?_) _ rfl rfl (by kernel_rfl) (by kernel_rfl) (by kernel_rfl) (fun _ _ _ _ h => h) (by rfl) ?_ (by assumption) ?_
                    rotate_left 1
                    · ((intro w hSw; (try dsimp only at hSw); go_simp) <;> (try with_reducible rfl))
                    (try simp only [Act.put, List.setIfInBounds_toArray, List.set_cons_zero, List.set_cons_succ])
                    refine take_yes (i := 2) (d := 53) (v := ?_) _ rfl rfl (by kernel_rfl) (by kernel_rfl) (by kernel_rfl) (fun _ _ _ _ h => h) (by rfl) ?_ (by assumption) ?_
                    rotate_left 1
                    · ((intro w hSw; (try dsimp only at hSw); go_simp) <;> (try with_reducible rfl))
                    (try simp only [Act.put, List.setIfInBounds_toArray, List.set_cons_zero, List.set_cons_succ])
                    refine take_yes (i := 3) (d := 54) (v := ?_) _ rfl rfl (by kernel_rfl) (by kernel_rfl) (by kernel_rfl) (fun _ _ _ _ h => h) (by rfl) ?_ (by assumption) ?_
                    rotate_left 1
                    · ((intro w hSw; (try dsimp only at hSw); go_simp) <;> (try with_reducible rfl))
                    (try simp only [Act.put, List.setIfInBounds_toArray, List.set_cons_zero, List.set_cons_succ])
                    refine take_yes (i := 4) (d := 55) (v := ?_) _ rfl rfl (by kernel_rfl) (by kernel_rfl) (by kernel_rfl) (fun _ _ _ _ h => h) (by rfl) ?_ (by assumption) ?_
                    rotate_left 1
                    · ((intro w hSw; (try dsimp only at hSw); go_simp) <;> (try with_reducible rfl))
                    (try simp only [Act.put, List.setIfInBounds_toArray, List.set_cons_zero, List.set_cons_succ])
                    refine take_yes (i := 5) (d := 56) (v := ?_) _ rfl rfl (by kernel_rfl) (by kernel_rfl) (by kernel_rfl) (fun _ _ _ _ h => h) (by rfl) ?_ (by assumption) ?_
                    rotate_left 1
                    · ((intro w hSw; (try dsimp only at hSw); go_simp) <;> (try with_reducible rfl))
                    (try simp only [Act.put, List.setIfInBounds_toArray, List.set_cons_zero, List.set_cons_succ])
                    refine take_yes (i := 6) (d := 57) (v := ?_) _ rfl rfl (by kernel_rfl) (by kernel_rfl) (by kernel_rfl) (fun _ _ _ _ h => h) (by rfl) ?_ (by assumption) ?_
                    rotate_left 1
                    · ((intro w hSw; (try dsimp only at hSw); go_simp) <;> (try with_reducible rfl))
                    (try simp only [Act.put, List.setIfInBounds_toArray, List.set_cons_zero, List.set_cons_succ])
                    refine take_yes (i := 7) (d := 58) (v := ?_) _ rfl rfl (by kernel_rfl) (by kernel_rfl) (by kernel_rfl) (fun _ _ _ _ h => h) (by rfl) ?_ (by assumption) ?_
                    rotate_left 1
                    · ((intro w hSw; (try dsimp only at hSw); go_simp) <;> (try with_reducible rfl))
                    (try simp only [Act.put, List.setIfInBounds_toArray, List.set_cons_zero, List.set_cons_succ])
                    (refine wpAnyH_ready (rs := [8]) (by kernel_rfl) (by simp) ?_; refine AllReadyH.cons rfl (fun K hK => ?_) AllReadyH.nil; go_simp; go_at_call 36; refine (l15Fits_calls b (o + k * 2) b2 (o2 + j * 3) AK (f k).n CK (f k).p (f k).q (f k).h wall (hr j) (hd j) _ (C3.out.below (And.left hHeld) (Nat.le_refl _)) hn32 HX.out (inB_iff.1 q3) hHeld.2.2.1 hHeld.2.2.2.1 hHeld.2.2.2.2).mono ?_; rintro e wd ⟨rfl, hb⟩; refine hK.out _ _ (by obtain ⟨x0_, x1_, x2_, x3_, x4_⟩ := hHeld; exact ⟨x0_.trans (hb.mono x0_.size), Nat.le_trans x1_ hb.size, cell_keep hb x2_, cell_keep hb x3_, cell_keep hb x4_⟩) (fun hHeld2 => ?_); have HBD := Lib.hid hb; clear hK K hHeld hb; have hHeld := hHeld2; clear hHeld2; (try simp only [Act.put, List.setIfInBounds_toArray, List.set_cons_zero, List.set_cons_succ]))
                    (refine wpAnyH_ready (rs := [9]) (by kernel_rfl) (by simp) ?_; refine AllReadyH.cons rfl (fun K hK => ?_) AllReadyH.nil; go_simp; refine hK.out _ _ (by obtain ⟨x0_, x1_, x2_, x3_, x4_⟩ := hHeld; exact ⟨x0_.trans (((Below.refl _ _).alloc (Nat.le_refl _) _).mono x0_.size), Nat.le_trans x1_ ((Below.refl _ _).alloc (Nat.le_refl _) _).size, cell_keep ((Below.refl _ _).alloc (Nat.le_refl _) _) x2_, cell_keep ((Below.refl _ _).alloc (Nat.le_refl _) _) x3_, cell_keep ((Below.refl _ _).alloc (Nat.le_refl _) _) x4_⟩) (fun hHeld2 => ?_); clear hK K; have hOld := hHeld; clear hHeld; have hHeld := hHeld2; clear hHeld2; (try simp only [Act.put, List.setIfInBounds_toArray, List.set_cons_zero, List.set_cons_succ]))
                    (refine wpAnyH_ready (rs := [10]) (by kernel_rfl) (by simp) ?_; refine AllReadyH.cons rfl (fun K hK => ?_) AllReadyH.nil; refine step_append_own _ rfl (.tmp 51) (.tmp 60) _ rfl wq.heap.size 4 ib (.bool false) 1 1 Try.underlying73 hib hzb0 hzb1 hzb2 rfl (by decide) _ _ _ rfl ((own_keep (own_drew HO0.out) HBD.out).alloc _) ⟨_, 0, none⟩ 1 1 [.bool (fitH (f k).p (f k).h (f k).n wall (hr j) (hd j))] rfl rfl (fun j u hj => by match j, hj with | 0, hj => simp at hj; subst hj; simp [Addr.add]) (fun u hu => by simp at hu; subst hu; rfl) (by unfold maxLen; omega) (by omega) (by have := hHeld.1.size; omega) ?_; intro v_ wa_ hown_ hgrow_ hat_; refine hK.out _ _ (by obtain ⟨x0_, x1_, x2_, x3_, x4_⟩ := hHeld; exact ⟨x0_.grown hgrow_ x0_.size (fun k hk => (HLT.out k hk).1), Nat.le_trans x1_ hgrow_.size, hgrow_.cell x2_ (fun e => by have h1 := (HLT.out _ e.symm).1; dsimp only at h1; omega), hgrow_.cell x3_ (fun e => by have h1 := (HLT.out _ e.symm).1; dsimp only at h1; omega), hgrow_.cell x4_ (fun e => by have h1 := (HLT.out _ e.symm).1; dsimp only at h1; omega)⟩) (fun hHeld2 => ?_); clear hK K hHeld; (try clear hOld); have hHeld := hHeld2; clear hHeld2; (try simp only [Act.put, List.setIfInBounds_toArray, List.set_cons_zero, List.set_cons_succ]))
                    refine take_yes (i := 11) (d := 11) (v := ?_) _ rfl rfl (by kernel_rfl) (by kernel_rfl) (by kernel_rfl) (fun _ _ _ _ h => h) (by rfl) ?_ (by assumption) ?_
                    rotate_left 1
                    · ((intro w hSw; (try dsimp only at hSw); go_simp) <;> (try with_reducible rfl))
                    (try simp only [Act.put, List.setIfInBounds_toArray, List.set_cons_zero, List.set_cons_succ])
                    refine wpAnyH_done (by kernel_rfl) ?_ _
                    obtain ⟨z0, z1, z2, z3, z4⟩ := hHeld
                    rw [← HFR.out, boolsL_succ] at hown_
                    have HOWN := Lib.hid hown_
                    clear hown_ hgrow_ hat_
                    go_wp2
                    go_roundw
                    case rel => exact ⟨j + 1, by omega, by go_num, HOWN, z0⟩
                    case measure => simp [intOf]; omega
                  · obtain rfl : m = j := by omega
                    have hrow9 := Lib.hid hv.out
                    obtain ⟨Ar, crr, rfl⟩ := own_sl hv.out
                    have FO := Lib.hid (own_keep hfo.out hbi)
                    have RB := Lib.hid (hrb.out.keep hbi)
                    have BX := Lib.hid (hbx.out.keep hbi)
                    have BU := Lib.hid (hbu.out.keep hbi)
                    have FLT := Lib.hid hfo.out.lt
                    have x0 : wi.cell? ⟨w2.heap.size + 1, 0, none⟩ = some (.slice Af k cfp) := (BX.out.cell 0).trans rfl
                    have hsi := hbi.size
                    have hBS := hBI.out.size
                    clear hfo hrb hbx hbu hv c1
                    go_wp2_with (at_builtin; refine wpList_append_own _ rfl _ _ 74 rfl (w2.heap.size + 2) 73 i1 (.slice none 0 0) 1 24 Try.underlying74 hj hy0 hy1 hy2 rfl (by decide) _ _ _ rfl (FO.out.alloc _) ⟨wi.heap.size, 0, none⟩ 1 1 [.slice Ar m crr] rfl rfl (cell_one_new _ _ _) (fun u hu => by simp at hu; subst hu; rfl) (by unfold maxLen; omega) (by omega) (by simp; omega) ?_; intro v9 w9 hown' hgrow _; refine Hid.out ?_)
                    refine Lib.hid ?_
                    have BX9 := Lib.hid ((hgrow.block _ (BX.out.alloc _).lt (fun e => by have h1 := (FLT.out _ e.symm).1; omega)).trans (BX.out.alloc _))
                    have BU9 := Lib.hid ((hgrow.block _ (BU.out.alloc _).lt (fun e => by have h1 := (FLT.out _ e.symm).1; omega)).trans (BU.out.alloc _))
                    have RB9 := Lib.hid (RB.out.snoc FO.out hrow9.out hzq hgrow)
                    have B9 := Lib.hid ((hBI.out.alloc hBS _).grown hgrow (by have := hBS; simp; omega) (fun z hz => by have h1 := (FLT.out z hz).1; omega))
                    have hs9 : w2.heap.size + 2 ≤ w9.heap.size := Nat.le_trans (show w2.heap.size + 2 ≤ (wi.alloc _).heap.size by simp; omega) hgrow.size
                    obtain ⟨A9, c9, rfl⟩ := own_sl hown'
                    have HOWN := Lib.hid hown'
                    clear hown' hgrow x0
                    have x0 : w9.cell? ⟨w2.heap.size + 1, 0, none⟩ = some (.slice Af k cfp) := (Blk.cell BX9.out 0).trans rfl
                    have xf := Blk.frozen BX9.out 0
                    go_wp2
                    go_roundw
                    case rel =>
                      refine ⟨k + 1, .slice A9 (k + 1) c9, xs ++ [.slice Ar m crr], by omega, by go_num, Lib.hid (Blk.set_ BX9.out 0 _), Lib.hid (Blk.far BU9.out (by show w2.heap.size ≠ w2.heap.size + 1; omega) _), Lib.hid (own_storeV (p := ⟨w2.heap.size + 1, 0, none⟩) HOWN.out (by show w2.heap.size + 1 < _; omega) _), Lib.hid (RB9.out.far (p := ⟨w2.heap.size + 1, 0, none⟩) (by show w2.heap.size + 1 < _; omega) _), B9.out.setCell (by show w.heap.size ≤ w2.heap.size + 1; omega) _, by simpa using hs9⟩
                    case measure => simp [intOf]; omega
              · obtain rfl : n = k := by omega
                obtain ⟨Af, cfp, rfl⟩ := own_sl hfo.out
                have G : Geo w wq.heap.size (w2.heap.size + 1) w2.heap.size := ⟨by omega, by omega, by omega, by omega, by omega⟩
                have PV : VisP w wq.heap.size (w2.heap.size + 1) w2.heap.size Af n cfp m (fitF f wall hr hd) wq (setU 0) 0 (-1, []) (.slice none 0 0) (.slice none 0 0) arr0 :=
                  ⟨hbx.out, hbu.out, fun j hj => by rw [hD0.out j hj, setU_zero], World.ownsRow_nil _ _ _ _, hrb.out.fits hfo.out (by omega) (by omega), hbq, Nat.le_refl _⟩
                have HV9 := Lib.hid (visit_calls G (by omega) hm8 n 0 (by omega) wq (setU 0) [] 0 (-1, []) (.slice none 0 0) (.slice none 0 0) arr0 PV (World.ownsRow_nil _ _ _ _) (fun z hz => by cases hz) rfl (Int.le_refl _) (by omega) (by decide) (by decide))
                have hve : visitC (fun k => hitN ((fitF f wall hr hd) k) m) n 0 (setU 0) [] 0 (-1, []) = ((mostC (pmCh f wall m hr hd) n 0 (setU 0) : Int), greedyC (pmCh f wall m hr hd) n 0 (setU 0)) := by
                  rw [visit_eq, if_pos (by show (-1 : Int) < 0 + _; omega)]
                  simp only [List.nil_append, Int.zero_add]
                  rfl
                rw [hve] at HV9
                have hzb := hbq.size
                clear hve PV hbx hbu hfo hrb
                go_wp2_with fail
                go_at_call 37
                refine HV9.out.mono ?_
                rintro e w5 ⟨rfl, nowV, bestV, ar5, P5, -, -⟩
                obtain ⟨Ab, cb, rfl⟩ := own_sl P5.bs
                have x4 : w5.cell? ⟨w2.heap.size + 1, 4, none⟩ = some (.slice Ab (greedyC (pmCh f wall m hr hd) n 0 (setU 0)).length cb) := (P5.bx.cell 4).trans rfl
                have HBS := Lib.hid P5.bs
                have HBL := Lib.hid P5.bl
                have hzl := P5.bl.size
                have hgl := greedyC_len (pmCh f wall m hr hd) n 0 (setU 0)
                clear P5 HV9
                obtain ⟨L, hL⟩ : ∃ L, L = greedyC (pmCh f wall m hr hd) n 0 (setU 0) := ⟨_, rfl⟩
                rw [← hL] at x4 hgl HBS HPL
                have HBS2 := Lib.hid (show w5.ownsRow wq.heap.size 2 1 (.slice Ab L.length cb) L.length (L.map (Value.int .i64)) from HBS.out)
                have hl8 : L.length ≤ 8 := by omega
                clear hL hgl HBS
                go_wp2_with (go_at_call 38; refine (own_calls _ wq.heap.size L.length L w5 HBS2.out (by omega)).mono ?_; rintro e w6 ⟨v', rfl, hown', hb'⟩; obtain ⟨Av, cv, rfl⟩ := own_sl hown'; have HB6 := Lib.hid (HBL.out.trans (hb'.mono hzl)); have HO6 := Lib.hid (pmOut_own hown' hzl hb'.size HB6.out); clear hown' hb')
                refine bodyPost_ret (v := .tuple #[.slice Av L.length cv, .int .i64 0]) (by simp [results, Try.results7, go_sem]) rfl ?_
                unfold PmOut
                rw [HPC.out, HPL.out]
                exact ⟨_, rfl, HO6.out⟩
end Go.Proofs.Ytonoeohmpaegdaa
