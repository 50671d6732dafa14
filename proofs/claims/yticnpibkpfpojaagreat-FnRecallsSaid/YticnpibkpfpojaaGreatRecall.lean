/- Bells that have a share of a melt: their ids, in the program and in the reference. -/
import Derived.Test.YticnpibkpfpojaaGreatShareO
import Derived.Test.YticnpibkpfpojaaGreatBells
import Derived.Test.YticnpibkpfpojaaGreatStrs
import Derived.Test.YticnpibkpfpojaaGreatOwn
namespace Go.Proofs.YticnpibkpfpojaaGreat
set_option linter.unusedVariables false
open Go.RowKit


/-- the texts among the first k that are chosen -/
def selL (p : Nat → Bool) (s : Nat → ByteArray) : Nat → List ByteArray
  | 0 => []
  | k + 1 => bif p k then selL p s k ++ [s k] else selL p s k
theorem selL_len (p : Nat → Bool) (s : Nat → ByteArray) : ∀ k, (selL p s k).length ≤ k
  | 0 => Nat.le_refl _
  | k + 1 => by
    have := selL_len p s k
    unfold selL
    cases p k
    · show (selL p s k).length ≤ k + 1; omega
    · show (selL p s k ++ [s k]).length ≤ k + 1
      rw [List.length_append]
      simp
      omega
theorem selL_yes {p : Nat → Bool} {s : Nat → ByteArray} {k : Nat} (h : p k = true) : selL p s (k + 1) = selL p s k ++ [s k] := by simp only [selL, h, cond_true]
theorem selL_no {p : Nat → Bool} {s : Nat → ByteArray} {k : Nat} (h : p k = false) : selL p s (k + 1) = selL p s k := by simp only [selL, h, cond_false]
def selV (p : Nat → Bool) (s : Nat → ByteArray) (k : Nat) : List Value := (selL p s k).map Value.string
theorem selV_yes {p : Nat → Bool} {s : Nat → ByteArray} {k : Nat} (h : p k = true) : selV p s (k + 1) = selV p s k ++ [.string (s k)] := by simp only [selV, selL_yes h, List.map_append, List.map_cons, List.map_nil]
theorem selV_no {p : Nat → Bool} {s : Nat → ByteArray} {k : Nat} (h : p k = false) : selV p s (k + 1) = selV p s k := by simp only [selV, selL_no h]
def selS (p : Nat → Bool) (s : Nat → ByteArray) (n : Nat) : Nat → ByteArray := fun i => (selL p s n)[i]?.getD ⟨#[]⟩
theorem sel_strs (p : Nat → Bool) (s : Nat → ByteArray) (n : Nat) : selV p s n = strsL (selS p s n) (selL p s n).length := by
  apply List.ext_getElem?
  intro i
  rcases Nat.lt_or_ge i (selL p s n).length with h | h
  · rw [strsL_at _ h]
    simp [selV, selS, h]
  · simp [selV, strsL, h]
/-- a list of texts that a call has returned -/
def StrsOut (w : World) (L : Nat) (s : Nat → ByteArray) (v : Value) (w' : World) : Prop := ∃ A c G, v = .slice A L c ∧ StrOwn w' A L s G ∧ w.heap.size ≤ G ∧ Below w.heap.size w w'
def hasM (x : BellV) (id : ByteArray) : Bool := anyB (fun i => (x.ss i).toList == id.toList) x.n
set_option maxHeartbeats 1000000 in
theorem recall11_calls (g : Nat) (id s : ByteArray) (m : Int) (w : World) (hx : w.cell? ⟨g, 0, none⟩ = some (.string id)) :
    Calls Tryz.prog 24 #[.agg #[.string s, .int .i64 m], .pointer (some ⟨g, 0, none⟩)] w fun e w' => e = .returned (.bool (s.toList == id.toList)) ∧ Below w.heap.size w w' := by
  have hlt := cell_lt hx
  go_enter Tryz.func24, Tryz.ntmps24
  go_wp2
  go_ret
  exact ⟨rfl, (Below.refl _ _).alloc (Nat.le_refl _) _⟩
set_option maxHeartbeats 1000000 in
theorem anyShare_index (A : Option Addr) (n c : Nat) (s0 : Nat → ByteArray) (a1 : Nat → Int) (g : Nat) (p : Nat → Bool) (w : World) (h : ShareRow w A n s0 a1) (hn : n ≤ 1048576) (hp : ∀ k W, k < n → Below w.heap.size w W → Calls Tryz.prog 24 #[.agg #[.string (s0 k), .int .i64 (a1 k)], .pointer (some ⟨g, 0, none⟩)] W fun e w' => e = .returned (.bool (p k)) ∧ Below W.heap.size W w') :
    Calls Tryz.prog 45 #[.slice A n c, .func (.func 24) #[] #[.pointer (some ⟨g, 0, none⟩)]] w fun e w' => (∃ x : Int, decide (0 ≤ x) = anyB p n ∧ e = .returned (.int .i64 x)) ∧ Below w.heap.size w w' := by
  have H := Lib.hid h
  have HP := Lib.hid hp
  generalize hres : anyB p n = R
  have HRES := Lib.hid hres
  clear h hp hres
  go_enter Tryz.func45, Tryz.ntmps45
  go_wp2
  go_loopw [8] (fun i wr => ∃ k : Nat, k ≤ n ∧ i = .int .i64 k ∧ Hid (allB (fun i => !p i) k = true) ∧ Below w.heap.size w wr) (fun i _ => n - (intOf i).toNat)
  case atStart => exact ⟨0, by omega, rfl, rfl, Below.refl _ _⟩
  case round =>
    obtain ⟨k, hk, rfl, hgood, hbr⟩ := hrel
    by_cases hlt : k < n
    · obtain ⟨b, o, rfl, hrow⟩ := H.out (by omega)
      obtain ⟨c0, c1⟩ := (hrow k hlt).below hbr (Nat.le_refl _)
      have HR := Lib.hid hrow
      clear hrow
      have HC := Lib.hid (HP.out k wr hlt hbr)
      cases q1 : p k
      · rw [q1] at HC
        go_wp2_with (go_at_call 24; with_reducible refine HC.out.mono ?_; rintro e w1 ⟨rfl, hb⟩; have hbr2 := hbr.trans (hb.mono hbr.size); clear hb)
        go_roundw
        case rel => exact ⟨k + 1, by omega, by go_num, Lib.hid (by rw [show allB (fun i => !p i) (k + 1) = (allB (fun i => !p i) k && !p k) from rfl, hgood.out, q1]; rfl), hbr2⟩
        case measure => simp [intOf]; omega
      · rw [q1] at HC
        go_wp2_with (go_at_call 24; with_reducible refine HC.out.mono ?_; rintro e w1 ⟨rfl, hb⟩; have hbr2 := hbr.trans (hb.mono hbr.size); clear hb)
        go_ret
        exact ⟨⟨k, by rw [← HRES.out, anyB_hit hlt q1]; exact decide_eq_true (by omega), rfl⟩, hbr2⟩
    · obtain rfl : k = n := by omega
      go_wp2
      go_ret
      exact ⟨⟨-1, by rw [← HRES.out]; simp [anyB, hgood.out], rfl⟩, hbr⟩
set_option maxHeartbeats 400000 in
theorem anyShare (A : Option Addr) (n c : Nat) (s0 : Nat → ByteArray) (a1 : Nat → Int) (g : Nat) (p : Nat → Bool) (w : World) (h : ShareRow w A n s0 a1) (hn : n ≤ 1048576) (hp : ∀ k W, k < n → Below w.heap.size w W → Calls Tryz.prog 24 #[.agg #[.string (s0 k), .int .i64 (a1 k)], .pointer (some ⟨g, 0, none⟩)] W fun e w' => e = .returned (.bool (p k)) ∧ Below W.heap.size W w') :
    Calls Tryz.prog 23 #[.slice A n c, .func (.func 24) #[] #[.pointer (some ⟨g, 0, none⟩)]] w fun e w' => e = .returned (.bool (anyB p n)) ∧ Below w.heap.size w w' := by
  go_enter Tryz.func23, Tryz.ntmps23
  go_wp2_with (go_at_call 45; refine (anyShare_index A n c s0 a1 g p w h hn hp).mono ?_; rintro e w1 ⟨⟨x, hx, rfl⟩, hb⟩)
  go_ret
  exact ⟨by first | rfl | exact ret_bool hx, hb⟩
set_option maxHeartbeats 1000000 in
theorem recall1_calls (g : Nat) (id s : ByteArray) (no ma fe : Int) (A : Option Addr) (n c : Nat) (ss : Nat → ByteArray) (ms : Nat → Int) (w : World) (hx : w.cell? ⟨g, 0, none⟩ = some (.string id)) (h : ShareRow w A n ss ms) (hn : n ≤ 1048576) :
    Calls Tryz.prog 22 #[.agg #[.string s, .int .i64 no, .int .i64 ma, .int .i64 fe, .slice A n c], .pointer (some ⟨g, 0, none⟩)] w fun e w' => e = .returned (.bool (hasM ⟨s, no, ma, fe, n, ss, ms⟩ id)) ∧ Below w.heap.size w w' := by
  have hal := (Below.refl w.heap.size w).alloc (Nat.le_refl _) (.cells #[.string s, .int .i64 no, .int .i64 ma, .int .i64 fe, .slice A n c] 37)
  have HQ := Lib.hid (anyShare A n c ss ms g (fun i => (ss i).toList == id.toList) _ (h.below hal (Nat.le_refl _)) hn (fun k W hk hb => recall11_calls g id (ss k) (ms k) W (cell_keep hb (cell_keep hal hx))))
  have HAL := Lib.hid hal
  clear hal hx h
  go_enter Tryz.func22, Tryz.ntmps22
  go_wp2_with (go_at_call 23; with_reducible refine HQ.out.mono ?_; rintro e w1 ⟨rfl, hb⟩)
  go_ret
  exact ⟨rfl, HAL.out.trans (hb.mono HAL.out.size)⟩
set_option maxRecDepth 20000 in
set_option maxHeartbeats 4000000 in
theorem recalledM (A : Option Addr) (n c : Nat) (f : Nat → BellV) (p : Nat → Bool) (g : Nat) (w : World) (h : BellRow w A n f) (hn : n ≤ 1048576) (hp : ∀ k W AK CK, k < n → Below w.heap.size w W → ShareRow W AK (f k).n (f k).ss (f k).ms → Calls Tryz.prog 22 #[.agg #[.string (f k).id, .int .i64 (f k).no, .int .i64 (f k).ma, .int .i64 (f k).fe, .slice AK (f k).n CK], .pointer (some ⟨g, 0, none⟩)] W fun e w' => e = .returned (.bool (p k)) ∧ Below W.heap.size W w') :
    Calls Tryz.prog 21 #[.slice A n c, .func (.func 22) #[] #[.pointer (some ⟨g, 0, none⟩)]] w fun e w' => ∃ v, e = .returned v ∧ StrsOut w (selL p (fun i => (f i).id) n).length (selS p (fun i => (f i).id) n) v w' := by
  obtain ⟨i0, hi, hz0, hz1, hz2⟩ := info_parts Str_info
  have H := Lib.hid h
  have HP := Lib.hid hp
  clear h hp
  go_enter Tryz.func21, Tryz.ntmps21
  go_wp2
  go_loopw [5, 10] (fun v i wr => ∃ k : Nat, k ≤ n ∧ i = .int .i64 k ∧ Hid (wr.ownsRow w.heap.size 9 1 v (selL p (fun i => (f i).id) k).length (selV p (fun i => (f i).id) k)) ∧ Below w.heap.size w wr) (fun _ i _ => n - (intOf i).toNat)
  case atStart => exact ⟨0, by omega, rfl, Lib.hid (World.ownsRow_nil _ _ _ _), Below.refl _ _⟩
  case round =>
    obtain ⟨k, hk, rfl, hown, hbr⟩ := hrel
    have hll := selL_len p (fun i => (f i).id) k
    by_cases hlt : k < n
    · obtain ⟨b, o, rfl, hrow⟩ := H.out (by omega)
      obtain ⟨AK, CK, c0, c1, c2, c3, c4, c5⟩ := (hrow k hlt).keep hbr
      have HR := Lib.hid hrow
      have C5 := Lib.hid c5
      clear hrow c5
      go_wp2_with fail
      go_at_call 22
      have hal := (Below.refl wr.heap.size wr).alloc (Nat.le_refl _) (.cells #[.string (f k).id, .int .i64 (f k).no, .int .i64 (f k).ma, .int .i64 (f k).fe, .slice AK (f k).n CK] 37)
      refine (HP.out k _ AK CK hlt (hbr.trans (hal.mono hbr.size)) (C5.out.keep hal)).mono ?_
      rintro e w1 ⟨rfl, hb0⟩
      have hb := hal.trans (hb0.mono hal.size)
      have own1 := Lib.hid (own_keep hown.out hb)
      have br1 := Lib.hid (hbr.trans (hb.mono hbr.size))
      have x0 := (((Blk.new wr 37 #[.string (f k).id, .int .i64 (f k).no, .int .i64 (f k).ma, .int .i64 (f k).fe, .slice AK (f k).n CK]).keep hb0).cell 0).trans rfl
      have sz1 := hb.size
      clear hb hb0 hal c0 c1 c2 c3 c4 hbr hown
      cases q1 : p k
      · go_wp2
        go_roundw
        case rel => exact ⟨k + 1, by omega, by go_num, Lib.hid (by rw [selL_no q1, selV_no q1]; exact own1.out), br1.out⟩
        case measure => simp [intOf]; omega
      · go_wp2_with (at_builtin; refine wpList_append_own _ rfl _ _ 32 rfl w.heap.size 9 i0 (.string ⟨#[]⟩) 1 16 Tryz.underlying32 hi hz0 hz1 hz2 rfl (by decide) _ _ _ rfl (own1.out.alloc _) ⟨w1.heap.size, 0, none⟩ 1 1 [.string (f k).id] rfl rfl (fun j u hj => by match j, hj with | 0, hj => simp at hj; subst hj; simp [Addr.add]) (fun u hu => by simp at hu; subst hu; rfl) (by unfold maxLen; omega) (by omega) (by have := br1.out.size; simp; omega) ?_; intro v' w2 hown' hgrow _; have hb2 := below_append br1.out br1.out.size own1.out hgrow; rw [← selV_yes (s := (fun i => (f i).id)) q1] at hown'; have HOWN := Lib.hid hown'; have HB2 := Lib.hid hb2; clear hown' hgrow hb2)
        go_roundw
        case rel => exact ⟨k + 1, by omega, by go_num, Lib.hid (by rw [selL_yes q1, List.length_append]; exact HOWN.out), HB2.out⟩
        case measure => simp [intOf]; omega
    · obtain rfl : k = n := by omega
      obtain ⟨A', c', G, rfl, hio, hG⟩ := strOwn_of (s := selS p (fun i => (f i).id) k) (sel_strs p (fun i => (f i).id) k ▸ hown.out) hbr.size
      have HIO := Lib.hid hio
      clear hio
      go_wp2
      go_ret
      exact ⟨_, rfl, A', c', G, rfl, HIO.out, hG, hbr⟩
noncomputable def okBells (f : Nat → BellV) (n : Nat) : Bool := bellsOk f n && decide ((n : Int) ≤ 24)
noncomputable def rmN (f : Nat → BellV) (n : Nat) (id : ByteArray) : Nat := if okBells f n = true then (selL (fun i => hasM (f i) id) (fun i => (f i).id) n).length else 0
noncomputable def rmC (f : Nat → BellV) (n : Nat) : Int := if okBells f n = true then 0 else 1
def rmS (f : Nat → BellV) (n : Nat) (id : ByteArray) : Nat → ByteArray := selS (fun i => hasM (f i) id) (fun i => (f i).id) n
theorem rmN_le (f : Nat → BellV) (n : Nat) (id : ByteArray) : rmN f n id ≤ n := by
  unfold rmN
  split
  · exact selL_len _ _ _
  · omega
theorem strsNone (w w' : World) (s : Nat → ByteArray) (hb : Below w.heap.size w w') : StrsOut w 0 s (.slice none 0 0) w' := ⟨none, 0, w.heap.size, rfl, fun h => absurd h (Nat.lt_irrefl _), Nat.le_refl _, hb⟩
set_option maxHeartbeats 2000000 in
theorem RecallMelt_calls (A : Option Addr) (n c : Nat) (f : Nat → BellV) (id : ByteArray) (w : World) (h : BellRow w A n f) (hf : ∀ i, i < n → Fine (f i)) (hn : n ≤ 1048576) :
    Calls Tryz.prog 8 #[.slice A n c, .string id] w fun e w' => ∃ v, e = .returned (.tuple #[v, .int .i64 (rmC f n)]) ∧ StrsOut w (rmN f n id) (rmS f n id) v w' := by
  have hal := (Below.refl w.heap.size w).alloc (Nat.le_refl _) (.cells #[.string id] 9)
  have HV := Lib.hid (ValidBells_calls A n c f _ (h.keep hal) hf (by unfold maxLen; omega))
  have H := Lib.hid h
  have HF := Lib.hid hf
  have HAL := Lib.hid hal
  clear h hf hal
  cases q1 : okBells f n
  · rw [show rmC f n = 1 by simp [rmC, q1], show rmN f n id = 0 by simp [rmN, q1]]
    rw [show (bellsOk f n && decide ((n : Int) ≤ 24)) = false from q1] at HV
    go_enter Tryz.func8, Tryz.ntmps8
    go_wp2_with (go_at_call 16; with_reducible refine HV.out.mono ?_; rintro e w1 ⟨rfl, hb⟩; have hb1 := Lib.hid (HAL.out.trans (hb.mono HAL.out.size)); clear hb)
    refine bodyPost_ret (v := .tuple #[.slice none 0 0, .int .i64 1]) (by simp [results, Tryz.results8, go_sem]) rfl ?_
    exact ⟨_, rfl, strsNone _ _ _ hb1.out⟩
  · rw [show rmC f n = 0 by simp [rmC, q1], show rmN f n id = (selL (fun i => hasM (f i) id) (fun i => (f i).id) n).length by simp [rmN, q1]]
    rw [show (bellsOk f n && decide ((n : Int) ≤ 24)) = true from q1] at HV
    go_enter Tryz.func8, Tryz.ntmps8
    go_wp2_with fail
    go_at_call 16
    with_reducible refine HV.out.mono ?_
    rintro e w1 ⟨rfl, hb⟩
    have hb1 := Lib.hid (HAL.out.trans (hb.mono HAL.out.size))
    have x0 := Lib.hid ((((Blk.new w 9 #[.string id]).keep hb).cell 0).trans rfl)
    have sz1 : w.heap.size < w1.heap.size := ((Blk.new w 9 #[.string id]).keep hb).lt
    clear hb
    go_wp2_with (go_at_call 21; refine (recalledM A n c f (fun i => hasM (f i) id) w.heap.size w1 (H.out.keep hb1.out) hn (fun k W AK CK hk hb hs => recall1_calls w.heap.size id _ _ _ _ AK _ CK _ _ W (cell_keep hb x0.out) hs (HF.out k hk).2.2)).mono ?_; rintro e w2 ⟨v, rfl, AO, cO, GO, rfl, ho, hG, hb2⟩; have HO := Lib.hid ho; clear ho)
    refine bodyPost_ret (v := .tuple #[.slice AO (selL (fun i => hasM (f i) id) (fun i => (f i).id) n).length cO, .int .i64 0]) (by simp [results, Tryz.results8, go_sem]) rfl ?_
    exact ⟨_, rfl, AO, cO, GO, rfl, HO.out, Nat.le_trans hb1.out.size hG, hb1.out.trans (hb2.mono hb1.out.size)⟩
end Go.Proofs.YticnpibkpfpojaaGreat
