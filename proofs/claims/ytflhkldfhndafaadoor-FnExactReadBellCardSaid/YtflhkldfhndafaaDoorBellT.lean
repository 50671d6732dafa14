/- The text of a bell, in the program and in the reference. -/
import Derived.Test.YtflhkldfhndafaaDoorBellOp
import Derived.Test.YtflhkldfhndafaaDoorBell2
import Derived.Test.YtflhkldfhndafaaDoorList
namespace Go.Proofs.YtflhkldfhndafaaDoor
set_option linter.unusedVariables false
set_option linter.unusedSimpArgs false
open Go.RowKit

/-- a share's text -/
def shT (ss : Nat → ByteArray) (ms : Nat → Int) (i : Nat) : ByteArray := ss i ++ ⟨#[58]⟩ ++ ⟨(Lib.itoa (ms i)).toArray⟩
def shL (ss : Nat → ByteArray) (ms : Nat → Int) (n : Nat) : List ByteArray := (List.range n).map (shT ss ms)
def shJ (ss : Nat → ByteArray) (ms : Nat → Int) (n : Nat) : ByteArray := ⟨(Lib.join ((shL ss ms n).map (·.data.toList)) [44]).toArray⟩
def bellT (s : ByteArray) (no ma fe : Int) (n : Nat) (ss : Nat → ByteArray) (ms : Nat → Int) : ByteArray := s ++ ⟨#[32]⟩ ++ joinT (l3 no ma fe) 3 ++ ⟨#[32]⟩ ++ shJ ss ms n
noncomputable def bellText (s : ByteArray) (no ma fe : Int) (n : Nat) (ss : Nat → ByteArray) (ms : Nat → Int) : ByteArray := if bellB s no ma fe n ss ms = true then bellT s no ma fe n ss ms else ⟨#[]⟩
theorem shL_len (ss : Nat → ByteArray) (ms : Nat → Int) (n : Nat) : (shL ss ms n).length = n := by simp [shL]
theorem shL_succ (ss : Nat → ByteArray) (ms : Nat → Int) (n : Nat) : shL ss ms (n + 1) = shL ss ms n ++ [shT ss ms n] := by simp [shL, List.range_succ]
theorem shL_ne {ss : Nat → ByteArray} {ms : Nat → Int} {k : Nat} (h : 0 < k) : (shL ss ms k).map (·.data.toList) ≠ [] := by
  intro e
  have := congrArg List.length e
  simp [shL] at this
  omega
theorem shJ_zero (ss : Nat → ByteArray) (ms : Nat → Int) : shJ ss ms 0 = ⟨#[]⟩ := rfl
theorem shJ_one (p : ByteArray) (ss : Nat → ByteArray) (ms : Nat → Int) : p ++ (ss 0 ++ ⟨#[58]⟩ ++ ⟨(Lib.itoa (ms 0)).toArray⟩) = p ++ shJ ss ms 1 := by
  congr 1
  apply ba_eq
  simp [shJ, shL, shT, Lib.join_one]
theorem shJ_succ (p : ByteArray) (ss : Nat → ByteArray) (ms : Nat → Int) {k : Nat} (h : 0 < k) : p ++ shJ ss ms k ++ ⟨#[44]⟩ ++ (ss k ++ ⟨#[58]⟩ ++ ⟨(Lib.itoa (ms k)).toArray⟩) = p ++ shJ ss ms (k + 1) := by
  apply ba_eq
  simp [shJ, shL_succ, join_snoc (shL_ne h), shT]
/-- the cells of the shares' texts -/
def shV (ss : Nat → ByteArray) (ms : Nat → Int) (n : Nat) : List Value := (List.range n).map fun i => .string (shT ss ms i)
theorem shV_succ (ss : Nat → ByteArray) (ms : Nat → Int) (n : Nat) : shV ss ms n ++ [.string (ss n ++ ⟨#[58]⟩ ++ ⟨(Lib.itoa (ms n)).toArray⟩)] = shV ss ms (n + 1) := by simp [shV, List.range_succ, shT]
theorem shJ_len (ss : Nat → ByteArray) (ms : Nat → Int) (n : Nat) (h : ∀ i, i < n → (ss i).size ≤ 10 ∧ 1 ≤ ms i ∧ ms i ≤ 20000000) : (Lib.join ((shL ss ms n).map (·.data.toList)) [44]).length ≤ 40 * n := by
  induction n with
  | zero => exact Nat.le_refl _
  | succ m ih =>
    obtain ⟨h0, h1, h2⟩ := h m (by omega)
    have h3 := Lib.itoa_length_le (ms m) (by omega) (by omega)
    have h4 := ih fun i hi => h i (by omega)
    have h5 : (ss m).data.toList.length ≤ 10 := by rw [Array.length_toList]; exact h0
    have h6 : (shT ss ms m).data.toList.length ≤ 32 := by simp [shT] at h5 ⊢; omega
    rw [shL_succ, List.map_append]
    rcases Nat.eq_zero_or_pos m with rfl | hm
    · simp only [shL, List.range_zero, List.map_nil, List.nil_append, List.map_cons, Lib.join_one]; omega
    · rw [List.map_cons, List.map_nil, join_snoc (shL_ne hm)]
      simp only [List.length_append, List.length_cons, List.length_nil]
      omega
theorem bell_rng {s : ByteArray} {no ma fe : Int} {n : Nat} {ss : Nat → ByteArray} {ms : Nat → Int} (h : bellB s no ma fe n ss ms = true) :
    s.size ≤ 10 ∧ (1 ≤ n ∧ n ≤ 4) ∧ (∀ i, i < 3 → -1000000000000 ≤ l3 no ma fe i ∧ l3 no ma fe i ≤ 1000000000000) ∧ ∀ i, i < n → (ss i).size ≤ 10 ∧ 1 ≤ ms i ∧ ms i ≤ 20000000 := by
  unfold bellB sharesB at h
  simp only [Bool.and_eq_true, decide_eq_true_eq] at h
  obtain ⟨h0, h1, h2, h3, h4, h5, h6, -⟩ := h
  have := inB_iff.1 h2
  have := inB_iff.1 h3
  have := inB_iff.1 h4
  refine ⟨(nameB_of h1).2.1, ⟨by omega, by omega⟩, fun i hi => ?_, fun i hi => ?_⟩
  · match i, hi with
    | 0, _ => exact ⟨by show _ ≤ no; omega, by show no ≤ _; omega⟩
    | 1, _ => exact ⟨by show _ ≤ ma; omega, by show ma ≤ _; omega⟩
    | 2, _ => exact ⟨by show _ ≤ fe; omega, by show fe ≤ _; omega⟩
  · have hg := allB_of h0 i hi
    simp only [goodAt, shareB, Bool.and_eq_true] at hg
    exact ⟨(nameB_of hg.1.1).2.1, inB_iff.1 hg.1.2⟩
theorem joinSh {ss : Nat → ByteArray} {ms : Nat → Int} {w : World} {g n cap : Nat} {cur : Array Value} (hcur : ∀ i, i < n * 1 → cur[i]? = (shV ss ms n)[i]?) (hblk : Blk w g 9 cur) (hcap : n ≤ cap) (hn : n ≤ 1048576) (hl : (Lib.join ((shL ss ms n).map (·.data.toList)) [44]).length ≤ 40 * n) :
    Calls Tryd.prog 69 #[.slice (some ⟨g, 0, none⟩) n cap, .string ⟨#[44]⟩] w fun e w' => e = .returned (.string (shJ ss ms n)) ∧ Below w.heap.size w w' := by
  have hj := Tryd.strings_Join g 0 cap (shL ss ms n) ⟨#[44]⟩ w (fun j x hx => by
    have hjk : j < n := by have := (List.getElem?_eq_some_iff.1 hx).1; rwa [shL_len] at this
    rw [Nat.zero_add, hblk.cell, hcur j (by omega)]
    simp [shL, hjk] at hx
    simp [shV, hjk, ← hx]) hblk.lt (by rw [shL_len]; omega) (by rw [shL_len]; exact hcap) (Nat.le_trans hl (by omega))
  rwa [shL_len] at hj
theorem Blk.keep' {w w' : World} {g : Nat} {t : TypeId} {cs : Array Value} (h : Blk w g t cs) (hb : Below w.heap.size w w') : Blk w' g t cs := h.keep hb
set_option maxRecDepth 20000 in
set_option maxHeartbeats 8000000 in
theorem BellText_calls (s : ByteArray) (no ma fe : Int) (A : Option Addr) (n c : Nat) (ss : Nat → ByteArray) (ms : Nat → Int) (w : World) (hs : s.size ≤ maxLen) (h : ShareRow w A n ss ms) (hss : ∀ i, i < n → (ss i).size ≤ maxLen) (hn : n ≤ 1048576) (hT : HasPow w) :
    Calls Tryd.prog 46 #[.agg #[.string s, .int .i64 no, .int .i64 ma, .int .i64 fe, .slice A n c]] w fun e w' => e = .returned (.string (bellText s no ma fe n ss ms)) ∧ Below w.heap.size w w' := by
  obtain ⟨i0, hi, hz0, hz1, hz2⟩ := info_parts str_info
  have HT := Lib.hid hT
  have hal := (Below.refl w.heap.size w).alloc (Nat.le_refl _) (.cells #[.string s, .int .i64 no, .int .i64 ma, .int .i64 fe, .slice A n c] 45)
  have H := Lib.hid (h.below hal (Nat.le_refl _))
  have HSS := Lib.hid hss
  have HAL := Lib.hid hal
  clear hT h hal hss
  cases q1 : bellB s no ma fe n ss ms
  · rw [show bellText s no ma fe n ss ms = ⟨#[]⟩ by simp [bellText, q1]]
    go_enter Tryd.func46, Tryd.ntmps46
    go_wp2_with (go_at_call 45; refine (ValidBell_calls s no ma fe A n c ss ms _ hs H.out HSS.out hn).mono ?_; rw [q1]; rintro e w1 ⟨rfl, hb⟩; have hbx := (Blk.new w 45 #[.string s, .int .i64 no, .int .i64 ma, .int .i64 fe, .slice A n c]).keep hb; have H1 := H.out.below hb (Nat.le_refl _); have hb1 := HAL.out.trans (hb.mono HAL.out.size); clear hb)
    go_ret
    exact ⟨rfl, hb1⟩
  · rw [show bellText s no ma fe n ss ms = bellT s no ma fe n ss ms by simp [bellText, q1]]
    obtain ⟨hs10, ⟨hn1, hn4⟩, hv, hsh⟩ := bell_rng q1
    have HSH := Lib.hid hsh
    have hjl := join_len (l3 no ma fe) 3 (fun i hi => by have := hv i hi; omega)
    rw [← joinT_size] at hjl
    have hlt3 := listText_ok (p := l3 no ma fe) (n := 3) (by omega) (by omega) hv
    have hsl := shJ_len ss ms n hsh
    have hsz : (shJ ss ms n).size = (Lib.join ((shL ss ms n).map (·.data.toList)) [44]).length := by show (Lib.join _ _).toArray.size = _; simp
    have g1 : ¬ 9223372036854775807 < s.size + 1 := by omega
    have g2 : ¬ 9223372036854775807 < s.size + 1 + (joinT (l3 no ma fe) 3).size := by omega
    have g3 : ¬ 9223372036854775807 < s.size + 1 + (joinT (l3 no ma fe) 3).size + 1 := by omega
    have g4 : ¬ 9223372036854775807 < s.size + 1 + (joinT (l3 no ma fe) 3).size + 1 + (shJ ss ms n).size := by omega
    have HSL := Lib.hid hsl
    clear hsh hv hsl hsz
    go_enter Tryd.func46, Tryd.ntmps46
    go_wp2_with (first | (go_at_call 45; refine (ValidBell_calls s no ma fe A n c ss ms _ hs H.out HSS.out hn).mono ?_; rw [q1]; rintro e w1 ⟨rfl, hb⟩; have hbx := (Blk.new w 45 #[.string s, .int .i64 no, .int .i64 ma, .int .i64 fe, .slice A n c]).keep hb; have H1 := H.out.below hb (Nat.le_refl _); have hb1 := HAL.out.trans (hb.mono HAL.out.size); clear hb); refine Hid.out ?_)
    refine Lib.hid ?_
    have x0 := (hbx.cell 0).trans rfl
    have x4 := (hbx.cell 4).trans rfl
    have HBX := Lib.hid hbx
    have HR := Lib.hid H1
    clear hbx H1
    go_wp2
    have HP1 := Lib.hid (HT.out.keep hb1)
    have hw1 := hb1.size
    go_loopw [3, 12] (fun v i wr => ∃ k : Nat, k ≤ n ∧ i = .int .i64 k ∧ Hid (wr.ownsRow w1.heap.size 9 1 v k (shV ss ms k)) ∧ Below w1.heap.size w1 wr) (fun _ i _ => n - (intOf i).toNat)
    case atStart => exact ⟨0, by omega, rfl, Lib.hid (World.ownsRow_nil _ _ _ _), Below.refl _ _⟩
    case round =>
      obtain ⟨k, hk, rfl, hown, hbr⟩ := hrel
      have hbs := hbr.size
      by_cases hlt : k < n
      · obtain ⟨b, o, rfl, hrow⟩ := HR.out (by omega)
        obtain ⟨u0, u1⟩ := (hrow k hlt).below hbr (Nat.le_refl _)
        obtain ⟨k0, k1, k2⟩ := HSH.out k hlt
        have hil := Lib.itoa_length_le (ms k) (by omega) (by omega)
        have f1 : ¬ 9223372036854775807 < (ss k).size + 1 := by omega
        have f2 : ¬ 9223372036854775807 < (ss k).size + 1 + (Lib.itoa (ms k)).length := by omega
        have HR2 := Lib.hid hrow
        have HLT := Lib.hid hown.out.lt
        clear hrow
        go_wp2_with fail
        refine wp_gen (fun W0 hW0 => ?_)
        have s0_ : Below w1.heap.size w1 W0 := by rw [hW0]; exact hbr.alloc hbs _
        have s1_ : HasPow W0 := by rw [hW0]; exact (HP1.out.keep hbr).alloc _
        have s2_ : W0.cell? ⟨wr.heap.size, 0, none⟩ = some (.string (ss k)) := by simp [hW0]
        have s3_ : W0.cell? ⟨wr.heap.size, 1, none⟩ = some (.int .i64 (ms k)) := by simp [hW0]
        have s4_ : wr.heap.size < W0.heap.size := by simp [hW0]
        have HO0 : Hid (W0.ownsRow w1.heap.size 9 1 _ k (shV ss ms k)) := Lib.hid (by rw [hW0]; exact hown.out.alloc _)
        clear hW0
        refine wp_region_held_drew (S := fun w' => Below w1.heap.size w1 w' ∧ HasPow w' ∧ w'.cell? ⟨wr.heap.size, 0, none⟩ = some (.string (ss k)) ∧ w'.cell? ⟨wr.heap.size, 1, none⟩ = some (.int .i64 (ms k)) ∧ wr.heap.size < w'.heap.size) (by kernel_rfl) ?_ (fun hHeld => ?_)
        · exact ⟨s0_.drew, s1_, s2_, s3_, s4_⟩
        clear s0_ s1_ s2_ s3_ s4_
        refine take_yes (i := 0) (d := 16) (v := ?_) _ rfl rfl (by kernel_rfl) (by kernel_rfl) (by kernel_rfl) (fun _ _ _ _ h => h) (by rfl) ?_ (by assumption) ?_
        rotate_left 1
        · ((intro w hSw; (try dsimp only at hSw); go_simp) <;> (try with_reducible rfl))
        (try simp only [Act.put, List.setIfInBounds_toArray, List.set_cons_zero, List.set_cons_succ])
        refine take_yes (i := 1) (d := 17) (v := ?_) _ rfl rfl (by kernel_rfl) (by kernel_rfl) (by kernel_rfl) (fun _ _ _ _ h => h) (by rfl) ?_ (by assumption) ?_
        rotate_left 1
        · ((intro w hSw; (try dsimp only at hSw); go_simp) <;> (try with_reducible rfl))
        (try simp only [Act.put, List.setIfInBounds_toArray, List.set_cons_zero, List.set_cons_succ])
        refine take_yes (i := 2) (d := 18) (v := ?_) _ rfl rfl (by kernel_rfl) (by kernel_rfl) (by kernel_rfl) (fun _ _ _ _ h => h) (by rfl) ?_ (by assumption) ?_
        rotate_left 1
        · ((intro w hSw; (try dsimp only at hSw); go_simp) <;> (try with_reducible rfl))
        (try simp only [Act.put, List.setIfInBounds_toArray, List.set_cons_zero, List.set_cons_succ])
        refine take_yes (i := 3) (d := 19) (v := ?_) _ rfl rfl (by kernel_rfl) (by kernel_rfl) (by kernel_rfl) (fun _ _ _ _ h => h) (by rfl) ?_ (by assumption) ?_
        rotate_left 1
        · ((intro w hSw; (try dsimp only at hSw); go_simp) <;> (try with_reducible rfl))
        (try simp only [Act.put, List.setIfInBounds_toArray, List.set_cons_zero, List.set_cons_succ])
        refine take_yes (i := 4) (d := 20) (v := ?_) _ rfl rfl (by kernel_rfl) (by kernel_rfl) (by kernel_rfl) (fun _ _ _ _ h => h) (by rfl) ?_ (by assumption) ?_
        rotate_left 1
        · ((intro w hSw; (try dsimp only at hSw); go_simp) <;> (try with_reducible rfl))
        (try simp only [Act.put, List.setIfInBounds_toArray, List.set_cons_zero, List.set_cons_succ])
        refine take_yes (i := 5) (d := 21) (v := ?_) _ rfl rfl (by kernel_rfl) (by kernel_rfl) (by kernel_rfl) (fun _ _ _ _ h => h) (by rfl) ?_ (by assumption) ?_
        rotate_left 1
        · ((intro w hSw; (try dsimp only at hSw); go_simp) <;> (try with_reducible rfl))
        (try simp only [Act.put, List.setIfInBounds_toArray, List.set_cons_zero, List.set_cons_succ])
        (refine wpAnyH_ready (rs := [6]) (by kernel_rfl) (by simp) ?_; refine AllReadyH.cons rfl (fun K hK => ?_) AllReadyH.nil; go_simp; go_at_call 56; refine (Decimal_calls (ms k) _ (by omega) (by omega) (And.left (And.right hHeld))).mono ?_; rintro e wd ⟨rfl, hb⟩; refine hK.out _ _ (by obtain ⟨x0_, x1_, x2_, x3_, x4_⟩ := hHeld; exact ⟨x0_.trans (hb.mono x0_.size), x1_.keep hb, cell_keep hb x2_, cell_keep hb x3_, Nat.lt_of_lt_of_le x4_ hb.size⟩) (fun hHeld2 => ?_); have HBD := Lib.hid hb; clear hK K hHeld hb; have hHeld := hHeld2; clear hHeld2; (try simp only [Act.put, List.setIfInBounds_toArray, List.set_cons_zero, List.set_cons_succ]))
        refine take_yes (i := 7) (d := 23) (v := ?_) _ rfl rfl (by kernel_rfl) (by kernel_rfl) (by kernel_rfl) (fun _ _ _ _ h => h) (by rfl) ?_ (by assumption) ?_
        rotate_left 1
        · ((intro w hSw; (try dsimp only at hSw); go_simp) <;> (try with_reducible rfl))
        (try simp only [Act.put, List.setIfInBounds_toArray, List.set_cons_zero, List.set_cons_succ])
        (refine wpAnyH_ready (rs := [8]) (by kernel_rfl) (by simp) ?_; refine AllReadyH.cons rfl (fun K hK => ?_) AllReadyH.nil; go_simp; refine hK.out _ _ (by obtain ⟨x0_, x1_, x2_, x3_, x4_⟩ := hHeld; exact ⟨x0_.trans (((Below.refl _ _).alloc (Nat.le_refl _) _).mono x0_.size), x1_.keep ((Below.refl _ _).alloc (Nat.le_refl _) _), cell_keep ((Below.refl _ _).alloc (Nat.le_refl _) _) x2_, cell_keep ((Below.refl _ _).alloc (Nat.le_refl _) _) x3_, Nat.lt_of_lt_of_le x4_ ((Below.refl _ _).alloc (Nat.le_refl _) _).size⟩) (fun hHeld2 => ?_); clear hK K; have hOld := hHeld; clear hHeld; have hHeld := hHeld2; clear hHeld2; (try simp only [Act.put, List.setIfInBounds_toArray, List.set_cons_zero, List.set_cons_succ]))
        (refine wpAnyH_ready (rs := [9]) (by kernel_rfl) (by simp) ?_; refine AllReadyH.cons rfl (fun K hK => ?_) AllReadyH.nil; refine step_append_own _ rfl (.tmp 16) (.tmp 24) _ rfl w1.heap.size 9 i0 (.string ⟨#[]⟩) 1 16 Tryd.underlying50 hi hz0 hz1 hz2 rfl (by decide) _ _ _ rfl ((own_keep (own_drew HO0.out) HBD.out).alloc _) ⟨_, 0, none⟩ 1 1 [.string (ss k ++ ⟨#[58]⟩ ++ ⟨(Lib.itoa (ms k)).toArray⟩)] rfl rfl (fun j u hj => by match j, hj with | 0, hj => simp at hj; subst hj; simp [Addr.add]) (fun u hu => by simp at hu; subst hu; rfl) (by unfold maxLen; omega) (by omega) (by have := hHeld.1.size; omega) ?_; intro v_ wa_ hown_ hgrow_ hat_; refine hK.out _ _ (by obtain ⟨x0_, x1_, x2_, x3_, x4_⟩ := hHeld; exact ⟨x0_.grown hgrow_ x0_.size (fun k hk => (HLT.out k hk).1), HP1.out.keep (x0_.grown hgrow_ x0_.size (fun k hk => (HLT.out k hk).1)), hgrow_.cell x2_ (fun e => Nat.lt_irrefl _ (HLT.out _ e.symm).2), hgrow_.cell x3_ (fun e => Nat.lt_irrefl _ (HLT.out _ e.symm).2), Nat.lt_of_lt_of_le x4_ hgrow_.size⟩) (fun hHeld2 => ?_); clear hK K hHeld; (try clear hOld); have hHeld := hHeld2; clear hHeld2; (try simp only [Act.put, List.setIfInBounds_toArray, List.set_cons_zero, List.set_cons_succ]))
        refine take_yes (i := 10) (d := 3) (v := ?_) _ rfl rfl (by kernel_rfl) (by kernel_rfl) (by kernel_rfl) (fun _ _ _ _ h => h) (by rfl) ?_ (by assumption) ?_
        rotate_left 1
        · ((intro w hSw; (try dsimp only at hSw); go_simp) <;> (try with_reducible rfl))
        (try simp only [Act.put, List.setIfInBounds_toArray, List.set_cons_zero, List.set_cons_succ])
        refine wpAnyH_done (by kernel_rfl) ?_ _
        obtain ⟨z0, z1, z2, z3, z4⟩ := hHeld
        rw [shV_succ] at hown_
        have HOWN := Lib.hid hown_
        clear hown_ hgrow_ hat_
        go_wp2
        go_roundw
        case rel => exact ⟨k + 1, by omega, by go_num, HOWN, z0⟩
        case measure => simp [intOf]; omega
      · obtain rfl : k = n := by omega
        obtain ⟨g, cap, cur, rfl, hg0, hblk, hcap, hcm, hcs, hcur⟩ := own_blk hown.out (by omega)
        have HCUR := Lib.hid hcur
        have y0 := HBX.out.keep hbr
        go_wp2_with fail
        refine wp_gen (fun W0 hW0 => ?_)
        have s0_ : Below w1.heap.size w1 W0 := by rw [hW0]; exact hbr
        have s1_ : HasPow W0 := by rw [hW0]; exact HP1.out.keep hbr
        have s2_ : Blk W0 w.heap.size 45 #[.string s, .int .i64 no, .int .i64 ma, .int .i64 fe, .slice A k c] := by rw [hW0]; exact y0
        have s3_ : Blk W0 g 9 cur := by rw [hW0]; exact hblk
        have s4_ : W0.cell? ⟨w.heap.size, 0, none⟩ = some (.string s) := (s2_.cell 0).trans rfl
        have s5_ : W0.cell? ⟨w.heap.size, 1, none⟩ = some (.int .i64 no) := (s2_.cell 1).trans rfl
        have s6_ : W0.cell? ⟨w.heap.size, 2, none⟩ = some (.int .i64 ma) := (s2_.cell 2).trans rfl
        have s7_ : W0.cell? ⟨w.heap.size, 3, none⟩ = some (.int .i64 fe) := (s2_.cell 3).trans rfl
        clear y0 hblk
        clear hW0
        refine wp_region_held_drew (S := fun w' => Below w1.heap.size w1 w' ∧ HasPow w' ∧ Blk w' w.heap.size 45 #[.string s, .int .i64 no, .int .i64 ma, .int .i64 fe, .slice A k c] ∧ Blk w' g 9 cur ∧ w'.cell? ⟨w.heap.size, 0, none⟩ = some (.string s) ∧ w'.cell? ⟨w.heap.size, 1, none⟩ = some (.int .i64 no) ∧ w'.cell? ⟨w.heap.size, 2, none⟩ = some (.int .i64 ma) ∧ w'.cell? ⟨w.heap.size, 3, none⟩ = some (.int .i64 fe)) (by kernel_rfl) ?_ (fun hHeld => ?_)
        · exact ⟨s0_.drew, s1_, s2_, s3_, s4_, s5_, s6_, s7_⟩
        clear s0_ s1_ s2_ s3_ s4_ s5_ s6_ s7_
        refine take_yes (i := 0) (d := 27) (v := ?_) _ rfl rfl (by kernel_rfl) (by kernel_rfl) (by kernel_rfl) (fun _ _ _ _ h => h) (by rfl) ?_ (by assumption) ?_
        rotate_left 1
        · ((intro w hSw; (try dsimp only at hSw); go_simp) <;> (try with_reducible rfl))
        (try simp only [Act.put, List.setIfInBounds_toArray, List.set_cons_zero, List.set_cons_succ])
        refine take_yes (i := 1) (d := 28) (v := ?_) _ rfl rfl (by kernel_rfl) (by kernel_rfl) (by kernel_rfl) (fun _ _ _ _ h => h) (by rfl) ?_ (by assumption) ?_
        rotate_left 1
        · ((intro w hSw; (try dsimp only at hSw); go_simp) <;> (try with_reducible rfl))
        (try simp only [Act.put, List.setIfInBounds_toArray, List.set_cons_zero, List.set_cons_succ])
        refine take_yes (i := 2) (d := 29) (v := ?_) _ rfl rfl (by kernel_rfl) (by kernel_rfl) (by kernel_rfl) (fun _ _ _ _ h => h) (by rfl) ?_ (by assumption) ?_
        rotate_left 1
        · ((intro w hSw; (try dsimp only at hSw); go_simp) <;> (try with_reducible rfl))
        (try simp only [Act.put, List.setIfInBounds_toArray, List.set_cons_zero, List.set_cons_succ])
        refine take_yes (i := 3) (d := 30) (v := ?_) _ rfl rfl (by kernel_rfl) (by kernel_rfl) (by kernel_rfl) (fun _ _ _ _ h => h) (by rfl) ?_ (by assumption) ?_
        rotate_left 1
        · ((intro w hSw; (try dsimp only at hSw); go_simp) <;> (try with_reducible rfl))
        (try simp only [Act.put, List.setIfInBounds_toArray, List.set_cons_zero, List.set_cons_succ])
        refine take_yes (i := 4) (d := 31) (v := ?_) _ rfl rfl (by kernel_rfl) (by kernel_rfl) (by kernel_rfl) (fun _ _ _ _ h => h) (by rfl) ?_ (by assumption) ?_
        rotate_left 1
        · ((intro w hSw; (try dsimp only at hSw); go_simp) <;> (try with_reducible rfl))
        (try simp only [Act.put, List.setIfInBounds_toArray, List.set_cons_zero, List.set_cons_succ])
        refine take_yes (i := 5) (d := 32) (v := ?_) _ rfl rfl (by kernel_rfl) (by kernel_rfl) (by kernel_rfl) (fun _ _ _ _ h => h) (by rfl) ?_ (by assumption) ?_
        rotate_left 1
        · ((intro w hSw; (try dsimp only at hSw); go_simp) <;> (try with_reducible rfl))
        (try simp only [Act.put, List.setIfInBounds_toArray, List.set_cons_zero, List.set_cons_succ])
        refine take_yes (i := 6) (d := 33) (v := ?_) _ rfl rfl (by kernel_rfl) (by kernel_rfl) (by kernel_rfl) (fun _ _ _ _ h => h) (by rfl) ?_ (by assumption) ?_
        rotate_left 1
        · ((intro w hSw; (try dsimp only at hSw); go_simp) <;> (try with_reducible rfl))
        (try simp only [Act.put, List.setIfInBounds_toArray, List.set_cons_zero, List.set_cons_succ])
        refine take_yes (i := 7) (d := 34) (v := ?_) _ rfl rfl (by kernel_rfl) (by kernel_rfl) (by kernel_rfl) (fun _ _ _ _ h => h) (by rfl) ?_ (by assumption) ?_
        rotate_left 1
        · ((intro w hSw; (try dsimp only at hSw); go_simp) <;> (try with_reducible rfl))
        (try simp only [Act.put, List.setIfInBounds_toArray, List.set_cons_zero, List.set_cons_succ])
        refine take_yes (i := 8) (d := 35) (v := ?_) _ rfl rfl (by kernel_rfl) (by kernel_rfl) (by kernel_rfl) (fun _ _ _ _ h => h) (by rfl) ?_ (by assumption) ?_
        rotate_left 1
        · ((intro w hSw; (try dsimp only at hSw); go_simp) <;> (try with_reducible rfl))
        (try simp only [Act.put, List.setIfInBounds_toArray, List.set_cons_zero, List.set_cons_succ])
        refine take_yes (i := 13) (d := 40) (v := ?_) _ rfl rfl (by kernel_rfl) (by kernel_rfl) (by kernel_rfl) (fun _ _ _ _ h => h) (by rfl) ?_ (by assumption) ?_
        rotate_left 1
        · ((intro w hSw; (try dsimp only at hSw); go_simp) <;> (try with_reducible rfl))
        (try simp only [Act.put, List.setIfInBounds_toArray, List.set_cons_zero, List.set_cons_succ])
        (refine wpAnyH_ready (rs := [9]) (by kernel_rfl) (by simp) ?_; refine AllReadyH.cons rfl (fun K hK => ?_) AllReadyH.nil; go_simp; refine hK.out _ _ (by obtain ⟨x0_, x1_, x2_, x3_, x4_, x5_, x6_, x7_⟩ := hHeld; exact ⟨x0_.trans (((Below.refl _ _).alloc (Nat.le_refl _) _).mono x0_.size), x1_.keep ((Below.refl _ _).alloc (Nat.le_refl _) _), x2_.keep ((Below.refl _ _).alloc (Nat.le_refl _) _), x3_.keep ((Below.refl _ _).alloc (Nat.le_refl _) _), cell_keep ((Below.refl _ _).alloc (Nat.le_refl _) _) x4_, cell_keep ((Below.refl _ _).alloc (Nat.le_refl _) _) x5_, cell_keep ((Below.refl _ _).alloc (Nat.le_refl _) _) x6_, cell_keep ((Below.refl _ _).alloc (Nat.le_refl _) _) x7_⟩) (fun hHeld2 => ?_); clear hK K; have hOld := hHeld; clear hHeld; have hHeld := hHeld2; clear hHeld2; (try simp only [Act.put, List.setIfInBounds_toArray, List.set_cons_zero, List.set_cons_succ]))
        (refine wpAnyH_ready (rs := [10]) (by kernel_rfl) (by simp) ?_; refine AllReadyH.cons rfl (fun K hK => ?_) AllReadyH.nil; go_simp; go_at_call 59; refine (ListText_calls _ 3 _ (l3 no ma fe) _ (by first | exact row_l3 (Blk.new _ _ _) | exact row_l3 (Blk.new _ _ _).drew) (by omega) (And.left (And.right hHeld))).mono ?_; rw [hlt3]; rintro e wd ⟨rfl, hb⟩; refine hK.out _ _ (by obtain ⟨x0_, x1_, x2_, x3_, x4_, x5_, x6_, x7_⟩ := hHeld; exact ⟨x0_.trans (hb.mono x0_.size), x1_.keep hb, x2_.keep hb, x3_.keep hb, cell_keep hb x4_, cell_keep hb x5_, cell_keep hb x6_, cell_keep hb x7_⟩) (fun hHeld2 => ?_); clear hK K hHeld hb; have hHeld := hHeld2; clear hHeld2; (try simp only [Act.put, List.setIfInBounds_toArray, List.set_cons_zero, List.set_cons_succ]))
        refine take_yes (i := 11) (d := 38) (v := ?_) _ rfl rfl (by kernel_rfl) (by kernel_rfl) (by kernel_rfl) (fun _ _ _ _ h => h) (by rfl) ?_ (by assumption) ?_
        rotate_left 1
        · ((intro w hSw; (try dsimp only at hSw); go_simp) <;> (try with_reducible rfl))
        (try simp only [Act.put, List.setIfInBounds_toArray, List.set_cons_zero, List.set_cons_succ])
        refine take_yes (i := 12) (d := 39) (v := ?_) _ rfl rfl (by kernel_rfl) (by kernel_rfl) (by kernel_rfl) (fun _ _ _ _ h => h) (by rfl) ?_ (by assumption) ?_
        rotate_left 1
        · ((intro w hSw; (try dsimp only at hSw); go_simp) <;> (try with_reducible rfl))
        (try simp only [Act.put, List.setIfInBounds_toArray, List.set_cons_zero, List.set_cons_succ])
        (refine wpAnyH_ready (rs := [14]) (by kernel_rfl) (by simp) ?_; refine AllReadyH.cons rfl (fun K hK => ?_) AllReadyH.nil; go_simp; go_at_call 69; refine (joinSh HCUR.out hHeld.2.2.2.1 hcap (by omega) HSL.out).mono ?_; rintro e wd ⟨rfl, hb⟩; refine hK.out _ _ (by obtain ⟨x0_, x1_, x2_, x3_, x4_, x5_, x6_, x7_⟩ := hHeld; exact ⟨x0_.trans (hb.mono x0_.size), x1_.keep hb, x2_.keep hb, x3_.keep hb, cell_keep hb x4_, cell_keep hb x5_, cell_keep hb x6_, cell_keep hb x7_⟩) (fun hHeld2 => ?_); clear hK K hHeld hb; have hHeld := hHeld2; clear hHeld2; (try simp only [Act.put, List.setIfInBounds_toArray, List.set_cons_zero, List.set_cons_succ]))
        refine take_yes (i := 15) (d := 42) (v := ?_) _ rfl rfl (by kernel_rfl) (by kernel_rfl) (by kernel_rfl) (fun _ _ _ _ h => h) (by rfl) ?_ (by assumption) ?_
        rotate_left 1
        · ((intro w hSw; (try dsimp only at hSw); go_simp) <;> (try with_reducible rfl))
        (try simp only [Act.put, List.setIfInBounds_toArray, List.set_cons_zero, List.set_cons_succ])
        refine take_yes (i := 16) (d := 2) (v := ?_) _ rfl rfl (by kernel_rfl) (by kernel_rfl) (by kernel_rfl) (fun _ _ _ _ h => h) (by rfl) ?_ (by assumption) ?_
        rotate_left 1
        · ((intro w hSw; (try dsimp only at hSw); go_simp) <;> (try with_reducible rfl))
        (try simp only [Act.put, List.setIfInBounds_toArray, List.set_cons_zero, List.set_cons_succ])
        refine wpAnyH_done (by kernel_rfl) ?_ _
        obtain ⟨z0, z1, z2, z3, z4, z5, z6, z7⟩ := hHeld
        go_wp2
        go_ret
        exact ⟨rfl, hb1.trans (z0.mono hw1)⟩
end Go.Proofs.YtflhkldfhndafaaDoor
