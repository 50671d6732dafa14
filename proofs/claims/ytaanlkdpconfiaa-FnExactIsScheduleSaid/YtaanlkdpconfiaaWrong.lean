/- The first heat that is not possible, in the program and in the reference. -/
import Derived.Test.YtaanlkdpconfiaaPoss
import Derived.Test.YtaanlkdpconfiaaOwn
namespace Go.Proofs.Ytaanlkdpconfiaa
set_option linter.unusedVariables false
set_option linter.unusedSimpArgs false
open Go.RowKit

def okH (n m : Nat) (pm pr pd cc ch cf a0 a1 a2 a3 : Nat → Int) (k : Nat) : Bool := possX n m pm pr pd cc ch cf a0 a1 a3 k (a0 k) (a1 k) (a2 k) (a3 k)
set_option maxHeartbeats 4000000 in
theorem firstWrong_calls (A : Option Addr) (n c : Nat) (ps : Nat → ByteArray) (pm pr pd : Nat → Int) (B : Option Addr) (m c2 : Nat) (cs : Nat → ByteArray) (cc ch cf : Nat → Int) (C : Option Addr) (q c3 : Nat) (a0 a1 a2 a3 : Nat → Int) (w : World) (h : PourRow w A n ps pm pr pd) (h2 : CrucibleRow w B m cs cc ch cf) (h3 : HeatRow w C q a0 a1 a2 a3) (hn : n ≤ 1048576) (hm : m ≤ 1048576) (hq : q ≤ 1048576) (hq3 : q ≤ c3) (hc3 : c3 ≤ maxLen) (hc : ∀ i, i < m → 1 ≤ ch i ∧ ch i ≤ 10000) (hx : ∀ i, i < q → -9223372036854775808 ≤ a2 i ∧ a2 i ≤ 9223372036854775807) :
    Calls Try.prog 76 #[.slice A n c, .slice B m c2, .slice C q c3] w fun e w' => e = .returned (.int .i64 (fno (okH n m pm pr pd cc ch cf a0 a1 a2 a3) q)) ∧ Below w.heap.size w w' := by
  generalize hres : fno (okH n m pm pr pd cc ch cf a0 a1 a2 a3) q = R
  have HRES := Lib.hid hres
  have H := Lib.hid h
  have H2 := Lib.hid h2
  have H3 := Lib.hid h3
  have HX := Lib.hid hx
  have HC := Lib.hid hc
  unfold maxLen at hc3
  clear h h2 h3 hres hx hc
  go_enter Try.func76, Try.ntmps76
  go_wp2
  go_loopw [11] (fun i wr => ∃ k : Nat, k ≤ q ∧ i = .int .i64 k ∧ Hid (allB (okH n m pm pr pd cc ch cf a0 a1 a2 a3) k = true) ∧ Below w.heap.size w wr) (fun i _ => q - (intOf i).toNat)
  case atStart => exact ⟨0, by omega, rfl, rfl, Below.refl _ _⟩
  case round =>
    obtain ⟨k, hk, rfl, hgood, hbr⟩ := hrel
    by_cases hlt : k < q
    · obtain ⟨b, o, rfl, hrow⟩ := H3.out (by omega)
      obtain ⟨c0, c1, c2_, c3_⟩ := (hrow k hlt).below hbr (Nat.le_refl _)
      have HR := Lib.hid hrow
      clear hrow
      have HAL := Lib.hid (hbr.alloc hbr.size (.cells #[.int .i64 (a0 k), .int .i64 (a1 k), .int .i64 (a2 k), .int .i64 (a3 k)] 108))
      have hstep : ∀ v, okH n m pm pr pd cc ch cf a0 a1 a2 a3 k = v → possX n m pm pr pd cc ch cf a0 a1 a3 k (a0 k) (a1 k) (a2 k) (a3 k) = v := fun v h => h
      have HST := Lib.hid hstep
      have hkc : k ≤ c3 := by omega
      clear hstep
      cases q1 : okH n m pm pr pd cc ch cf a0 a1 a2 a3 k
      ·
        go_wp2_with fail
        refine wp_gen (fun W0 hW0 => ?_)
        have s0_ : Below w.heap.size w W0 := by rw [hW0]; exact HAL.out
        have s1_ : W0.cell? ⟨wr.heap.size, 0, none⟩ = some (.int .i64 (a0 k)) := by simp [hW0]
        have s2_ : W0.cell? ⟨wr.heap.size, 1, none⟩ = some (.int .i64 (a1 k)) := by simp [hW0]
        have s3_ : W0.cell? ⟨wr.heap.size, 2, none⟩ = some (.int .i64 (a2 k)) := by simp [hW0]
        have s4_ : W0.cell? ⟨wr.heap.size, 3, none⟩ = some (.int .i64 (a3 k)) := by simp [hW0]
        have s5_ : wr.heap.size < W0.heap.size := by simp [hW0]
        clear hW0
        refine wp_region_held_drew (S := fun w' => Below w.heap.size w w' ∧ w'.cell? ⟨wr.heap.size, 0, none⟩ = some (.int .i64 (a0 k)) ∧ w'.cell? ⟨wr.heap.size, 1, none⟩ = some (.int .i64 (a1 k)) ∧ w'.cell? ⟨wr.heap.size, 2, none⟩ = some (.int .i64 (a2 k)) ∧ w'.cell? ⟨wr.heap.size, 3, none⟩ = some (.int .i64 (a3 k)) ∧ wr.heap.size < w'.heap.size) (by kernel_rfl) ?_ (fun hHeld => ?_)
        · exact ⟨s0_.drew, s1_, s2_, s3_, s4_, s5_⟩
        clear s0_ s1_ s2_ s3_ s4_ s5_
        refine take_yes (i := 0) (d := 16) (v := ?_) _ rfl rfl (by kernel_rfl) (by kernel_rfl) (by kernel_rfl) (fun _ _ _ _ h => h) (by rfl) ?_ (by assumption) ?_
        rotate_left 1
        · ((intro w hSw; (try dsimp only at hSw); go_simp) <;> (try with_reducible rfl))
        (try simp only [Act.put, List.setIfInBounds_toArray, List.set_cons_zero, List.set_cons_succ])
        refine take_yes (i := 1) (d := 17) (v := ?_) _ rfl rfl (by kernel_rfl) (by kernel_rfl) (by kernel_rfl) (fun _ _ _ _ h => h) (by rfl) ?_ (by assumption) ?_
        rotate_left 1
        · ((intro w hSw; (try dsimp only at hSw); go_simp) <;> (try with_reducible rfl))
        (try simp only [Act.put, List.setIfInBounds_toArray, List.set_cons_zero, List.set_cons_succ])
        refine take_yes (i := 2) (d := 18) (v := ?_) _ rfl rfl (by kernel_rfl) (by kernel_rfl) (by kernel_rfl) (fun _ _ _ _ h => h) (by rfl) ?_ (by assumption) ?_
        rotate_left 1
        · ((intro w hSw; (try dsimp only at hSw); go_simp) <;> (try with_reducible rfl))
        (try simp only [Act.put, List.setIfInBounds_toArray, List.set_cons_zero, List.set_cons_succ])
        refine take_yes (i := 3) (d := 19) (v := ?_) _ rfl rfl (by kernel_rfl) (by kernel_rfl) (by kernel_rfl) (fun _ _ _ _ h => h) (by rfl) ?_ (by assumption) ?_
        rotate_left 1
        · ((intro w hSw; (try dsimp only at hSw); go_simp) <;> (try with_reducible rfl))
        (try simp only [Act.put, List.setIfInBounds_toArray, List.set_cons_zero, List.set_cons_succ])
        refine take_yes (i := 4) (d := 20) (v := ?_) _ rfl rfl (by kernel_rfl) (by kernel_rfl) (by kernel_rfl) (fun _ _ _ _ h => h) (by rfl) ?_ (by assumption) ?_
        rotate_left 1
        · ((intro w hSw; (try dsimp only at hSw); go_simp) <;> (try with_reducible rfl))
        (try simp only [Act.put, List.setIfInBounds_toArray, List.set_cons_zero, List.set_cons_succ])
        refine take_yes (i := 5) (d := 21) (v := ?_) _ rfl rfl (by kernel_rfl) (by kernel_rfl) (by kernel_rfl) (fun _ _ _ _ h => h) (by rfl) ?_ (by assumption) ?_
        rotate_left 1
        · ((intro w hSw; (try dsimp only at hSw); go_simp) <;> (try with_reducible rfl))
        (try simp only [Act.put, List.setIfInBounds_toArray, List.set_cons_zero, List.set_cons_succ])
        (refine wpAnyH_ready (rs := [6]) (by kernel_rfl) (by simp) ?_; refine AllReadyH.cons rfl (fun K hK => ?_) AllReadyH.nil; go_simp; go_at_call 140; refine (isPossible_calls A n c ps pm pr pd B m c2 cs cc ch cf (some ⟨b, o, none⟩) k _ a0 a1 a2 a3 (a0 k) (a1 k) (a2 k) (a3 k) _ (H.out.below (And.left hHeld) (Nat.le_refl _)) (H2.out.below (And.left hHeld) (Nat.le_refl _)) ((H3.out.below (And.left hHeld) (Nat.le_refl _)).take (by omega)) hn hm (by omega) HC.out (HX.out k hlt)).mono ?_; rw [HST.out _ q1]; rintro e wd ⟨rfl, hb⟩; refine hK.out _ _ (by obtain ⟨x0_, x1_, x2_, x3_, x4_, x5_⟩ := hHeld; exact ⟨x0_.trans (hb.mono x0_.size), cell_keep hb x1_, cell_keep hb x2_, cell_keep hb x3_, cell_keep hb x4_, Nat.lt_of_lt_of_le x5_ hb.size⟩) (fun hHeld2 => ?_); clear hK K hHeld hb; have hHeld := hHeld2; clear hHeld2; (try simp only [Act.put, List.setIfInBounds_toArray, List.set_cons_zero, List.set_cons_succ]))
        refine take_yes (i := 7) (d := 23) (v := ?_) _ rfl rfl (by kernel_rfl) (by kernel_rfl) (by kernel_rfl) (fun _ _ _ _ h => h) (by rfl) ?_ (by assumption) ?_
        rotate_left 1
        · ((intro w hSw; (try dsimp only at hSw); go_simp) <;> (try with_reducible rfl))
        (try simp only [Act.put, List.setIfInBounds_toArray, List.set_cons_zero, List.set_cons_succ])
        refine wpAnyH_done (by kernel_rfl) ?_ _
        obtain ⟨z0, z1, z2, z3, z4, z5⟩ := hHeld
        go_wp2
        go_ret
        exact ⟨ret_int (by rw [← HRES.out, fno_hit hlt hgood.out q1]), z0⟩
      ·
        go_wp2_with fail
        refine wp_gen (fun W0 hW0 => ?_)
        have s0_ : Below w.heap.size w W0 := by rw [hW0]; exact HAL.out
        have s1_ : W0.cell? ⟨wr.heap.size, 0, none⟩ = some (.int .i64 (a0 k)) := by simp [hW0]
        have s2_ : W0.cell? ⟨wr.heap.size, 1, none⟩ = some (.int .i64 (a1 k)) := by simp [hW0]
        have s3_ : W0.cell? ⟨wr.heap.size, 2, none⟩ = some (.int .i64 (a2 k)) := by simp [hW0]
        have s4_ : W0.cell? ⟨wr.heap.size, 3, none⟩ = some (.int .i64 (a3 k)) := by simp [hW0]
        have s5_ : wr.heap.size < W0.heap.size := by simp [hW0]
        clear hW0
        refine wp_region_held_drew (S := fun w' => Below w.heap.size w w' ∧ w'.cell? ⟨wr.heap.size, 0, none⟩ = some (.int .i64 (a0 k)) ∧ w'.cell? ⟨wr.heap.size, 1, none⟩ = some (.int .i64 (a1 k)) ∧ w'.cell? ⟨wr.heap.size, 2, none⟩ = some (.int .i64 (a2 k)) ∧ w'.cell? ⟨wr.heap.size, 3, none⟩ = some (.int .i64 (a3 k)) ∧ wr.heap.size < w'.heap.size) (by kernel_rfl) ?_ (fun hHeld => ?_)
        · exact ⟨s0_.drew, s1_, s2_, s3_, s4_, s5_⟩
        clear s0_ s1_ s2_ s3_ s4_ s5_
        refine take_yes (i := 0) (d := 16) (v := ?_) _ rfl rfl (by kernel_rfl) (by kernel_rfl) (by kernel_rfl) (fun _ _ _ _ h => h) (by rfl) ?_ (by assumption) ?_
        rotate_left 1
        · ((intro w hSw; (try dsimp only at hSw); go_simp) <;> (try with_reducible rfl))
        (try simp only [Act.put, List.setIfInBounds_toArray, List.set_cons_zero, List.set_cons_succ])
        refine take_yes (i := 1) (d := 17) (v := ?_) _ rfl rfl (by kernel_rfl) (by kernel_rfl) (by kernel_rfl) (fun _ _ _ _ h => h) (by rfl) ?_ (by assumption) ?_
        rotate_left 1
        · ((intro w hSw; (try dsimp only at hSw); go_simp) <;> (try with_reducible rfl))
        (try simp only [Act.put, List.setIfInBounds_toArray, List.set_cons_zero, List.set_cons_succ])
        refine take_yes (i := 2) (d := 18) (v := ?_) _ rfl rfl (by kernel_rfl) (by kernel_rfl) (by kernel_rfl) (fun _ _ _ _ h => h) (by rfl) ?_ (by assumption) ?_
        rotate_left 1
        · ((intro w hSw; (try dsimp only at hSw); go_simp) <;> (try with_reducible rfl))
        (try simp only [Act.put, List.setIfInBounds_toArray, List.set_cons_zero, List.set_cons_succ])
        refine take_yes (i := 3) (d := 19) (v := ?_) _ rfl rfl (by kernel_rfl) (by kernel_rfl) (by kernel_rfl) (fun _ _ _ _ h => h) (by rfl) ?_ (by assumption) ?_
        rotate_left 1
        · ((intro w hSw; (try dsimp only at hSw); go_simp) <;> (try with_reducible rfl))
        (try simp only [Act.put, List.setIfInBounds_toArray, List.set_cons_zero, List.set_cons_succ])
        refine take_yes (i := 4) (d := 20) (v := ?_) _ rfl rfl (by kernel_rfl) (by kernel_rfl) (by kernel_rfl) (fun _ _ _ _ h => h) (by rfl) ?_ (by assumption) ?_
        rotate_left 1
        · ((intro w hSw; (try dsimp only at hSw); go_simp) <;> (try with_reducible rfl))
        (try simp only [Act.put, List.setIfInBounds_toArray, List.set_cons_zero, List.set_cons_succ])
        refine take_yes (i := 5) (d := 21) (v := ?_) _ rfl rfl (by kernel_rfl) (by kernel_rfl) (by kernel_rfl) (fun _ _ _ _ h => h) (by rfl) ?_ (by assumption) ?_
        rotate_left 1
        · ((intro w hSw; (try dsimp only at hSw); go_simp) <;> (try with_reducible rfl))
        (try simp only [Act.put, List.setIfInBounds_toArray, List.set_cons_zero, List.set_cons_succ])
        (refine wpAnyH_ready (rs := [6]) (by kernel_rfl) (by simp) ?_; refine AllReadyH.cons rfl (fun K hK => ?_) AllReadyH.nil; go_simp; go_at_call 140; refine (isPossible_calls A n c ps pm pr pd B m c2 cs cc ch cf (some ⟨b, o, none⟩) k _ a0 a1 a2 a3 (a0 k) (a1 k) (a2 k) (a3 k) _ (H.out.below (And.left hHeld) (Nat.le_refl _)) (H2.out.below (And.left hHeld) (Nat.le_refl _)) ((H3.out.below (And.left hHeld) (Nat.le_refl _)).take (by omega)) hn hm (by omega) HC.out (HX.out k hlt)).mono ?_; rw [HST.out _ q1]; rintro e wd ⟨rfl, hb⟩; refine hK.out _ _ (by obtain ⟨x0_, x1_, x2_, x3_, x4_, x5_⟩ := hHeld; exact ⟨x0_.trans (hb.mono x0_.size), cell_keep hb x1_, cell_keep hb x2_, cell_keep hb x3_, cell_keep hb x4_, Nat.lt_of_lt_of_le x5_ hb.size⟩) (fun hHeld2 => ?_); clear hK K hHeld hb; have hHeld := hHeld2; clear hHeld2; (try simp only [Act.put, List.setIfInBounds_toArray, List.set_cons_zero, List.set_cons_succ]))
        refine take_yes (i := 7) (d := 23) (v := ?_) _ rfl rfl (by kernel_rfl) (by kernel_rfl) (by kernel_rfl) (fun _ _ _ _ h => h) (by rfl) ?_ (by assumption) ?_
        rotate_left 1
        · ((intro w hSw; (try dsimp only at hSw); go_simp) <;> (try with_reducible rfl))
        (try simp only [Act.put, List.setIfInBounds_toArray, List.set_cons_zero, List.set_cons_succ])
        refine wpAnyH_done (by kernel_rfl) ?_ _
        obtain ⟨z0, z1, z2, z3, z4, z5⟩ := hHeld
        go_wp2
        go_roundw
        case rel => exact ⟨k + 1, by omega, by go_num, Lib.hid (by rw [show allB (okH n m pm pr pd cc ch cf a0 a1 a2 a3) (k + 1) = (allB (okH n m pm pr pd cc ch cf a0 a1 a2 a3) k && okH n m pm pr pd cc ch cf a0 a1 a2 a3 k) from rfl, hgood.out, q1]; rfl), z0⟩
        case measure => simp [intOf]; omega
    · obtain rfl : k = q := by omega
      go_wp2
      go_ret
      exact ⟨ret_int (by rw [← HRES.out, fno_all hgood.out]), hbr⟩
theorem i64_info : (Try.prog.info? 2).map (fun i => (i.zero, i.size, i.bytes)) = some (some (.int .i64 0), 1, 8) := by kernel_rfl
theorem bool_info : (Try.prog.info? 4).map (fun i => (i.zero, i.size, i.bytes)) = some (some (.bool false), 1, 1) := by kernel_rfl
set_option maxHeartbeats 2000000 in
theorem l17Frees_calls (B : Option Addr) (m c2 : Nat) (cs : Nat → ByteArray) (cc ch cf : Nat → Int) (w : World) (h : CrucibleRow w B m cs cc ch cf) (hm : m ≤ 1048576) :
    Calls Try.prog 98 #[.slice B m c2] w fun e w' => (∃ v, e = .returned v ∧ w'.ownsRow w.heap.size 2 1 v m (intsL cf m)) ∧ Below w.heap.size w w' := by
  obtain ⟨i0, hi, hz0, hz1, hz2⟩ := info_parts i64_info
  have H := Lib.hid h
  have HS := Lib.hid (World.ownsRow_lit (base := w.heap.size) (e := 2) (size := 1) w #[] 0 (Nat.le_refl _) (by unfold maxLen; omega) rfl)
  clear h
  go_enter Try.func98, Try.ntmps98
  go_wp2
  go_loopw [3, 4] (fun v i wr => ∃ k : Nat, k ≤ m ∧ i = .int .i64 k ∧ Hid (wr.ownsRow w.heap.size 2 1 v k (intsL cf k)) ∧ Below w.heap.size w wr) (fun _ i _ => m - (intOf i).toNat)
  case atStart => exact ⟨0, by omega, rfl, HS, (Below.refl _ _).alloc (Nat.le_refl _) _⟩
  case round =>
    obtain ⟨k, hk, rfl, hown, hbr⟩ := hrel
    by_cases hlt : k < m
    · obtain ⟨b, o, rfl, hrow⟩ := H.out (by omega)
      obtain ⟨c0, c1, c2_, c3_⟩ := (hrow k hlt).below hbr (Nat.le_refl _)
      have HR := Lib.hid hrow
      clear hrow
      have hbs := hbr.size
      go_wp2_with (at_builtin; refine wpList_append_own _ rfl _ _ 43 rfl w.heap.size 2 i0 (.int .i64 0) 1 8 Try.underlying43 hi hz0 hz1 hz2 rfl (by decide) _ _ _ rfl (hown.out.alloc _) ⟨wr.heap.size, 0, none⟩ 1 1 [.int .i64 (cf k)] rfl rfl (fun j u hj => by match j, hj with | 0, hj => simp at hj; subst hj; simp [Addr.add]) (fun u hu => by simp at hu; subst hu; rfl) (by unfold maxLen; omega) (by omega) (by simp; omega) ?_; intro v' w1 hown' hgrow _; have hb2 := below_append hbr hbs hown.out hgrow; rw [intsL_succ] at hown'; have HOWN := Lib.hid hown'; clear hown' hgrow)
      go_roundw
      case rel => exact ⟨k + 1, by omega, by go_num, HOWN, hb2⟩
      case measure => simp [intOf]; omega
    · obtain rfl : k = m := by omega
      go_wp2
      go_ret
      exact ⟨⟨_, rfl, hown.out⟩, hbr⟩
theorem fa_step {a1 a3 : Nat → Int} {f0 x v : Int} {k : Nat} (h : v = fa a1 a3 f0 x k) (hn : (a1 k == x) = false) : v = fa a1 a3 f0 x (k + 1) := by rw [h, fa, hn]; rfl
set_option maxRecDepth 20000 in
set_option maxHeartbeats 8000000 in
theorem l17Wrong_calls (A : Option Addr) (n c : Nat) (ps : Nat → ByteArray) (pm pr pd : Nat → Int) (B : Option Addr) (m c2 : Nat) (cs : Nat → ByteArray) (cc ch cf : Nat → Int) (C : Option Addr) (q c3 : Nat) (a0 a1 a2 a3 : Nat → Int) (w : World) (h : PourRow w A n ps pm pr pd) (h2 : CrucibleRow w B m cs cc ch cf) (h3 : HeatRow w C q a0 a1 a2 a3) (hn : n ≤ 1048576) (hm : m ≤ 1048576) (hq : q ≤ 1048576) (hm0 : 0 < m) (hc : ∀ i, i < m → 1 ≤ ch i ∧ ch i ≤ 10000) (hx : ∀ i, i < q → -9223372036854775808 ≤ a2 i ∧ a2 i ≤ 9223372036854775807) (hfr : ∀ k, k ≤ q → ∀ x, x < m → -9223372036854775808 ≤ fa a1 a3 (cf x) x k) :
    Calls Try.prog 70 #[.slice A n c, .slice B m c2, .slice C q c3] w fun e w' => e = .returned (.int .i64 (fno (okH n m pm pr pd cc ch cf a0 a1 a2 a3) q)) ∧ Below w.heap.size w w' := by
  generalize hres : fno (okH n m pm pr pd cc ch cf a0 a1 a2 a3) q = R
  have HRES := Lib.hid hres
  have H := Lib.hid h
  have H2 := Lib.hid h2
  have H3 := Lib.hid h3
  have HX := Lib.hid hx
  have HC := Lib.hid hc
  have HFR := Lib.hid hfr
  obtain ⟨ib, hib, hzb0, hzb1, hzb2⟩ := info_parts bool_info
  have hmkA := fun W => run_make_rowN (P := Try.prog) 136 4 ib _ Try.underlying136 hib hzb0 .i64 .i64 n n (Nat.le_refl _) (by rw [hzb2]; omega) (by omega) W
  rw [hzb1] at hmkA
  have hD0 : Hid (∀ x, x < n → (madeCells (Value.cells (.bool false)) (n * 1))[x]? = some (.bool false)) := Lib.hid fun x hx => by rw [Nat.mul_one]; exact madeBools_at hx
  generalize madeCells (Value.cells (.bool false)) (n * 1) = arr0 at hmkA hD0
  have HMK := Lib.hid hmkA
  clear h h2 h3 hres hx hc hfr hmkA hib hzb0 hzb1 hzb2
  go_enter Try.func70, Try.ntmps70
  go_wp2_with (go_at_call 98; refine (l17Frees_calls B m c2 cs cc ch cf w H2.out hm).mono ?_; rintro e w1 ⟨⟨v, rfl, hown⟩, hb1⟩; refine Hid.out ?_)
  refine Lib.hid ?_
  obtain ⟨g, cap, cur, rfl, hg0, hblk, hcap, hcm, hcs, hcur⟩ := own_blk hown hm0
  have hgd := hblk.lt
  have HB0 := Lib.hid hblk
  have HCU : Hid (∀ x, x < m → cur[x]? = some (.int .i64 (fa a1 a3 (cf x) x 0))) := Lib.hid fun x hx => (hcur x (by omega)).trans (intsL_at cf hx)
  have hmk := HMK.out w1
  have hd0 := hb1.size
  unfold maxLen at hcm
  clear hown hblk hcur hcs
  go_wp2
  clear hmk
  go_loopw [9] (fun i wr => ∃ (k : Nat) (cu ar : Array Value), k ≤ q ∧ i = .int .i64 k ∧ Hid (allB (okH n m pm pr pd cc ch cf a0 a1 a2 a3) k = true) ∧ Hid (Blk wr g 2 cu) ∧ Hid (Blk wr w1.heap.size 4 ar) ∧ Hid (∀ x, x < m → cu[x]? = some (.int .i64 (fa a1 a3 (cf x) x k))) ∧ Hid (∀ x, x < n → ar[x]? = some (.bool (anyB (fun j => a0 j == (x : Int)) k))) ∧ Below w.heap.size w wr) (fun i _ => q - (intOf i).toNat)
  case atStart => exact ⟨0, cur, arr0, by omega, rfl, rfl, Lib.hid (HB0.out.alloc _), Lib.hid (Blk.new w1 _ _), HCU, Lib.hid fun x hx => hD0.out x hx, hb1.alloc hd0 _⟩
  case round =>
    obtain ⟨k, cu, ar, hk, rfl, hgood, hbg, hbd, hcu, har, hbr⟩ := hrel
    have hne : ¬ g = w1.heap.size := by omega
    have hne2 : ¬ w1.heap.size = g := by omega
    have hdl := hbd.out.lt
    have hne3 : ¬ wr.heap.size = w1.heap.size := by omega
    have hne4 : ¬ w1.heap.size = wr.heap.size := by omega
    have hne5 : ¬ g = wr.heap.size := by omega
    have hne6 : ¬ wr.heap.size = g := by omega
    by_cases hlt : k < q
    · obtain ⟨b3, o3, rfl, hrow3⟩ := H3.out (by omega)
      obtain ⟨c0, c1, c2_, c3_⟩ := (hrow3 k hlt).below hbr (Nat.le_refl _)
      have HR3 := Lib.hid hrow3
      clear hrow3
      have e1 : IntKind.i64.wrap ((n : Int) - 1) = (n : Int) - 1 := IntWalk.i64_in _ ⟨by omega, by omega⟩
      have e2 : IntKind.i64.wrap ((m : Int) - 1) = (m : Int) - 1 := IntWalk.i64_in _ ⟨by omega, by omega⟩
      have HAL := Lib.hid (hbr.alloc hbr.size (.cells #[.int .i64 (a0 k), .int .i64 (a1 k), .int .i64 (a2 k), .int .i64 (a3 k)] 108))
      cases p1 : inB (a0 k) 0 ((n : Int) - 1)
      · have HK : Hid (okH n m pm pr pd cc ch cf a0 a1 a2 a3 k = false) := Lib.hid (by simp only [okH, possX, p1]; rfl)
        go_wp2_with (go_at_call 85; refine (in_calls _ _ _ _).mono ?_; rintro e w5 ⟨rfl, rfl⟩; first | rw [p1] | rw [p2])
        go_ret
        exact ⟨ret_int (by rw [← HRES.out, fno_hit hlt hgood.out HK.out]), by first | exact HAL.out | exact below_drewN HAL.out _⟩
      · cases p2 : inB (a1 k) 0 ((m : Int) - 1)
        · have HK : Hid (okH n m pm pr pd cc ch cf a0 a1 a2 a3 k = false) := Lib.hid (by simp only [okH, possX, p1, p2]; rfl)
          go_wp2_with (go_at_call 85; refine (in_calls _ _ _ _).mono ?_; rintro e w5 ⟨rfl, rfl⟩; first | rw [p1] | rw [p2])
          go_ret
          exact ⟨ret_int (by rw [← HRES.out, fno_hit hlt hgood.out HK.out]), by first | exact HAL.out | exact below_drewN HAL.out _⟩
        · obtain ⟨r0, r1⟩ := inB_iff.1 p1
          obtain ⟨r2, r3⟩ := inB_iff.1 p2
          obtain ⟨X0, hX0⟩ := Int.eq_ofNat_of_zero_le r0
          obtain ⟨X1, hX1⟩ := Int.eq_ofNat_of_zero_le r2
          have hx0 : X0 < n := by omega
          have hx1 : X1 < m := by omega
          have hok : Hid (okH n m pm pr pd cc ch cf a0 a1 a2 a3 k = possX n m pm pr pd cc ch cf a0 a1 a3 k X0 X1 (a2 k) (a3 k)) := Lib.hid (by rw [← hX0, ← hX1]; rfl)
          have HA0 := Lib.hid hX0
          have HA1 := Lib.hid hX1
          rw [hX0] at p1 c0 HAL
          rw [hX1] at p2 c1 HAL
          clear r0 r1 r2 r3 hX0 hX1
          obtain ⟨b, o, rfl, hrow⟩ := H.out (by omega)
          obtain ⟨b2, o2, rfl, hrow2⟩ := H2.out (by omega)
          obtain ⟨u0, u1, u2, u3⟩ := (hrow X0 hx0).below HAL.out (Nat.le_refl _)
          obtain ⟨v0, v1, v2, v3⟩ := (hrow2 X1 hx1).below HAL.out (Nat.le_refl _)
          have HR := Lib.hid hrow
          have HR2 := Lib.hid hrow2
          have hbgW := hbg.out.alloc (.cells #[.int .i64 X0, .int .i64 X1, .int .i64 (a2 k), .int .i64 (a3 k)] 108)
          have hbdW := hbd.out.alloc (.cells #[.int .i64 X0, .int .i64 X1, .int .i64 (a2 k), .int .i64 (a3 k)] 108)
          have d0 := (hbdW.cell X0).trans (har.out X0 hx0)
          have f0 := (hbgW.cell X1).trans (hcu.out X1 hx1)
          have d1 := hbdW.frozen X0
          have f1 := hbgW.frozen X1
          have HBG := Lib.hid hbgW
          have HBD := Lib.hid hbdW
          have hfa := HFR.out k hk X1 hx1
          obtain ⟨ch0, ch1⟩ := HC.out X1 hx1
          obtain ⟨k0, k1⟩ := HX.out k hlt
          clear hrow hrow2 hbgW hbdW
          cases q3 : anyB (fun j => a0 j == (X0 : Int)) k
          · rw [q3] at d0
            have HI0 := Lib.hid (show ∀ j, Calls Try.prog 85 #[.int .i64 (a3 k), .int .i64 (pr X0), .int .i64 (pd X0)] ((wr.alloc (.cells #[.int .i64 X0, .int .i64 X1, .int .i64 (a2 k), .int .i64 (a3 k)] 108)).drewN j) (fun e w' => e = .returned (.bool (inB (a3 k) (pr X0) (pd X0))) ∧ (wr.alloc (.cells #[.int .i64 X0, .int .i64 X1, .int .i64 (a2 k), .int .i64 (a3 k)] 108)).drewN j = w') from fun j => in_calls _ _ _ _)
            generalize hF : fa a1 a3 (cf X1) X1 k = F at *
            cases s1 : decide (cc X1 < pm X0)
            · cases s2 : decide (a2 k < F)
              · cases s3 : decide (10000 < a2 k)
                · have e3 : IntKind.i64.wrap (a2 k + ch X1) = a2 k + ch X1 := by
                    have t2 := of_decide_eq_false s2
                    have t3 := of_decide_eq_false s3
                    exact IntWalk.i64_in _ ⟨by omega, by omega⟩
                  have t1 : decide (pm X0 ≤ cc X1) = true := by have := of_decide_eq_false s1; exact decide_eq_true (by omega)
                  have t2 : inB (a2 k) F 10000 = true := by have x2 := of_decide_eq_false s2; have x3 := of_decide_eq_false s3; exact inB_yes (by omega) (by omega)
                  cases s4 : (a3 k == a2 k + ch X1)
                  · have s4n : (a3 k != a2 k + ch X1) = true := by simp [bne, s4]
                    have HI := HI0
                    have HK : Hid (okH n m pm pr pd cc ch cf a0 a1 a2 a3 k = false) := Lib.hid (by rw [hok.out]; simp only [possX, Int.toNat_natCast, p1, p2, q3, hF, t1, t2, s4]; rfl)
                    go_wp2_with (go_at_call 85; refine (in_calls _ _ _ _).mono ?_; rintro e w5 ⟨rfl, rfl⟩; first | rw [p1] | rw [p2])
                    go_quiet ((go_at_call 85; with_reducible exact quiet_left (HI.out _)))
                    go_wp2
                    go_ret
                    exact ⟨ret_int (by rw [← HRES.out, fno_hit hlt hgood.out HK.out]), by first | exact HAL.out | exact below_drewN HAL.out _⟩
                  · have s4n : (a3 k != a2 k + ch X1) = false := by simp [bne, s4]
                    cases s5 : inB (a3 k) (pr X0) (pd X0)
                    · rw [s5] at HI0
                      have HI := HI0
                      have HK : Hid (okH n m pm pr pd cc ch cf a0 a1 a2 a3 k = false) := Lib.hid (by rw [hok.out]; simp only [possX, Int.toNat_natCast, p1, p2, q3, hF, t1, t2, s4, s5]; rfl)
                      go_wp2_with (go_at_call 85; refine (in_calls _ _ _ _).mono ?_; rintro e w5 ⟨rfl, rfl⟩; first | rw [p1] | rw [p2])
                      go_quiet ((go_at_call 85; with_reducible exact quiet_left (HI.out _)))
                      go_wp2
                      go_ret
                      exact ⟨ret_int (by rw [← HRES.out, fno_hit hlt hgood.out HK.out]), by first | exact HAL.out | exact below_drewN HAL.out _⟩
                    · rw [s5] at HI0
                      have HI := HI0
                      have HK : Hid (okH n m pm pr pd cc ch cf a0 a1 a2 a3 k = true) := Lib.hid (by rw [hok.out]; simp only [possX, Int.toNat_natCast, p1, p2, q3, hF, t1, t2, s4, s5]; rfl)
                      go_wp2_with (go_at_call 85; refine (in_calls _ _ _ _).mono ?_; rintro e w5 ⟨rfl, rfl⟩; first | rw [p1] | rw [p2])
                      go_quiet ((go_at_call 85; with_reducible exact quiet_left (HI.out _)))
                      go_wp2
                      go_roundw
                      case rel =>
                        refine ⟨k + 1, cu.setIfInBounds X1 (.int .i64 (a3 k)), ar.setIfInBounds X0 (.bool true), by omega, by go_num, Lib.hid ?_, Lib.hid ?_, Lib.hid ?_, Lib.hid ?_, Lib.hid ?_, ?_⟩
                        · rw [show allB (okH n m pm pr pd cc ch cf a0 a1 a2 a3) (k + 1) = (allB (okH n m pm pr pd cc ch cf a0 a1 a2 a3) k && okH n m pm pr pd cc ch cf a0 a1 a2 a3 k) from rfl, hgood.out, HK.out]; rfl
                        · exact ((HBG.out.drewN _).far hne _).set_ X1 _
                        · exact ((HBD.out.drewN _).set_ X0 _).far hne2 _
                        · intro x hx
                          rcases Nat.decEq x X1 with hxx | rfl
                          · rw [Array.getElem?_setIfInBounds_ne (by omega), hcu.out x hx]
                            have hn2 : (a1 k == (x : Int)) = false := by rw [HA1.out]; exact beq_eq_false_iff_ne.2 (by omega)
                            rw [← fa_step rfl hn2]
                          · rw [Array.getElem?_setIfInBounds_self_of_lt (Array.getElem?_eq_some_iff.1 (hcu.out _ hx)).1]
                            rw [fa, HA1.out]; simp
                        · intro x hx
                          rcases Nat.decEq x X0 with hxx | rfl
                          · rw [Array.getElem?_setIfInBounds_ne (by omega), har.out x hx, anyB_succ]
                            have hn2 : (a0 k == (x : Int)) = false := by rw [HA0.out]; exact beq_eq_false_iff_ne.2 (by omega)
                            rw [hn2, Bool.or_false]
                          · rw [Array.getElem?_setIfInBounds_self_of_lt (Array.getElem?_eq_some_iff.1 (har.out _ hx)).1, anyB_succ, HA0.out]
                            simp
                        · exact ((below_drewN HAL.out _).setCell (by simp; omega) _).setCell (by simp; omega) _
                      case measure => simp [intOf]; omega
                · have t2 : inB (a2 k) F 10000 = false := by have x3 := of_decide_eq_true s3; exact inB_no (by omega)
                  have t1 : decide (pm X0 ≤ cc X1) = true := by have := of_decide_eq_false s1; exact decide_eq_true (by omega)
                  have HI := HI0
                  have HK : Hid (okH n m pm pr pd cc ch cf a0 a1 a2 a3 k = false) := Lib.hid (by rw [hok.out]; simp only [possX, Int.toNat_natCast, p1, p2, q3, hF, t1, t2]; rfl)
                  go_wp2_with (go_at_call 85; refine (in_calls _ _ _ _).mono ?_; rintro e w5 ⟨rfl, rfl⟩; first | rw [p1] | rw [p2])
                  go_quiet ((go_at_call 85; with_reducible exact quiet_left (HI.out _)))
                  go_wp2
                  go_ret
                  exact ⟨ret_int (by rw [← HRES.out, fno_hit hlt hgood.out HK.out]), by first | exact HAL.out | exact below_drewN HAL.out _⟩
              · have t2 : inB (a2 k) F 10000 = false := by have x3 := of_decide_eq_true s2; exact inB_no (by omega)
                have t1 : decide (pm X0 ≤ cc X1) = true := by have := of_decide_eq_false s1; exact decide_eq_true (by omega)
                have HI := HI0
                have HK : Hid (okH n m pm pr pd cc ch cf a0 a1 a2 a3 k = false) := Lib.hid (by rw [hok.out]; simp only [possX, Int.toNat_natCast, p1, p2, q3, hF, t1, t2]; rfl)
                go_wp2_with (go_at_call 85; refine (in_calls _ _ _ _).mono ?_; rintro e w5 ⟨rfl, rfl⟩; first | rw [p1] | rw [p2])
                go_quiet ((go_at_call 85; with_reducible exact quiet_left (HI.out _)))
                go_wp2
                go_ret
                exact ⟨ret_int (by rw [← HRES.out, fno_hit hlt hgood.out HK.out]), by first | exact HAL.out | exact below_drewN HAL.out _⟩
            · have t1 : decide (pm X0 ≤ cc X1) = false := by have := of_decide_eq_true s1; exact decide_eq_false (by omega)
              have HI := HI0
              have HK : Hid (okH n m pm pr pd cc ch cf a0 a1 a2 a3 k = false) := Lib.hid (by rw [hok.out]; simp only [possX, Int.toNat_natCast, p1, p2, q3, t1]; rfl)
              go_wp2_with (go_at_call 85; refine (in_calls _ _ _ _).mono ?_; rintro e w5 ⟨rfl, rfl⟩; first | rw [p1] | rw [p2])
              go_quiet ((go_at_call 85; with_reducible exact quiet_left (HI.out _)))
              go_wp2
              go_ret
              exact ⟨ret_int (by rw [← HRES.out, fno_hit hlt hgood.out HK.out]), by first | exact HAL.out | exact below_drewN HAL.out _⟩
          · rw [q3] at d0
            have HK : Hid (okH n m pm pr pd cc ch cf a0 a1 a2 a3 k = false) := Lib.hid (by rw [hok.out]; simp only [possX, p1, p2, q3]; rfl)
            go_wp2_with (go_at_call 85; refine (in_calls _ _ _ _).mono ?_; rintro e w5 ⟨rfl, rfl⟩; first | rw [p1] | rw [p2])
            go_ret
            exact ⟨ret_int (by rw [← HRES.out, fno_hit hlt hgood.out HK.out]), by first | exact HAL.out | exact below_drewN HAL.out _⟩
    · obtain rfl : k = q := by omega
      go_wp2
      go_ret
      exact ⟨ret_int (by rw [← HRES.out, fno_all hgood.out]), hbr⟩
end Go.Proofs.Ytaanlkdpconfiaa
