/- Profiles with other rings (the program's way): reshaped with scaled's closure, orState, scaled. -/
import Derived.Test.YtaanlkdpconfiaaScale
namespace Go.Proofs.Ytaanlkdpconfiaa
set_option linter.unusedVariables false
set_option linter.unusedSimpArgs false
open Go.RowKit

/-- the first k rings as cells -/
def ringsL (p q h : Nat → Int) : Nat → List Value
  | 0 => []
  | k + 1 => ringsL p q h k ++ [.int .i64 (p k), .int .i64 (q k), .int .i64 (h k)]
theorem ringsL_succ (p q h : Nat → Int) (k : Nat) : ringsL p q h k ++ [.int .i64 (p k), .int .i64 (q k), .int .i64 (h k)] = ringsL p q h (k + 1) := rfl
theorem ringsL_len (p q h : Nat → Int) (k : Nat) : (ringsL p q h k).length = k * 3 := by
  induction k with
  | zero => rfl
  | succ k ih => rw [← ringsL_succ, List.length_append, ih]; simp; omega
theorem ringsL_at (p q h : Nat → Int) {i k : Nat} (hi : i < k) : (ringsL p q h k)[i * 3]? = some (.int .i64 (p i)) ∧ (ringsL p q h k)[i * 3 + 1]? = some (.int .i64 (q i)) ∧ (ringsL p q h k)[i * 3 + 2]? = some (.int .i64 (h i)) := by
  induction k with
  | zero => omega
  | succ k ih =>
    have hl := ringsL_len p q h k
    rw [← ringsL_succ]
    rcases Nat.lt_or_ge i k with h1 | h1
    · rw [List.getElem?_append_left (by omega), List.getElem?_append_left (by omega), List.getElem?_append_left (by omega)]
      exact ih h1
    · obtain rfl : i = k := by omega
      rw [List.getElem?_append_right (by omega), List.getElem?_append_right (by omega), List.getElem?_append_right (by omega), hl]
      simp
theorem ringOwn_of {w : World} {base n : Nat} {v : Value} {p q h : Nat → Int} (ho : w.ownsRow base 177 3 v n (ringsL p q h n)) (hn : 0 < n) : ∃ g c, v = .slice (some ⟨g, 0, none⟩) n c ∧ base ≤ g ∧ RingOwn w (some ⟨g, 0, none⟩) n p q h g := by
  obtain ⟨g, cap, cur, hv, hg, hb, hc, -, hs, hcur⟩ := own_blk ho hn
  refine ⟨g, cap, hv, hg, fun _ => ⟨rfl, cur, hb, by rw [hs]; exact Nat.mul_le_mul_right 3 hc, fun i hi => ?_⟩⟩
  have := ringsL_at p q h hi
  exact ⟨(hcur _ (by omega)).trans this.1, (hcur _ (by omega)).trans this.2.1, (hcur _ (by omega)).trans this.2.2⟩
/-- a profile and a code that a call has returned: the rings lie in a block of the call's own -/
def ProfOut (w : World) (s : ByteArray) (n : Nat) (p q h : Nat → Int) (code : Int) (e : Ending) (w' : World) : Prop :=
  ∃ A c G, e = .returned (.tuple #[.agg #[.string s, .slice A n c], .int .i64 code]) ∧ RingOwn w' A n p q h G ∧ w.heap.size ≤ G ∧ Below w.heap.size w w'
set_option maxHeartbeats 1000000 in
theorem orState_yes (s : ByteArray) (A : Option Addr) (n c : Nat) (p q h : Nat → Int) (w : World) (hs : s.size ≤ maxLen) (hr : RingRow w A n p q h) (hn : n ≤ 1048576) (q1 : profB s n p q h = true) :
    Calls Try.prog 191 #[.agg #[.string s, .slice A n c]] w fun e w' => e = .returned (.tuple #[.agg #[.string s, .slice A n c], .int .i64 0]) ∧ Below w.heap.size w w' := by
  have HR := Lib.hid hr
  have HAL := Lib.hid (((Below.refl w.heap.size w).alloc (Nat.le_refl _) (.cells #[.string s, .slice A n c] 84)).alloc (by simp) (.cells #[.string ⟨#[]⟩, .slice none 0 0] 84))
  clear hr
  go_enter Try.func191, Try.ntmps191
  go_wp2_with (go_at_call 117; refine (ValidProfile_calls _ _ _ _ _ _ _ _ hs (HR.out.below HAL.out (Nat.le_refl _)) hn).mono ?_; rintro e w1 ⟨rfl, hb⟩; rw [q1]; have R1 := ((Blk.new w 84 #[.string s, .slice A n c]).alloc (.cells #[.string ⟨#[]⟩, .slice none 0 0] 84)).keep hb; have R2 := (Blk.new2 w (.cells #[.string s, .slice A n c] 84) 84 #[.string ⟨#[]⟩, .slice none 0 0]).keep hb; have x0 := (R1.cell 0).trans rfl; have x1 := (R1.cell 1).trans rfl; have y0 := (R2.cell 0).trans rfl; have y1 := (R2.cell 1).trans rfl; have f2 := R2.frozen; have HB := Lib.hid (HAL.out.trans (hb.mono HAL.out.size)); clear R1 R2 hb)
  refine bodyPost_ret (v := .tuple #[.agg #[.string s, .slice A n c], .int .i64 0]) (by simp [results, Try.results191, go_sem, y0, y1]) rfl ⟨rfl, ?_⟩
  repeat (refine Below.setCell ?_ (by simp <;> omega) _)
  exact HB.out
set_option maxHeartbeats 1000000 in
theorem orState_no (s : ByteArray) (A : Option Addr) (n c : Nat) (p q h : Nat → Int) (w : World) (hs : s.size ≤ maxLen) (hr : RingRow w A n p q h) (hn : n ≤ 1048576) (q1 : profB s n p q h = false) :
    Calls Try.prog 191 #[.agg #[.string s, .slice A n c]] w fun e w' => e = .returned (.tuple #[.agg #[.string ⟨#[]⟩, .slice none 0 0], .int .i64 6]) ∧ Below w.heap.size w w' := by
  have HR := Lib.hid hr
  have HAL := Lib.hid (((Below.refl w.heap.size w).alloc (Nat.le_refl _) (.cells #[.string s, .slice A n c] 84)).alloc (by simp) (.cells #[.string ⟨#[]⟩, .slice none 0 0] 84))
  clear hr
  go_enter Try.func191, Try.ntmps191
  go_wp2_with (go_at_call 117; refine (ValidProfile_calls _ _ _ _ _ _ _ _ hs (HR.out.below HAL.out (Nat.le_refl _)) hn).mono ?_; rintro e w1 ⟨rfl, hb⟩; rw [q1]; have R1 := ((Blk.new w 84 #[.string s, .slice A n c]).alloc (.cells #[.string ⟨#[]⟩, .slice none 0 0] 84)).keep hb; have R2 := (Blk.new2 w (.cells #[.string s, .slice A n c] 84) 84 #[.string ⟨#[]⟩, .slice none 0 0]).keep hb; have x0 := (R1.cell 0).trans rfl; have x1 := (R1.cell 1).trans rfl; have y0 := (R2.cell 0).trans rfl; have y1 := (R2.cell 1).trans rfl; have f2 := R2.frozen; have HB := Lib.hid (HAL.out.trans (hb.mono HAL.out.size)); clear R1 R2 hb)
  refine bodyPost_ret (v := .tuple #[.agg #[.string ⟨#[]⟩, .slice none 0 0], .int .i64 6]) (by simp [results, Try.results191, go_sem, y0, y1]) rfl ⟨rfl, ?_⟩
  repeat (refine Below.setCell ?_ (by simp <;> omega) _)
  exact HB.out
/-- orState, both ways, for a row of a call's own -/
theorem orState_calls (s : ByteArray) (A : Option Addr) (n c : Nat) (p q h : Nat → Int) (G B : Nat) (w0 w : World) (hs : s.size ≤ maxLen) (hr : RingOwn w A n p q h G) (hn : n ≤ 1048576) (hG : w0.heap.size ≤ G) :
    Calls Try.prog 191 #[.agg #[.string s, .slice A n c]] w fun e w' => (∃ A' c', e = .returned (.tuple #[.agg #[.string (bif profB s n p q h then s else ⟨#[]⟩), .slice A' (bif profB s n p q h then n else 0) c'], .int .i64 (bif profB s n p q h then 0 else 6)]) ∧ RingOwn w' A' (bif profB s n p q h then n else 0) p q h G) ∧ Below w.heap.size w w' := by
  cases q1 : profB s n p q h
  · exact (orState_no s A n c p q h w hs hr.row hn q1).mono fun e w' he => ⟨⟨none, 0, he.1, fun h0 => absurd h0 (Nat.lt_irrefl _)⟩, he.2⟩
  · exact (orState_yes s A n c p q h w hs hr.row hn q1).mono fun e w' he => ⟨⟨A, c, he.1, hr.keep he.2⟩, he.2⟩
theorem own_store {w : World} {base : Nat} {e : TypeId} {size n : Nat} {v : Value} {xs : List Value} {p : Addr} (h : w.ownsRow base e size v n xs) (hp : p.block < base) (u : Value) : (w.setCell p u).ownsRow base e size v n xs :=
  h.kept (row := some p.block) (gb_set (World.grownBy.refl _ _) rfl u) (by
    cases hb : v.ownBlock with
    | none => exact .inl rfl
    | some k => exact .inr fun e => by have := (h.lt k hb).1; injection e with e; omega)
set_option maxRecDepth 20000 in
set_option maxHeartbeats 8000000 in
theorem reshaped_calls (s : ByteArray) (A : Option Addr) (n c : Nat) (p q h : Nat → Int) (num den : Int) (g1 g2 : Nat) (w : World) (c1 : w.cell? ⟨g1, 0, none⟩ = some (.int .i64 num)) (c2 : w.cell? ⟨g2, 0, none⟩ = some (.int .i64 den)) (hs : s.size ≤ maxLen) (hr : RingRow w A n p q h) (hn0 : 0 < n) (hn : n ≤ 32) (hx : ∀ i, i < n → (0 ≤ p i ∧ p i ≤ 300000) ∧ (0 ≤ q i ∧ q i ≤ 300000) ∧ (0 ≤ h i ∧ h i ≤ 300000)) (hnum : 1 ≤ num ∧ num ≤ 2000) (hden : 1 ≤ den ∧ den ≤ 2000) :
    Calls Try.prog 168 #[.agg #[.string s, .slice A n c], .func (.func 169) #[] #[.pointer (some ⟨g1, 0, none⟩), .pointer (some ⟨g2, 0, none⟩)]] w fun e w' => ProfOut w (bif profB s n (rs p num den) (rs q num den) (rs h num den) then s else ⟨#[]⟩) (bif profB s n (rs p num den) (rs q num den) (rs h num den) then n else 0) (rs p num den) (rs q num den) (rs h num den) (bif profB s n (rs p num den) (rs q num den) (rs h num den) then 0 else 6) e w' := by
  obtain ⟨i0, hi, hz0, hz1, hz2⟩ := info_parts Ring_info
  have HR := Lib.hid hr
  have HX := Lib.hid hx
  have hl1 := cell_lt c1
  have hl2 := cell_lt c2
  have C1 := Lib.hid c1
  have C2 := Lib.hid c2
  clear hr hx c1 c2
  go_enter Try.func168, Try.ntmps168
  go_wp2_with fail
  have hst := Lib.hid (show Below w.heap.size w (((w.alloc (.cells #[.string s, .slice A n c] 84)).alloc (.cells #[.string ⟨#[]⟩, .slice none 0 0] 84)).alloc (.cells #[.string s, .slice none 0 0] 84)) from (((Below.refl w.heap.size w).alloc (Nat.le_refl _) _).alloc (by simp) _).alloc (by simp; omega) _)
  go_loopw [15] (fun i wr => ∃ (k : Nat) (v : Value), k ≤ n ∧ i = .int .i64 k ∧ Hid (wr.ownsRow (w.heap.size + 1 + 1 + 1) 177 3 v k (ringsL (rs p num den) (rs q num den) (rs h num den) k)) ∧ Hid (Blk wr (w.heap.size + 1 + 1) 84 #[.string s, v]) ∧ Hid (Blk wr (w.heap.size + 1) 84 #[.string ⟨#[]⟩, .slice none 0 0]) ∧ w.heap.size + 1 + 1 + 1 ≤ wr.heap.size ∧ Below w.heap.size w wr) (fun i _ => n - (intOf i).toNat)
  case atStart => exact ⟨0, _, by omega, rfl, Lib.hid (World.ownsRow_nil _ _ _ _), Lib.hid (Blk.new3 _ _ _ _ _), Lib.hid ((Blk.new2 _ _ _ _).alloc _), by simp, hst.out⟩
  case round =>
    obtain ⟨k, v, hk, rfl, hown, hob, hzb, hsz, hbr⟩ := hrel
    by_cases hlt : k < n
    · obtain ⟨b, o, rfl, hrow⟩ := HR.out (by omega)
      obtain ⟨u0, u1, u2⟩ := (hrow k hlt).below hbr (Nat.le_refl _)
      obtain ⟨hx1, hx2, hx3⟩ := HX.out k hlt
      have HR2 := Lib.hid hrow
      have HLT := Lib.hid hown.out.lt
      have n1 : w.heap.size + 1 + 1 ≠ g1 := by omega
      have n2 : w.heap.size + 1 + 1 ≠ g2 := by omega
      have n3 : w.heap.size + 1 + 1 ≠ wr.heap.size := by omega
      have n4 : w.heap.size + 1 + 1 < wr.heap.size := by omega
      clear hrow
      go_wp2_with fail
      refine wp_gen (fun W0 hW0 => ?_)
      have s0_ : Below w.heap.size w W0 := by rw [hW0]; exact hbr.alloc hbr.size _
      have s1_ : W0.cell? ⟨g1, 0, none⟩ = some (.int .i64 num) := by rw [hW0]; exact cell_al (cell_keep hbr C1.out) _
      have s2_ : W0.cell? ⟨g2, 0, none⟩ = some (.int .i64 den) := by rw [hW0]; exact cell_al (cell_keep hbr C2.out) _
      have s3_ : W0.cell? ⟨wr.heap.size, 0, none⟩ = some (.int .i64 (p k)) := by simp [hW0]
      have s4_ : W0.cell? ⟨wr.heap.size, 1, none⟩ = some (.int .i64 (q k)) := by simp [hW0]
      have s5_ : W0.cell? ⟨wr.heap.size, 2, none⟩ = some (.int .i64 (h k)) := by simp [hW0]
      have s6_ : wr.heap.size < W0.heap.size := by simp [hW0]
      have s7_ : Blk W0 (w.heap.size + 1) 84 #[.string ⟨#[]⟩, .slice none 0 0] := by rw [hW0]; exact hzb.out.alloc _
      have HO0 : Hid (W0.ownsRow (w.heap.size + 1 + 1 + 1) 177 3 v k (ringsL (rs p num den) (rs q num den) (rs h num den) k)) := Lib.hid (by rw [hW0]; exact hown.out.alloc _)
      have HB0 : Hid (Blk W0 (w.heap.size + 1 + 1) 84 #[.string s, v]) := Lib.hid (by rw [hW0]; exact hob.out.alloc _)
      have o1 : W0.cell? ⟨w.heap.size + 1 + 1, 1, none⟩ = some v := (HB0.out.cell 1).trans rfl
      clear hW0
      refine wp_region_held_drew (S := fun w' => Below w.heap.size w w' ∧ w'.cell? ⟨g1, 0, none⟩ = some (.int .i64 num) ∧ w'.cell? ⟨g2, 0, none⟩ = some (.int .i64 den) ∧ w'.cell? ⟨wr.heap.size, 0, none⟩ = some (.int .i64 (p k)) ∧ w'.cell? ⟨wr.heap.size, 1, none⟩ = some (.int .i64 (q k)) ∧ w'.cell? ⟨wr.heap.size, 2, none⟩ = some (.int .i64 (h k)) ∧ wr.heap.size < w'.heap.size ∧ Blk w' (w.heap.size + 1) 84 #[.string ⟨#[]⟩, .slice none 0 0]) (by kernel_rfl) ?_ (fun hHeld => ?_)
      · exact ⟨s0_.drew, s1_, s2_, s3_, s4_, s5_, s6_, s7_⟩
      clear s0_ s1_ s2_ s3_ s4_ s5_ s6_ s7_
      refine take_yes (i := 0) (d := 20) (v := ?_) _ rfl rfl (by kernel_rfl) (by kernel_rfl) (by kernel_rfl) (fun _ _ _ _ h => h) (by rfl) ?_ (by assumption) ?_
      rotate_left 1
      · ((intro w hSw; (try dsimp only at hSw); go_simp) <;> (try with_reducible rfl))
      (try simp only [Act.put, List.setIfInBounds_toArray, List.set_cons_zero, List.set_cons_succ])
      refine take_yes (i := 2) (d := 22) (v := ?_) _ rfl rfl (by kernel_rfl) (by kernel_rfl) (by kernel_rfl) (fun _ _ _ _ h => h) (by rfl) ?_ (by assumption) ?_
      rotate_left 1
      · ((intro w hSw; (try dsimp only at hSw); go_simp) <;> (try with_reducible rfl))
      (try simp only [Act.put, List.setIfInBounds_toArray, List.set_cons_zero, List.set_cons_succ])
      refine take_yes (i := 3) (d := 23) (v := ?_) _ rfl rfl (by kernel_rfl) (by kernel_rfl) (by kernel_rfl) (fun _ _ _ _ h => h) (by rfl) ?_ (by assumption) ?_
      rotate_left 1
      · ((intro w hSw; (try dsimp only at hSw); go_simp) <;> (try with_reducible rfl))
      (try simp only [Act.put, List.setIfInBounds_toArray, List.set_cons_zero, List.set_cons_succ])
      refine take_yes (i := 4) (d := 24) (v := ?_) _ rfl rfl (by kernel_rfl) (by kernel_rfl) (by kernel_rfl) (fun _ _ _ _ h => h) (by rfl) ?_ (by assumption) ?_
      rotate_left 1
      · ((intro w hSw; (try dsimp only at hSw); go_simp) <;> (try with_reducible rfl))
      (try simp only [Act.put, List.setIfInBounds_toArray, List.set_cons_zero, List.set_cons_succ])
      refine wpAnyH_ready (rs := [1, 5]) (by kernel_rfl) (by simp) ?_; refine AllReadyH.cons rfl (fun K hK => ?_) (AllReadyH.cons rfl (fun K hK => ?_) AllReadyH.nil)
      · go_simp; refine hK.out _ _ (by assumption) (fun hHeld2 => ?_); clear hK K hHeld; have hHeld := hHeld2; clear hHeld2; (try simp only [Act.put, List.setIfInBounds_toArray, List.set_cons_zero, List.set_cons_succ])
        (refine wpAnyH_ready (rs := [5]) (by kernel_rfl) (by simp) ?_; refine AllReadyH.cons rfl (fun K hK => ?_) AllReadyH.nil; go_simp; go_at_call 169; refine (scale1_calls _ _ _ _ num den g1 g2 _ (And.left (And.right hHeld)) (And.left (And.right (And.right hHeld))) hx1 hx2 hx3 hnum hden).mono ?_; rintro e wd ⟨rfl, hb⟩; refine hK.out _ _ (by obtain ⟨x0_, x1_, x2_, x3_, x4_, x5_, x6_, x7_⟩ := hHeld; exact ⟨x0_.trans (hb.mono x0_.size), cell_keep hb x1_, cell_keep hb x2_, cell_keep hb x3_, cell_keep hb x4_, cell_keep hb x5_, Nat.lt_of_lt_of_le x6_ hb.size, x7_.keep hb⟩) (fun hHeld2 => ?_); have HO1 := Lib.hid (own_keep (own_drew HO0.out) hb); have HB1 := Lib.hid (HB0.out.drew.keep hb); have o2 := (HB1.out.cell 1).trans rfl; have o2a := cell_al o2; clear hK K hHeld hb; have hHeld := hHeld2; clear hHeld2; (try simp only [Act.put, List.setIfInBounds_toArray, List.set_cons_zero, List.set_cons_succ]))
        (refine wpAnyH_ready (rs := [6]) (by kernel_rfl) (by simp) ?_; refine AllReadyH.cons rfl (fun K hK => ?_) AllReadyH.nil; go_simp; refine hK.out _ _ (by obtain ⟨x0_, x1_, x2_, x3_, x4_, x5_, x6_, x7_⟩ := hHeld; exact ⟨x0_.trans (((Below.refl _ _).alloc (Nat.le_refl _) _).mono x0_.size), cell_keep ((Below.refl _ _).alloc (Nat.le_refl _) _) x1_, cell_keep ((Below.refl _ _).alloc (Nat.le_refl _) _) x2_, cell_keep ((Below.refl _ _).alloc (Nat.le_refl _) _) x3_, cell_keep ((Below.refl _ _).alloc (Nat.le_refl _) _) x4_, cell_keep ((Below.refl _ _).alloc (Nat.le_refl _) _) x5_, Nat.lt_of_lt_of_le x6_ ((Below.refl _ _).alloc (Nat.le_refl _) _).size, x7_.keep ((Below.refl _ _).alloc (Nat.le_refl _) _)⟩) (fun hHeld2 => ?_); clear hK K; have hOld := hHeld; clear hHeld; have hHeld := hHeld2; clear hHeld2; (try simp only [Act.put, List.setIfInBounds_toArray, List.set_cons_zero, List.set_cons_succ]))
        (refine wpAnyH_ready (rs := [7]) (by kernel_rfl) (by simp) ?_; refine AllReadyH.cons rfl (fun K hK => ?_) AllReadyH.nil; refine step_append_own _ rfl (.tmp 21) (.tmp 26) _ rfl (w.heap.size + 1 + 1 + 1) 177 i0 (.agg #[.int .i64 0, .int .i64 0, .int .i64 0]) 3 24 Try.underlying82 hi hz0 hz1 hz2 rfl (by decide) _ _ _ rfl (HO1.out.alloc _) ⟨_, 0, none⟩ 1 1 [.int .i64 (nr (p k * num) den), .int .i64 (nr (q k * num) den), .int .i64 (nr (h k * num) den)] rfl rfl (fun j u hj => by match j, hj with | 0, hj => simp at hj; subst hj; simp [Addr.add] | 1, hj => simp at hj; subst hj; simp [Addr.add] | 2, hj => simp at hj; subst hj; simp [Addr.add]) (fun u hu => by simp at hu; rcases hu with rfl | rfl | rfl <;> rfl) (by unfold maxLen; omega) (by omega) (by have := hHeld.2.2.2.2.2.2.1; omega) ?_; intro v_ wa_ hown_ hgrow_ hat_; obtain ⟨g_, cap_, cur_, rfl, -⟩ := own_blk hown_ (by omega); have HB2 := Lib.hid ((hgrow_.block _ (HB1.out.alloc _).lt (fun e => absurd (HLT.out _ e.symm).1 (by (try dsimp only); omega))).trans (HB1.out.alloc _)); have HBT : Blk _ _ _ _ := HB2.out; have o3 : wa_.cell? ⟨w.heap.size + 1 + 1, 1, none⟩ = some v := (HBT.cell 1).trans rfl; have f3 := HBT.frozen; clear HBT; refine hK.out _ _ (by obtain ⟨x0_, x1_, x2_, x3_, x4_, x5_, x6_, x7_⟩ := hHeld; exact ⟨x0_.grown hgrow_ x0_.size (fun k hk => by have := (HLT.out k hk).1; omega), hgrow_.cell x1_ (fun e => absurd (HLT.out _ e.symm).1 (by (try dsimp only); omega)), hgrow_.cell x2_ (fun e => absurd (HLT.out _ e.symm).1 (by (try dsimp only); omega)), hgrow_.cell x3_ (fun e => Nat.lt_irrefl _ (HLT.out _ e.symm).2), hgrow_.cell x4_ (fun e => Nat.lt_irrefl _ (HLT.out _ e.symm).2), hgrow_.cell x5_ (fun e => Nat.lt_irrefl _ (HLT.out _ e.symm).2), Nat.lt_of_lt_of_le x6_ hgrow_.size, (hgrow_.block _ x7_.lt (fun e => absurd (HLT.out _ e.symm).1 (by (try dsimp only); omega))).trans x7_⟩) (fun hHeld2 => ?_); clear hK K hHeld; (try clear hOld); have hHeld := hHeld2; clear hHeld2; (try simp only [Act.put, List.setIfInBounds_toArray, List.set_cons_zero, List.set_cons_succ]))
        refine take_yes (i := 8) (d := 28) (v := ?_) _ rfl rfl (by kernel_rfl) (by kernel_rfl) (by kernel_rfl) (fun _ _ _ _ h => h) (by rfl) ?_ (by assumption) ?_
        rotate_left 1
        · ((intro w hSw; (try dsimp only at hSw); go_simp) <;> (try with_reducible rfl))
        (try simp only [Act.put, List.setIfInBounds_toArray, List.set_cons_zero, List.set_cons_succ])
        (refine wpAnyH_ready (rs := [9]) (by kernel_rfl) (by simp) ?_; refine AllReadyH.cons rfl (fun K hK => ?_) AllReadyH.nil; go_simp; refine hK.out _ _ (by obtain ⟨x0_, x1_, x2_, x3_, x4_, x5_, x6_, x7_⟩ := hHeld; exact ⟨x0_.setCell (p := ⟨w.heap.size + 1 + 1, 1, none⟩) (by (try dsimp only); omega) (.slice (some ⟨g_, 0, none⟩) (k + 1) cap_), cell_far (q := ⟨w.heap.size + 1 + 1, 1, none⟩) x1_ n1, cell_far (q := ⟨w.heap.size + 1 + 1, 1, none⟩) x2_ n2, cell_far (q := ⟨w.heap.size + 1 + 1, 1, none⟩) x3_ n3, cell_far (q := ⟨w.heap.size + 1 + 1, 1, none⟩) x4_ n3, cell_far (q := ⟨w.heap.size + 1 + 1, 1, none⟩) x5_ n3, by simpa using x6_, x7_.far (by (try dsimp only); omega) (.slice (some ⟨g_, 0, none⟩) (k + 1) cap_)⟩) (fun hHeld2 => ?_); clear hK K hHeld; (try clear hOld); have hHeld := hHeld2; clear hHeld2; (try simp only [Act.put, List.setIfInBounds_toArray, List.set_cons_zero, List.set_cons_succ]))
        refine wpAnyH_done (by kernel_rfl) ?_ _
        obtain ⟨z0, z1, z2, z3, z4, z5, z6, z7⟩ := hHeld
        have HOWN := Lib.hid (own_store (p := ⟨w.heap.size + 1 + 1, 1, none⟩) (show World.ownsRow _ _ _ _ _ (k + 1) (ringsL (rs p num den) (rs q num den) (rs h num den) (k + 1)) from hown_) (by (try dsimp only); omega) (.slice (some ⟨g_, 0, none⟩) (k + 1) cap_))
        have HB3 := Lib.hid (Blk.set_ HB2.out 1 (.slice (some ⟨g_, 0, none⟩) (k + 1) cap_))
        clear hown_ hgrow_ hat_ HB2 o3 f3
        go_wp2
        go_roundw
        case rel => exact ⟨k + 1, (.slice (some ⟨g_, 0, none⟩) (k + 1) cap_), by omega, by go_num, HOWN, HB3, Lib.hid z7, by omega, z0⟩
        case measure => simp [intOf]; omega
      · go_simp; go_at_call 169; refine (scale1_calls _ _ _ _ num den g1 g2 _ (And.left (And.right hHeld)) (And.left (And.right (And.right hHeld))) hx1 hx2 hx3 hnum hden).mono ?_; rintro e wd ⟨rfl, hb⟩; refine hK.out _ _ (by obtain ⟨x0_, x1_, x2_, x3_, x4_, x5_, x6_, x7_⟩ := hHeld; exact ⟨x0_.trans (hb.mono x0_.size), cell_keep hb x1_, cell_keep hb x2_, cell_keep hb x3_, cell_keep hb x4_, cell_keep hb x5_, Nat.lt_of_lt_of_le x6_ hb.size, x7_.keep hb⟩) (fun hHeld2 => ?_); have HO1 := Lib.hid (own_keep (own_drew HO0.out) hb); have HB1 := Lib.hid (HB0.out.drew.keep hb); have o2 := (HB1.out.cell 1).trans rfl; have o2a := cell_al o2; clear hK K hHeld hb; have hHeld := hHeld2; clear hHeld2; (try simp only [Act.put, List.setIfInBounds_toArray, List.set_cons_zero, List.set_cons_succ])
        refine wpAnyH_ready (rs := [1, 6]) (by kernel_rfl) (by simp) ?_; refine AllReadyH.cons rfl (fun K hK => ?_) (AllReadyH.cons rfl (fun K hK => ?_) AllReadyH.nil)
        · go_simp; refine hK.out _ _ (by assumption) (fun hHeld2 => ?_); clear hK K hHeld; have hHeld := hHeld2; clear hHeld2; (try simp only [Act.put, List.setIfInBounds_toArray, List.set_cons_zero, List.set_cons_succ])
          (refine wpAnyH_ready (rs := [6]) (by kernel_rfl) (by simp) ?_; refine AllReadyH.cons rfl (fun K hK => ?_) AllReadyH.nil; go_simp; refine hK.out _ _ (by obtain ⟨x0_, x1_, x2_, x3_, x4_, x5_, x6_, x7_⟩ := hHeld; exact ⟨x0_.trans (((Below.refl _ _).alloc (Nat.le_refl _) _).mono x0_.size), cell_keep ((Below.refl _ _).alloc (Nat.le_refl _) _) x1_, cell_keep ((Below.refl _ _).alloc (Nat.le_refl _) _) x2_, cell_keep ((Below.refl _ _).alloc (Nat.le_refl _) _) x3_, cell_keep ((Below.refl _ _).alloc (Nat.le_refl _) _) x4_, cell_keep ((Below.refl _ _).alloc (Nat.le_refl _) _) x5_, Nat.lt_of_lt_of_le x6_ ((Below.refl _ _).alloc (Nat.le_refl _) _).size, x7_.keep ((Below.refl _ _).alloc (Nat.le_refl _) _)⟩) (fun hHeld2 => ?_); clear hK K; have hOld := hHeld; clear hHeld; have hHeld := hHeld2; clear hHeld2; (try simp only [Act.put, List.setIfInBounds_toArray, List.set_cons_zero, List.set_cons_succ]))
          (refine wpAnyH_ready (rs := [7]) (by kernel_rfl) (by simp) ?_; refine AllReadyH.cons rfl (fun K hK => ?_) AllReadyH.nil; refine step_append_own _ rfl (.tmp 21) (.tmp 26) _ rfl (w.heap.size + 1 + 1 + 1) 177 i0 (.agg #[.int .i64 0, .int .i64 0, .int .i64 0]) 3 24 Try.underlying82 hi hz0 hz1 hz2 rfl (by decide) _ _ _ rfl (HO1.out.alloc _) ⟨_, 0, none⟩ 1 1 [.int .i64 (nr (p k * num) den), .int .i64 (nr (q k * num) den), .int .i64 (nr (h k * num) den)] rfl rfl (fun j u hj => by match j, hj with | 0, hj => simp at hj; subst hj; simp [Addr.add] | 1, hj => simp at hj; subst hj; simp [Addr.add] | 2, hj => simp at hj; subst hj; simp [Addr.add]) (fun u hu => by simp at hu; rcases hu with rfl | rfl | rfl <;> rfl) (by unfold maxLen; omega) (by omega) (by have := hHeld.2.2.2.2.2.2.1; omega) ?_; intro v_ wa_ hown_ hgrow_ hat_; obtain ⟨g_, cap_, cur_, rfl, -⟩ := own_blk hown_ (by omega); have HB2 := Lib.hid ((hgrow_.block _ (HB1.out.alloc _).lt (fun e => absurd (HLT.out _ e.symm).1 (by (try dsimp only); omega))).trans (HB1.out.alloc _)); have HBT : Blk _ _ _ _ := HB2.out; have o3 : wa_.cell? ⟨w.heap.size + 1 + 1, 1, none⟩ = some v := (HBT.cell 1).trans rfl; have f3 := HBT.frozen; clear HBT; refine hK.out _ _ (by obtain ⟨x0_, x1_, x2_, x3_, x4_, x5_, x6_, x7_⟩ := hHeld; exact ⟨x0_.grown hgrow_ x0_.size (fun k hk => by have := (HLT.out k hk).1; omega), hgrow_.cell x1_ (fun e => absurd (HLT.out _ e.symm).1 (by (try dsimp only); omega)), hgrow_.cell x2_ (fun e => absurd (HLT.out _ e.symm).1 (by (try dsimp only); omega)), hgrow_.cell x3_ (fun e => Nat.lt_irrefl _ (HLT.out _ e.symm).2), hgrow_.cell x4_ (fun e => Nat.lt_irrefl _ (HLT.out _ e.symm).2), hgrow_.cell x5_ (fun e => Nat.lt_irrefl _ (HLT.out _ e.symm).2), Nat.lt_of_lt_of_le x6_ hgrow_.size, (hgrow_.block _ x7_.lt (fun e => absurd (HLT.out _ e.symm).1 (by (try dsimp only); omega))).trans x7_⟩) (fun hHeld2 => ?_); clear hK K hHeld; (try clear hOld); have hHeld := hHeld2; clear hHeld2; (try simp only [Act.put, List.setIfInBounds_toArray, List.set_cons_zero, List.set_cons_succ]))
          refine take_yes (i := 8) (d := 28) (v := ?_) _ rfl rfl (by kernel_rfl) (by kernel_rfl) (by kernel_rfl) (fun _ _ _ _ h => h) (by rfl) ?_ (by assumption) ?_
          rotate_left 1
          · ((intro w hSw; (try dsimp only at hSw); go_simp) <;> (try with_reducible rfl))
          (try simp only [Act.put, List.setIfInBounds_toArray, List.set_cons_zero, List.set_cons_succ])
          (refine wpAnyH_ready (rs := [9]) (by kernel_rfl) (by simp) ?_; refine AllReadyH.cons rfl (fun K hK => ?_) AllReadyH.nil; go_simp; refine hK.out _ _ (by obtain ⟨x0_, x1_, x2_, x3_, x4_, x5_, x6_, x7_⟩ := hHeld; exact ⟨x0_.setCell (p := ⟨w.heap.size + 1 + 1, 1, none⟩) (by (try dsimp only); omega) (.slice (some ⟨g_, 0, none⟩) (k + 1) cap_), cell_far (q := ⟨w.heap.size + 1 + 1, 1, none⟩) x1_ n1, cell_far (q := ⟨w.heap.size + 1 + 1, 1, none⟩) x2_ n2, cell_far (q := ⟨w.heap.size + 1 + 1, 1, none⟩) x3_ n3, cell_far (q := ⟨w.heap.size + 1 + 1, 1, none⟩) x4_ n3, cell_far (q := ⟨w.heap.size + 1 + 1, 1, none⟩) x5_ n3, by simpa using x6_, x7_.far (by (try dsimp only); omega) (.slice (some ⟨g_, 0, none⟩) (k + 1) cap_)⟩) (fun hHeld2 => ?_); clear hK K hHeld; (try clear hOld); have hHeld := hHeld2; clear hHeld2; (try simp only [Act.put, List.setIfInBounds_toArray, List.set_cons_zero, List.set_cons_succ]))
          refine wpAnyH_done (by kernel_rfl) ?_ _
          obtain ⟨z0, z1, z2, z3, z4, z5, z6, z7⟩ := hHeld
          have HOWN := Lib.hid (own_store (p := ⟨w.heap.size + 1 + 1, 1, none⟩) (show World.ownsRow _ _ _ _ _ (k + 1) (ringsL (rs p num den) (rs q num den) (rs h num den) (k + 1)) from hown_) (by (try dsimp only); omega) (.slice (some ⟨g_, 0, none⟩) (k + 1) cap_))
          have HB3 := Lib.hid (Blk.set_ HB2.out 1 (.slice (some ⟨g_, 0, none⟩) (k + 1) cap_))
          clear hown_ hgrow_ hat_ HB2 o3 f3
          go_wp2
          go_roundw
          case rel => exact ⟨k + 1, (.slice (some ⟨g_, 0, none⟩) (k + 1) cap_), by omega, by go_num, HOWN, HB3, Lib.hid z7, by omega, z0⟩
          case measure => simp [intOf]; omega
        · go_simp; refine hK.out _ _ (by obtain ⟨x0_, x1_, x2_, x3_, x4_, x5_, x6_, x7_⟩ := hHeld; exact ⟨x0_.trans (((Below.refl _ _).alloc (Nat.le_refl _) _).mono x0_.size), cell_keep ((Below.refl _ _).alloc (Nat.le_refl _) _) x1_, cell_keep ((Below.refl _ _).alloc (Nat.le_refl _) _) x2_, cell_keep ((Below.refl _ _).alloc (Nat.le_refl _) _) x3_, cell_keep ((Below.refl _ _).alloc (Nat.le_refl _) _) x4_, cell_keep ((Below.refl _ _).alloc (Nat.le_refl _) _) x5_, Nat.lt_of_lt_of_le x6_ ((Below.refl _ _).alloc (Nat.le_refl _) _).size, x7_.keep ((Below.refl _ _).alloc (Nat.le_refl _) _)⟩) (fun hHeld2 => ?_); clear hK K; have hOld := hHeld; clear hHeld; have hHeld := hHeld2; clear hHeld2; (try simp only [Act.put, List.setIfInBounds_toArray, List.set_cons_zero, List.set_cons_succ])
          (refine wpAnyH_ready (rs := [1]) (by kernel_rfl) (by simp) ?_; refine AllReadyH.cons rfl (fun K hK => ?_) AllReadyH.nil; go_simp; refine hK.out _ _ (by assumption) (fun hHeld2 => ?_); clear hK K hHeld; have hHeld := hHeld2; clear hHeld2; (try simp only [Act.put, List.setIfInBounds_toArray, List.set_cons_zero, List.set_cons_succ]))
          (refine wpAnyH_ready (rs := [7]) (by kernel_rfl) (by simp) ?_; refine AllReadyH.cons rfl (fun K hK => ?_) AllReadyH.nil; refine step_append_own _ rfl (.tmp 21) (.tmp 26) _ rfl (w.heap.size + 1 + 1 + 1) 177 i0 (.agg #[.int .i64 0, .int .i64 0, .int .i64 0]) 3 24 Try.underlying82 hi hz0 hz1 hz2 rfl (by decide) _ _ _ rfl (HO1.out.alloc _) ⟨_, 0, none⟩ 1 1 [.int .i64 (nr (p k * num) den), .int .i64 (nr (q k * num) den), .int .i64 (nr (h k * num) den)] rfl rfl (fun j u hj => by match j, hj with | 0, hj => simp at hj; subst hj; simp [Addr.add] | 1, hj => simp at hj; subst hj; simp [Addr.add] | 2, hj => simp at hj; subst hj; simp [Addr.add]) (fun u hu => by simp at hu; rcases hu with rfl | rfl | rfl <;> rfl) (by unfold maxLen; omega) (by omega) (by have := hHeld.2.2.2.2.2.2.1; omega) ?_; intro v_ wa_ hown_ hgrow_ hat_; obtain ⟨g_, cap_, cur_, rfl, -⟩ := own_blk hown_ (by omega); have HB2 := Lib.hid ((hgrow_.block _ (HB1.out.alloc _).lt (fun e => absurd (HLT.out _ e.symm).1 (by (try dsimp only); omega))).trans (HB1.out.alloc _)); have HBT : Blk _ _ _ _ := HB2.out; have o3 : wa_.cell? ⟨w.heap.size + 1 + 1, 1, none⟩ = some v := (HBT.cell 1).trans rfl; have f3 := HBT.frozen; clear HBT; refine hK.out _ _ (by obtain ⟨x0_, x1_, x2_, x3_, x4_, x5_, x6_, x7_⟩ := hHeld; exact ⟨x0_.grown hgrow_ x0_.size (fun k hk => by have := (HLT.out k hk).1; omega), hgrow_.cell x1_ (fun e => absurd (HLT.out _ e.symm).1 (by (try dsimp only); omega)), hgrow_.cell x2_ (fun e => absurd (HLT.out _ e.symm).1 (by (try dsimp only); omega)), hgrow_.cell x3_ (fun e => Nat.lt_irrefl _ (HLT.out _ e.symm).2), hgrow_.cell x4_ (fun e => Nat.lt_irrefl _ (HLT.out _ e.symm).2), hgrow_.cell x5_ (fun e => Nat.lt_irrefl _ (HLT.out _ e.symm).2), Nat.lt_of_lt_of_le x6_ hgrow_.size, (hgrow_.block _ x7_.lt (fun e => absurd (HLT.out _ e.symm).1 (by (try dsimp only); omega))).trans x7_⟩) (fun hHeld2 => ?_); clear hK K hHeld; (try clear hOld); have hHeld := hHeld2; clear hHeld2; (try simp only [Act.put, List.setIfInBounds_toArray, List.set_cons_zero, List.set_cons_succ]))
          refine take_yes (i := 8) (d := 28) (v := ?_) _ rfl rfl (by kernel_rfl) (by kernel_rfl) (by kernel_rfl) (fun _ _ _ _ h => h) (by rfl) ?_ (by assumption) ?_
          rotate_left 1
          · ((intro w hSw; (try dsimp only at hSw); go_simp) <;> (try with_reducible rfl))
          (try simp only [Act.put, List.setIfInBounds_toArray, List.set_cons_zero, List.set_cons_succ])
          (refine wpAnyH_ready (rs := [9]) (by kernel_rfl) (by simp) ?_; refine AllReadyH.cons rfl (fun K hK => ?_) AllReadyH.nil; go_simp; refine hK.out _ _ (by obtain ⟨x0_, x1_, x2_, x3_, x4_, x5_, x6_, x7_⟩ := hHeld; exact ⟨x0_.setCell (p := ⟨w.heap.size + 1 + 1, 1, none⟩) (by (try dsimp only); omega) (.slice (some ⟨g_, 0, none⟩) (k + 1) cap_), cell_far (q := ⟨w.heap.size + 1 + 1, 1, none⟩) x1_ n1, cell_far (q := ⟨w.heap.size + 1 + 1, 1, none⟩) x2_ n2, cell_far (q := ⟨w.heap.size + 1 + 1, 1, none⟩) x3_ n3, cell_far (q := ⟨w.heap.size + 1 + 1, 1, none⟩) x4_ n3, cell_far (q := ⟨w.heap.size + 1 + 1, 1, none⟩) x5_ n3, by simpa using x6_, x7_.far (by (try dsimp only); omega) (.slice (some ⟨g_, 0, none⟩) (k + 1) cap_)⟩) (fun hHeld2 => ?_); clear hK K hHeld; (try clear hOld); have hHeld := hHeld2; clear hHeld2; (try simp only [Act.put, List.setIfInBounds_toArray, List.set_cons_zero, List.set_cons_succ]))
          refine wpAnyH_done (by kernel_rfl) ?_ _
          obtain ⟨z0, z1, z2, z3, z4, z5, z6, z7⟩ := hHeld
          have HOWN := Lib.hid (own_store (p := ⟨w.heap.size + 1 + 1, 1, none⟩) (show World.ownsRow _ _ _ _ _ (k + 1) (ringsL (rs p num den) (rs q num den) (rs h num den) (k + 1)) from hown_) (by (try dsimp only); omega) (.slice (some ⟨g_, 0, none⟩) (k + 1) cap_))
          have HB3 := Lib.hid (Blk.set_ HB2.out 1 (.slice (some ⟨g_, 0, none⟩) (k + 1) cap_))
          clear hown_ hgrow_ hat_ HB2 o3 f3
          go_wp2
          go_roundw
          case rel => exact ⟨k + 1, (.slice (some ⟨g_, 0, none⟩) (k + 1) cap_), by omega, by go_num, HOWN, HB3, Lib.hid z7, by omega, z0⟩
          case measure => simp [intOf]; omega
    · obtain rfl : k = n := by omega
      obtain ⟨g, cap, rfl, hg, hro⟩ := ringOwn_of hown.out (by omega)
      have HRO := Lib.hid hro
      have y0 := (hob.out.cell 0).trans rfl
      have y1 := (hob.out.cell 1).trans rfl
      clear hro
      have HS := Lib.hid hs
      have hbrs := hbr.size
      clear y0 y1 hs
      have x0 := (hob.out.cell 0).trans rfl
      have x1 := (hob.out.cell 1).trans rfl
      go_wp2_with (go_at_call 191; refine (orState_calls _ _ _ _ _ _ _ g 0 w _ HS.out HRO.out (by omega) (by omega)).mono ?_; rintro e w1 ⟨⟨A', c', rfl, hro⟩, hb⟩; clear x0 x1; have R2 := hzb.out.keep hb; have y0 := (R2.cell 0).trans rfl; have y1 := (R2.cell 1).trans rfl; have f2 := R2.frozen; have HB := Lib.hid (hbr.trans (hb.mono hbrs)); have HRO2 := Lib.hid hro; clear R2 hb hro)
      refine bodyPost_ret (v := .tuple #[.agg #[.string _, .slice A' _ c'], .int .i64 _]) (by simp [results, Try.results168, go_sem, y0, y1]) rfl ⟨A', c', g, rfl, ?_, by omega, ?_⟩
      · refine HRO2.out.same ?_
        repeat (refine (Below.heap_setCell _ _ _ _ (by simp <;> omega)).trans ?_)
        rfl
      · repeat (refine Below.setCell ?_ (by simp <;> omega) _)
        exact HB.out
end Go.Proofs.Ytaanlkdpconfiaa
