/- The texts of pours, castings and hung bells, in the program and in the reference. -/
import Derived.Test.YtflhkldfhndafaaGreatDoorList
import Derived.Test.YtflhkldfhndafaaGreatDoorHung
namespace Go.Proofs.YtflhkldfhndafaaGreatDoor
set_option linter.unusedVariables false
set_option linter.unusedSimpArgs false
open Go.RowKit

/-- a name, a blank, the numbers with commas between -/
def nameT (s : ByteArray) (p : Nat → Int) (n : Nat) : ByteArray := s ++ ⟨#[32]⟩ ++ joinT p n
theorem l3_all {a b c : Int} {P : Int → Prop} (ha : P a) (hb : P b) (hc : P c) : ∀ i, i < 3 → P (l3 a b c i) := fun i hi => by
  match i, hi with
  | 0, _ => exact ha
  | 1, _ => exact hb
  | 2, _ => exact hc
theorem l4_all {a b c d : Int} {P : Int → Prop} (ha : P a) (hb : P b) (hc : P c) (hd : P d) : ∀ i, i < 4 → P (l4 a b c d i) := fun i hi => by
  match i, hi with
  | 0, _ => exact ha
  | 1, _ => exact hb
  | 2, _ => exact hc
  | 3, _ => exact hd
theorem hung_rng {s : ByteArray} {m a f g : Int} (h : hungB s m a f g = true) : s.size ≤ 10 ∧ ∀ i, i < 4 → -1000000000000 ≤ l4 m a f g i ∧ l4 m a f g i ≤ 1000000000000 := by
  simp only [hungB, Bool.and_eq_true] at h
  obtain ⟨hn, h1, h2, h3, h4⟩ := h
  have := inB_iff.1 h1
  have := inB_iff.1 h2
  have := inB_iff.1 h3
  have := inB_iff.1 h4
  exact ⟨(nameB_of hn).2.1, l4_all (P := fun x => -1000000000000 ≤ x ∧ x ≤ 1000000000000) ⟨by omega, by omega⟩ ⟨by omega, by omega⟩ ⟨by omega, by omega⟩ ⟨by omega, by omega⟩⟩
noncomputable def hungText (s : ByteArray) (m a f g : Int) : ByteArray := if hungB s m a f g = true then nameT s (l4 m a f g) 4 else ⟨#[]⟩
set_option maxRecDepth 20000 in
set_option maxHeartbeats 4000000 in
theorem HungText_calls (s : ByteArray) (m a f g : Int) (w : World) (hs : s.size ≤ maxLen) (hT : HasPow w) :
    Calls Tryz.prog 13 #[.agg #[.string s, .int .i64 m, .int .i64 a, .int .i64 f, .int .i64 g]] w fun e w' => e = .returned (.string (hungText s m a f g)) ∧ Below w.heap.size w w' := by
  have HT := Lib.hid hT
  clear hT
  cases q1 : hungB s m a f g
  · rw [show hungText s m a f g = ⟨#[]⟩ by simp [hungText, q1]]
    have hB := (Below.refl w.heap.size w)
    go_enter Tryz.func13, Tryz.ntmps13
    go_wp2_with (go_at_call 19; refine (validHung_calls s m a f g _ hs).mono ?_; rintro e w1 ⟨rfl, hb⟩; obtain ⟨hc, hf⟩ := bcell hb; have hz := hb.size; (try simp at hz); (try have hl0 : w.heap.size < w1.heap.size := by omega); (try have hl1 : w.heap.size + 1 < w1.heap.size := by omega); (try have hl2 : w.heap.size + 1 + 1 < w1.heap.size := by omega); replace hB : Below w.heap.size w w1 := Below.trans (by go_grown) (hb.mono (by go_size)); clear hb; rw [q1])
    go_ret
    exact ⟨rfl, hB⟩
  · rw [show hungText s m a f g = nameT s (l4 m a f g) 4 by simp [hungText, q1]]
    obtain ⟨hs10, hv⟩ := hung_rng q1
    have hjl := join_len (l4 m a f g) 4 (fun i hi => by have := hv i hi; omega)
    rw [← joinT_size] at hjl
    have hlt := listText_ok (p := l4 m a f g) (n := 4) (by omega) (by omega) hv
    have f1 : ¬ 9223372036854775807 < s.size + 1 := by omega
    have f2 : ¬ 9223372036854775807 < s.size + 1 + (joinT (l4 m a f g) 4).size := by omega
    have hB := (Below.refl w.heap.size w)
    clear hv
    go_enter Tryz.func13, Tryz.ntmps13
    go_wp2_with (go_at_call 19; refine (validHung_calls s m a f g _ hs).mono ?_; rintro e w1 ⟨rfl, hb⟩; obtain ⟨hc, hf⟩ := bcell hb; have hz := hb.size; (try simp at hz); (try have hl0 : w.heap.size < w1.heap.size := by omega); (try have hl1 : w.heap.size + 1 < w1.heap.size := by omega); (try have hl2 : w.heap.size + 1 + 1 < w1.heap.size := by omega); replace hB : Below w.heap.size w w1 := Below.trans (by go_grown) (hb.mono (by go_size)); clear hb; rw [q1])
    refine wp_gen (fun W0 hW0 => ?_)
    have s0_ : Below w.heap.size w W0 := by rw [hW0]; exact hB
    have s1_ : HasPow W0 := by rw [hW0]; exact HT.out.keep hB
    have s2_ : W0.cell? ⟨w.heap.size, 0, none⟩ = some (.string s) := by rw [hW0]; simp [hc]
    have s3_ : W0.cell? ⟨w.heap.size, 1, none⟩ = some (.int .i64 m) := by rw [hW0]; simp [hc]
    have s4_ : W0.cell? ⟨w.heap.size, 2, none⟩ = some (.int .i64 a) := by rw [hW0]; simp [hc]
    have s5_ : W0.cell? ⟨w.heap.size, 3, none⟩ = some (.int .i64 f) := by rw [hW0]; simp [hc]
    have s6_ : W0.cell? ⟨w.heap.size, 4, none⟩ = some (.int .i64 g) := by rw [hW0]; simp [hc]
    have s7_ : w.heap.size < W0.heap.size := by rw [hW0]; exact hl0
    clear hW0
    refine wp_region_held_drew (S := fun w' => Below w.heap.size w w' ∧ HasPow w' ∧ w'.cell? ⟨w.heap.size, 0, none⟩ = some (.string s) ∧ w'.cell? ⟨w.heap.size, 1, none⟩ = some (.int .i64 m) ∧ w'.cell? ⟨w.heap.size, 2, none⟩ = some (.int .i64 a) ∧ w'.cell? ⟨w.heap.size, 3, none⟩ = some (.int .i64 f) ∧ w'.cell? ⟨w.heap.size, 4, none⟩ = some (.int .i64 g) ∧ w.heap.size < w'.heap.size) (by kernel_rfl) ?_ (fun hHeld => ?_)
    · exact ⟨s0_.drew, s1_, s2_, s3_, s4_, s5_, s6_, s7_⟩
    clear s0_ s1_ s2_ s3_ s4_ s5_ s6_ s7_
    refine take_yes (i := 0) (d := 6) (v := ?_) _ rfl rfl (by kernel_rfl) (by kernel_rfl) (by kernel_rfl) (fun _ _ _ _ h => h) (by rfl) ?_ (by assumption) ?_
    rotate_left 1
    · ((intro w hSw; (try dsimp only at hSw); go_simp) <;> (try with_reducible rfl))
    (try simp only [Act.put, List.setIfInBounds_toArray, List.set_cons_zero, List.set_cons_succ])
    refine take_yes (i := 1) (d := 7) (v := ?_) _ rfl rfl (by kernel_rfl) (by kernel_rfl) (by kernel_rfl) (fun _ _ _ _ h => h) (by rfl) ?_ (by assumption) ?_
    rotate_left 1
    · ((intro w hSw; (try dsimp only at hSw); go_simp) <;> (try with_reducible rfl))
    (try simp only [Act.put, List.setIfInBounds_toArray, List.set_cons_zero, List.set_cons_succ])
    refine take_yes (i := 2) (d := 8) (v := ?_) _ rfl rfl (by kernel_rfl) (by kernel_rfl) (by kernel_rfl) (fun _ _ _ _ h => h) (by rfl) ?_ (by assumption) ?_
    rotate_left 1
    · ((intro w hSw; (try dsimp only at hSw); go_simp) <;> (try with_reducible rfl))
    (try simp only [Act.put, List.setIfInBounds_toArray, List.set_cons_zero, List.set_cons_succ])
    refine take_yes (i := 3) (d := 9) (v := ?_) _ rfl rfl (by kernel_rfl) (by kernel_rfl) (by kernel_rfl) (fun _ _ _ _ h => h) (by rfl) ?_ (by assumption) ?_
    rotate_left 1
    · ((intro w hSw; (try dsimp only at hSw); go_simp) <;> (try with_reducible rfl))
    (try simp only [Act.put, List.setIfInBounds_toArray, List.set_cons_zero, List.set_cons_succ])
    refine take_yes (i := 4) (d := 10) (v := ?_) _ rfl rfl (by kernel_rfl) (by kernel_rfl) (by kernel_rfl) (fun _ _ _ _ h => h) (by rfl) ?_ (by assumption) ?_
    rotate_left 1
    · ((intro w hSw; (try dsimp only at hSw); go_simp) <;> (try with_reducible rfl))
    (try simp only [Act.put, List.setIfInBounds_toArray, List.set_cons_zero, List.set_cons_succ])
    refine take_yes (i := 5) (d := 11) (v := ?_) _ rfl rfl (by kernel_rfl) (by kernel_rfl) (by kernel_rfl) (fun _ _ _ _ h => h) (by rfl) ?_ (by assumption) ?_
    rotate_left 1
    · ((intro w hSw; (try dsimp only at hSw); go_simp) <;> (try with_reducible rfl))
    (try simp only [Act.put, List.setIfInBounds_toArray, List.set_cons_zero, List.set_cons_succ])
    refine take_yes (i := 6) (d := 12) (v := ?_) _ rfl rfl (by kernel_rfl) (by kernel_rfl) (by kernel_rfl) (fun _ _ _ _ h => h) (by rfl) ?_ (by assumption) ?_
    rotate_left 1
    · ((intro w hSw; (try dsimp only at hSw); go_simp) <;> (try with_reducible rfl))
    (try simp only [Act.put, List.setIfInBounds_toArray, List.set_cons_zero, List.set_cons_succ])
    refine take_yes (i := 7) (d := 13) (v := ?_) _ rfl rfl (by kernel_rfl) (by kernel_rfl) (by kernel_rfl) (fun _ _ _ _ h => h) (by rfl) ?_ (by assumption) ?_
    rotate_left 1
    · ((intro w hSw; (try dsimp only at hSw); go_simp) <;> (try with_reducible rfl))
    (try simp only [Act.put, List.setIfInBounds_toArray, List.set_cons_zero, List.set_cons_succ])
    refine take_yes (i := 8) (d := 14) (v := ?_) _ rfl rfl (by kernel_rfl) (by kernel_rfl) (by kernel_rfl) (fun _ _ _ _ h => h) (by rfl) ?_ (by assumption) ?_
    rotate_left 1
    · ((intro w hSw; (try dsimp only at hSw); go_simp) <;> (try with_reducible rfl))
    (try simp only [Act.put, List.setIfInBounds_toArray, List.set_cons_zero, List.set_cons_succ])
    refine take_yes (i := 9) (d := 15) (v := ?_) _ rfl rfl (by kernel_rfl) (by kernel_rfl) (by kernel_rfl) (fun _ _ _ _ h => h) (by rfl) ?_ (by assumption) ?_
    rotate_left 1
    · ((intro w hSw; (try dsimp only at hSw); go_simp) <;> (try with_reducible rfl))
    (try simp only [Act.put, List.setIfInBounds_toArray, List.set_cons_zero, List.set_cons_succ])
    refine take_yes (i := 10) (d := 16) (v := ?_) _ rfl rfl (by kernel_rfl) (by kernel_rfl) (by kernel_rfl) (fun _ _ _ _ h => h) (by rfl) ?_ (by assumption) ?_
    rotate_left 1
    · ((intro w hSw; (try dsimp only at hSw); go_simp) <;> (try with_reducible rfl))
    (try simp only [Act.put, List.setIfInBounds_toArray, List.set_cons_zero, List.set_cons_succ])
    (refine wpAnyH_ready (rs := [11]) (by kernel_rfl) (by simp) ?_; refine AllReadyH.cons rfl (fun K hK => ?_) AllReadyH.nil; go_simp; refine hK.out _ _ (by obtain ⟨x0_, x1_, x2_, x3_, x4_, x5_, x6_, x7_⟩ := hHeld; exact ⟨x0_.trans (((Below.refl _ _).alloc (Nat.le_refl _) _).mono x0_.size), x1_.keep ((Below.refl _ _).alloc (Nat.le_refl _) _), cell_keep ((Below.refl _ _).alloc (Nat.le_refl _) _) x2_, cell_keep ((Below.refl _ _).alloc (Nat.le_refl _) _) x3_, cell_keep ((Below.refl _ _).alloc (Nat.le_refl _) _) x4_, cell_keep ((Below.refl _ _).alloc (Nat.le_refl _) _) x5_, cell_keep ((Below.refl _ _).alloc (Nat.le_refl _) _) x6_, Nat.lt_of_lt_of_le x7_ ((Below.refl _ _).alloc (Nat.le_refl _) _).size⟩) (fun hHeld2 => ?_); clear hK K; have hOld := hHeld; clear hHeld; have hHeld := hHeld2; clear hHeld2; (try simp only [Act.put, List.setIfInBounds_toArray, List.set_cons_zero, List.set_cons_succ]))
    (refine wpAnyH_ready (rs := [12]) (by kernel_rfl) (by simp) ?_; refine AllReadyH.cons rfl (fun K hK => ?_) AllReadyH.nil; go_simp; go_at_call 23; refine (ListText_calls _ 4 _ (l4 m a f g) _ (by first | exact row_l4 (Blk.new _ _ _) | exact row_l4 (Blk.new _ _ _).drew) (by omega) (And.left (And.right hHeld))).mono ?_; rw [hlt]; rintro e wd ⟨rfl, hb⟩; refine hK.out _ _ (by obtain ⟨x0_, x1_, x2_, x3_, x4_, x5_, x6_, x7_⟩ := hHeld; exact ⟨x0_.trans (hb.mono x0_.size), x1_.keep hb, cell_keep hb x2_, cell_keep hb x3_, cell_keep hb x4_, cell_keep hb x5_, cell_keep hb x6_, Nat.lt_of_lt_of_le x7_ hb.size⟩) (fun hHeld2 => ?_); clear hK K hHeld hb; have hHeld := hHeld2; clear hHeld2; (try simp only [Act.put, List.setIfInBounds_toArray, List.set_cons_zero, List.set_cons_succ]))
    refine take_yes (i := 13) (d := 19) (v := ?_) _ rfl rfl (by kernel_rfl) (by kernel_rfl) (by kernel_rfl) (fun _ _ _ _ h => h) (by rfl) ?_ (by assumption) ?_
    rotate_left 1
    · ((intro w hSw; (try dsimp only at hSw); go_simp) <;> (try with_reducible rfl))
    (try simp only [Act.put, List.setIfInBounds_toArray, List.set_cons_zero, List.set_cons_succ])
    refine take_yes (i := 14) (d := 2) (v := ?_) _ rfl rfl (by kernel_rfl) (by kernel_rfl) (by kernel_rfl) (fun _ _ _ _ h => h) (by rfl) ?_ (by assumption) ?_
    rotate_left 1
    · ((intro w hSw; (try dsimp only at hSw); go_simp) <;> (try with_reducible rfl))
    (try simp only [Act.put, List.setIfInBounds_toArray, List.set_cons_zero, List.set_cons_succ])
    refine wpAnyH_done (by kernel_rfl) ?_ _
    obtain ⟨z0, z1, z2, z3, z4, z5, z6, z7⟩ := hHeld
    go_wp2
    go_ret
    exact ⟨rfl, z0⟩
end Go.Proofs.YtflhkldfhndafaaGreatDoor
