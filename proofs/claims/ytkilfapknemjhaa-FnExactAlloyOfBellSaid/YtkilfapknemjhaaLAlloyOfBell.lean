/- FnExactAlloyOfBell: the program's AlloyOfBell and the reference's give the same of all ingots, melts and every bell. No further condition. -/
import Derived.Test.YtkilfapknemjhaaBellOp
import Derived.Deep.DeepCutAuto


import Derived.Test.YtkilfapknemjhaaRows
import Derived.Test.YtkilfapknemjhaaFrame
import Derived.Test.YtkilfapknemjhaaAlloyS
namespace Go.Proofs.Ytkilfapknemjhaa.FnExactAlloyOfBell
set_option linter.unusedVariables false
set_option linter.unusedSimpArgs false
open Go.ChangeShapes Go.WideShapes Go.ChangeAt Go.RowKit Go.Deep
open Go.ChangeMaps (open_string shut_string)
theorem new_held {B : Nat} {a W : World} {cs : Array Value} {t : TypeId} {R : Prop} (h : Below B a (W.alloc (.cells cs t)) ∧ R) : Blk (W.alloc (.cells cs t)) W.heap.size t cs := Blk.new W t cs
theorem new_heldD {B : Nat} {a W : World} {cs : Array Value} {t : TypeId} {R : Prop} (h : Below B a (W.alloc (.cells cs t)).drew ∧ R) : Blk (W.alloc (.cells cs t)).drew W.heap.size t cs := (Blk.new W t cs).drew
theorem ab_held {B : Nat} {a W : World} {o : Obj} {R : Prop} (h : Below B a (W.alloc o) ∧ R) : Below W.heap.size W (W.alloc o) := (Below.refl _ _).alloc (Nat.le_refl _) _
theorem ab_heldD {B : Nat} {a W : World} {o : Obj} {R : Prop} (h : Below B a (W.alloc o).drew ∧ R) : Below W.heap.size W (W.alloc o).drew := ((Below.refl _ _).alloc (Nat.le_refl _) _).drew
theorem cellF {w : World} {b o G j : Nat} {x u : Value} (h : w.cell? ⟨b, o, none⟩ = some x) (hne : b ≠ G) : (w.setCell ⟨G, j, none⟩ u).cell? ⟨b, o, none⟩ = some x :=
  (World.cell?_of_block (w := w) (a := ⟨b, o, none⟩) (Below.heap_setCell w ⟨G, j, none⟩ u b hne)).trans h
theorem belowF {B : Nat} {a w : World} {G j : Nat} {u : Value} (h : Below B a w) (hG : B ≤ G) : Below B a (w.setCell ⟨G, j, none⟩ u) := h.setCell hG u
theorem blkF {w : World} {g G j : Nat} {T : TypeId} {cs : Array Value} {u : Value} (h : Blk w g T cs) (hG : g ≠ G) : Blk (w.setCell ⟨G, j, none⟩ u) g T cs := h.far (p := ⟨G, j, none⟩) hG u
theorem both (n : Nat) (s0 : Nat → ByteArray) (a1 a2 a3 a4 : Nat → Int) (m : Nat) (g : Nat → MeltV) (s : ByteArray) (no ma fe : Int) (p : Nat) (ss : Nat → ByteArray) (ms : Nat → Int) (hsz : ∀ i, i < n → (s0 i).size ≤ maxLen) (hn : n ≤ 1048576) (hm : m ≤ 1048576) (hg : ∀ i, i < m → FineM (g i)) (hs : s.size ≤ maxLen) (hss : ∀ i, i < p → (ss i).size ≤ maxLen) (hp : p ≤ 1048576) : ∃ (r0 r1 r2 z : Int),
    (∀ W A c B d C e2, IngotRow W A n s0 a1 a2 a3 a4 → MeltRow W B m g → ShareRow W C p ss ms → Calls Try.prog 36 #[.slice A n c, .slice B m d, .agg #[.string s, .int .i64 no, .int .i64 ma, .int .i64 fe, .slice C p e2]] W fun e w' => e = .returned (.tuple #[.agg #[.int .i64 r0, .int .i64 r1, .int .i64 r2], .int .i64 z]) ∧ Below W.heap.size W w') ∧
    (∀ W A c B d C e2, m ≤ d → IngotRow W A n s0 a1 a2 a3 a4 → MeltRow W B m g → ShareRow W C p ss ms → Calls Try.prog 40 #[.slice A n c, .slice B m d, .agg #[.string s, .int .i64 no, .int .i64 ma, .int .i64 fe, .slice C p e2]] W fun e w' => e = .returned (.tuple #[.agg #[.int .i64 r0, .int .i64 r1, .int .i64 r2], .int .i64 z]) ∧ Below W.heap.size W w') :=
  ⟨_, _, _, _, fun W A c B d C e2 h1 h2 h3 => sAlloyOfBell_calls A n c s0 a1 a2 a3 a4 B m d g s no ma fe C p e2 ss ms W h1 hsz hn h2 hm hg hs h3 hss hp, fun W A c B d C e2 hd h1 h2 h3 => AlloyOfBell_calls A n c s0 a1 a2 a3 a4 B m d g s no ma fe C p e2 ss ms W h1 hsz hn h2 hm hg hs h3 hss hp hd⟩
set_option maxRecDepth 20000 in
set_option maxHeartbeats 16000000 in
theorem walk (A : Option Addr) (n c : Nat) (s0 : Nat → ByteArray) (a1 a2 a3 a4 : Nat → Int) (B : Option Addr) (m d : Nat) (g : Nat → MeltV) (s : ByteArray) (no ma fe : Int) (C : Option Addr) (p e2 : Nat) (ss : Nat → ByteArray) (ms : Nat → Int) (w : World) (hr : IngotRow w A n s0 a1 a2 a3 a4) (hn : n ≤ maxLen) (hz : ∀ i, i < n → (s0 i).size ≤ maxLen) (_ : ∀ i, i < n → (Lit.int .i64 (a1 i)).wf = true) (_ : ∀ i, i < n → (Lit.int .i64 (a2 i)).wf = true) (_ : ∀ i, i < n → (Lit.int .i64 (a3 i)).wf = true) (_ : ∀ i, i < n → (Lit.int .i64 (a4 i)).wf = true) (hr2 : MeltRow w B m g) (hm : m ≤ maxLen) (hft2 : ∀ i, i < m → FitM (g i)) (hs : s.size ≤ maxLen) (wno : (Lit.int .i64 no).wf = true) (wma : (Lit.int .i64 ma).wf = true) (wfe : (Lit.int .i64 fe).wf = true) (hr3 : ShareRow w C p ss ms) (hp : p ≤ maxLen) (hss : ∀ i, i < p → (ss i).size ≤ maxLen) (wms : ∀ i, i < p → (Lit.int .i64 (ms i)).wf = true) :
    Calls Try.prog 5 #[.slice A n c, .slice B m d, .agg #[.string s, .int .i64 no, .int .i64 ma, .int .i64 fe, .slice C p e2]] w fun e w' => e = .returned (.bool true) ∧ Below w.heap.size w w' := by
  have HR := Lib.hid hr
  have HZ := Lib.hid hz
  have HM := Lib.hid hr2
  have HFM := Lib.hid hft2
  have HL := Lib.hid hr3
  have HSS := Lib.hid hss
  have k1 := Lib.hid ((Below.refl w.heap.size w).alloc (Nat.le_refl _) (.cells #[.string s, .int .i64 no, .int .i64 ma, .int .i64 fe, .slice C p e2] 62))
  have B1 := Lib.hid (Blk.new w 62 #[.string s, .int .i64 no, .int .i64 ma, .int .i64 fe, .slice C p e2])
  clear hr hz hr2 hft2 hr3 hss wno wma wfe wms
  by_cases hb0 : (1048576 : Int) < (n : Int) + sumS s0 n
  · skip
    go_enter Try.func5, Try.ntmps5
    go_wp2_with fail
    go_at_call 33
    refine (szIngotS_calls _ _ _ s0 a1 a2 a3 a4 _ _ (HR.out.below k1.out (Nat.le_refl _)) HZ.out hn (by omega) (by omega)).mono ?_
    rw [if_pos (by omega)]
    rintro e w1 ⟨rfl, hb⟩
    replace k1 := Lib.hid (k1.out.trans (hb.mono k1.out.size)); replace B1 := Lib.hid (B1.out.keep hb); (try replace W1 := Lib.hid (W1.out.keep hb)); (try replace X1 := Lib.hid (X1.out.keep hb)); (try replace Q1 := Lib.hid (Q1.out.keep hb)); (try replace i1 := Lib.hid (i1.out.below hb (Nat.le_refl _))); (try replace x0 := Lib.hid (x0.out.below hb (Nat.le_refl _))); (try replace c1 := Lib.hid (c1.out.keep hb)); (try replace x1 := Lib.hid (x1.out.keep hb)); (try replace x2 := Lib.hid (ShareRow.keep x2.out hb)); clear hb
    go_wp2
    go_ret
    exact ⟨rfl, k1.out⟩
  · obtain ⟨L0, hL0⟩ : ∃ L : Int, L = 1048576 - ((n : Int) + sumS s0 n) := ⟨_, rfl⟩
    have hL00 : 0 ≤ L0 := by omega
    have hL01 : L0 ≤ 1048576 := by omega
    have hn2 : n ≤ 1048576 := by omega
    have HL0 := Lib.hid hL0
    clear hL0
    by_cases hb1 : L0 < (m : Int) + sumM g m
    · skip
      go_enter Try.func5, Try.ntmps5
      go_wp2_with fail
      go_at_call 33
      refine (szIngotS_calls _ _ _ s0 a1 a2 a3 a4 _ _ (HR.out.below k1.out (Nat.le_refl _)) HZ.out hn (by omega) (by omega)).mono ?_
      rw [if_neg (by omega), ← HL0.out]
      rintro e w1 ⟨rfl, hb⟩
      replace k1 := Lib.hid (k1.out.trans (hb.mono k1.out.size)); replace B1 := Lib.hid (B1.out.keep hb); (try replace W1 := Lib.hid (W1.out.keep hb)); (try replace X1 := Lib.hid (X1.out.keep hb)); (try replace Q1 := Lib.hid (Q1.out.keep hb)); (try replace i1 := Lib.hid (i1.out.below hb (Nat.le_refl _))); (try replace x0 := Lib.hid (x0.out.below hb (Nat.le_refl _))); (try replace c1 := Lib.hid (c1.out.keep hb)); (try replace x1 := Lib.hid (x1.out.keep hb)); (try replace x2 := Lib.hid (ShareRow.keep x2.out hb)); clear hb
      go_wp2_with fail
      go_at_call 34
      refine (szMeltS_calls _ _ _ _ _ _ (HM.out.keep k1.out) HFM.out hm (by omega) (by omega)).mono ?_
      rw [if_pos (by omega)]
      rintro e w1 ⟨rfl, hb⟩
      replace k1 := Lib.hid (k1.out.trans (hb.mono k1.out.size)); replace B1 := Lib.hid (B1.out.keep hb); (try replace W1 := Lib.hid (W1.out.keep hb)); (try replace X1 := Lib.hid (X1.out.keep hb)); (try replace Q1 := Lib.hid (Q1.out.keep hb)); (try replace i1 := Lib.hid (i1.out.below hb (Nat.le_refl _))); (try replace x0 := Lib.hid (x0.out.below hb (Nat.le_refl _))); (try replace c1 := Lib.hid (c1.out.keep hb)); (try replace x1 := Lib.hid (x1.out.keep hb)); (try replace x2 := Lib.hid (ShareRow.keep x2.out hb)); clear hb
      go_wp2
      go_ret
      exact ⟨rfl, k1.out⟩
    · obtain ⟨L, hL⟩ : ∃ L : Int, L = L0 - ((m : Int) + sumM g m) := ⟨_, rfl⟩
      have hL0' : 0 ≤ L := by omega
      have hL1' : L ≤ 1048576 := by omega
      have hm2 : m ≤ 1048576 := by omega
      have HG2 := Lib.hid (fineM_of HFM.out (by omega))
      have HL1 := Lib.hid hL
      clear hL
      by_cases hb2 : L < s.size + ((p : Int) + sumS ss p)
      · skip
        go_enter Try.func5, Try.ntmps5
        go_wp2_with fail
        go_at_call 33
        refine (szIngotS_calls _ _ _ s0 a1 a2 a3 a4 _ _ (HR.out.below k1.out (Nat.le_refl _)) HZ.out hn (by omega) (by omega)).mono ?_
        rw [if_neg (by omega), ← HL0.out]
        rintro e w1 ⟨rfl, hb⟩
        replace k1 := Lib.hid (k1.out.trans (hb.mono k1.out.size)); replace B1 := Lib.hid (B1.out.keep hb); (try replace W1 := Lib.hid (W1.out.keep hb)); (try replace X1 := Lib.hid (X1.out.keep hb)); (try replace Q1 := Lib.hid (Q1.out.keep hb)); (try replace i1 := Lib.hid (i1.out.below hb (Nat.le_refl _))); (try replace x0 := Lib.hid (x0.out.below hb (Nat.le_refl _))); (try replace c1 := Lib.hid (c1.out.keep hb)); (try replace x1 := Lib.hid (x1.out.keep hb)); (try replace x2 := Lib.hid (ShareRow.keep x2.out hb)); clear hb
        go_wp2_with fail
        go_at_call 34
        refine (szMeltS_calls _ _ _ _ _ _ (HM.out.keep k1.out) HFM.out hm (by omega) (by omega)).mono ?_
        rw [if_neg (by omega), ← HL1.out]
        rintro e w1 ⟨rfl, hb⟩
        replace k1 := Lib.hid (k1.out.trans (hb.mono k1.out.size)); replace B1 := Lib.hid (B1.out.keep hb); (try replace W1 := Lib.hid (W1.out.keep hb)); (try replace X1 := Lib.hid (X1.out.keep hb)); (try replace Q1 := Lib.hid (Q1.out.keep hb)); (try replace i1 := Lib.hid (i1.out.below hb (Nat.le_refl _))); (try replace x0 := Lib.hid (x0.out.below hb (Nat.le_refl _))); (try replace c1 := Lib.hid (c1.out.keep hb)); (try replace x1 := Lib.hid (x1.out.keep hb)); (try replace x2 := Lib.hid (ShareRow.keep x2.out hb)); clear hb
        have c0 := (B1.out.cell 0).trans rfl
        have c1_ := (B1.out.cell 1).trans rfl
        have c2_ := (B1.out.cell 2).trans rfl
        have c3_ := (B1.out.cell 3).trans rfl
        have c4_ := (B1.out.cell 4).trans rfl
        go_wp2_with fail
        go_at_call 35
        refine (szBell_calls _ _ _ _ _ _ _ _ _ _ _ (ShareRow.keep HL.out k1.out) hs HSS.out hp (by omega) (by omega)).mono ?_
        rw [show szV L s p ss = -1 by unfold szV; rw [if_pos (by omega)]]
        rintro e w1 ⟨rfl, hb⟩
        replace k1 := Lib.hid (k1.out.trans (hb.mono k1.out.size)); replace B1 := Lib.hid (B1.out.keep hb); (try replace W1 := Lib.hid (W1.out.keep hb)); (try replace X1 := Lib.hid (X1.out.keep hb)); (try replace Q1 := Lib.hid (Q1.out.keep hb)); (try replace i1 := Lib.hid (i1.out.below hb (Nat.le_refl _))); (try replace x0 := Lib.hid (x0.out.below hb (Nat.le_refl _))); (try replace c1 := Lib.hid (c1.out.keep hb)); (try replace x1 := Lib.hid (x1.out.keep hb)); (try replace x2 := Lib.hid (ShareRow.keep x2.out hb)); clear hb
        clear c0 c1_ c2_ c3_ c4_
        go_wp2
        go_ret
        exact ⟨rfl, k1.out⟩
      · have hp2 : p ≤ 1048576 := by omega
        obtain ⟨L2, hL2⟩ : ∃ L2, L2 = szV L s p ss := ⟨_, rfl⟩
        have hL20 : 0 ≤ L2 := by rw [hL2]; unfold szV; rw [if_neg hb2]; omega
        have HL2 := Lib.hid hL2
        have HNM := Lib.hid (show ∀ i, i < m → (g i).n ≤ 1048576 from fun i hi => (HG2.out i hi).2.2)
        obtain ⟨r0, r1, r2, z, hcs, hci⟩ := both n s0 a1 a2 a3 a4 m g s no ma fe p ss ms HZ.out hn2 hm2 HG2.out hs HSS.out hp2
        have CS := Lib.hid hcs
        have CI := Lib.hid hci
        clear hL2 hcs hci
        go_enter Try.func5, Try.ntmps5
        go_wp2_with fail
        go_at_call 33
        refine (szIngotS_calls _ _ _ s0 a1 a2 a3 a4 _ _ (HR.out.below k1.out (Nat.le_refl _)) HZ.out hn (by omega) (by omega)).mono ?_
        rw [if_neg (by omega), ← HL0.out]
        rintro e w1 ⟨rfl, hb⟩
        replace k1 := Lib.hid (k1.out.trans (hb.mono k1.out.size)); replace B1 := Lib.hid (B1.out.keep hb); (try replace W1 := Lib.hid (W1.out.keep hb)); (try replace X1 := Lib.hid (X1.out.keep hb)); (try replace Q1 := Lib.hid (Q1.out.keep hb)); (try replace i1 := Lib.hid (i1.out.below hb (Nat.le_refl _))); (try replace x0 := Lib.hid (x0.out.below hb (Nat.le_refl _))); (try replace c1 := Lib.hid (c1.out.keep hb)); (try replace x1 := Lib.hid (x1.out.keep hb)); (try replace x2 := Lib.hid (ShareRow.keep x2.out hb)); clear hb
        go_wp2_with fail
        go_at_call 34
        refine (szMeltS_calls _ _ _ _ _ _ (HM.out.keep k1.out) HFM.out hm (by omega) (by omega)).mono ?_
        rw [if_neg (by omega), ← HL1.out]
        rintro e w1 ⟨rfl, hb⟩
        replace k1 := Lib.hid (k1.out.trans (hb.mono k1.out.size)); replace B1 := Lib.hid (B1.out.keep hb); (try replace W1 := Lib.hid (W1.out.keep hb)); (try replace X1 := Lib.hid (X1.out.keep hb)); (try replace Q1 := Lib.hid (Q1.out.keep hb)); (try replace i1 := Lib.hid (i1.out.below hb (Nat.le_refl _))); (try replace x0 := Lib.hid (x0.out.below hb (Nat.le_refl _))); (try replace c1 := Lib.hid (c1.out.keep hb)); (try replace x1 := Lib.hid (x1.out.keep hb)); (try replace x2 := Lib.hid (ShareRow.keep x2.out hb)); clear hb
        have c0 := (B1.out.cell 0).trans rfl
        have c1_ := (B1.out.cell 1).trans rfl
        have c2_ := (B1.out.cell 2).trans rfl
        have c3_ := (B1.out.cell 3).trans rfl
        have c4_ := (B1.out.cell 4).trans rfl
        go_wp2_with fail
        go_at_call 35
        refine (szBell_calls _ _ _ _ _ _ _ _ _ _ _ (ShareRow.keep HL.out k1.out) hs HSS.out hp (by omega) (by omega)).mono ?_
        rw [← HL2.out]
        rintro e w1 ⟨rfl, hb⟩
        replace k1 := Lib.hid (k1.out.trans (hb.mono k1.out.size)); replace B1 := Lib.hid (B1.out.keep hb); (try replace W1 := Lib.hid (W1.out.keep hb)); (try replace X1 := Lib.hid (X1.out.keep hb)); (try replace Q1 := Lib.hid (Q1.out.keep hb)); (try replace i1 := Lib.hid (i1.out.below hb (Nat.le_refl _))); (try replace x0 := Lib.hid (x0.out.below hb (Nat.le_refl _))); (try replace c1 := Lib.hid (c1.out.keep hb)); (try replace x1 := Lib.hid (x1.out.keep hb)); (try replace x2 := Lib.hid (ShareRow.keep x2.out hb)); clear hb
        clear c0 c1_ c2_ c3_ c4_
        go_wp2_with fail
        go_cut [8, 9] (fun q zz wx => ∃ G8, q = .pointer (some ⟨G8, 0, none⟩) ∧ zz = .int .i64 z ∧ Hid (w.heap.size < G8 ∧ Below w.heap.size w wx ∧ Blk wx w.heap.size 62 #[.string s, .int .i64 no, .int .i64 ma, .int .i64 fe, .slice C p e2] ∧ Blk wx G8 67 #[.int .i64 r0, .int .i64 r1, .int .i64 r2]))
        case first =>
          refine wp_gen (fun W0 hW0 => ?_)
          have s0_ : Below w.heap.size w W0 := by rw [hW0]; exact k1.out
          have s1_ : Blk W0 w.heap.size 62 #[.string s, .int .i64 no, .int .i64 ma, .int .i64 fe, .slice C p e2] := by rw [hW0]; exact B1.out
          have s2_ : W0.cell? ⟨w.heap.size, 0, none⟩ = some (.string s) := (s1_.cell 0).trans rfl
          have s3_ : W0.cell? ⟨w.heap.size, 1, none⟩ = some (.int .i64 no) := (s1_.cell 1).trans rfl
          have s4_ : W0.cell? ⟨w.heap.size, 2, none⟩ = some (.int .i64 ma) := (s1_.cell 2).trans rfl
          have s5_ : W0.cell? ⟨w.heap.size, 3, none⟩ = some (.int .i64 fe) := (s1_.cell 3).trans rfl
          have s6_ : W0.cell? ⟨w.heap.size, 4, none⟩ = some (.slice C p e2) := (s1_.cell 4).trans rfl
          have s7_ : w.heap.size < W0.heap.size := by rw [hW0]; exact B1.out.lt
          clear k1 B1
          clear hW0
          refine wp_region_held_drew (S := fun w' => Below w.heap.size w w' ∧ Blk w' w.heap.size 62 #[.string s, .int .i64 no, .int .i64 ma, .int .i64 fe, .slice C p e2] ∧ w'.cell? ⟨w.heap.size, 0, none⟩ = some (.string s) ∧ w'.cell? ⟨w.heap.size, 1, none⟩ = some (.int .i64 no) ∧ w'.cell? ⟨w.heap.size, 2, none⟩ = some (.int .i64 ma) ∧ w'.cell? ⟨w.heap.size, 3, none⟩ = some (.int .i64 fe) ∧ w'.cell? ⟨w.heap.size, 4, none⟩ = some (.slice C p e2) ∧ w.heap.size < w'.heap.size) (by kernel_rfl) ?_ (fun hHeld => ?_)
          · exact ⟨s0_.drew, s1_, s2_, s3_, s4_, s5_, s6_, s7_⟩
          clear s0_ s1_ s2_ s3_ s4_ s5_ s6_ s7_
          refine take_yes (i := 0) (d := 31) (v := ?_) _ rfl rfl (by kernel_rfl) (by kernel_rfl) (by kernel_rfl) (fun _ _ _ _ h => h) (by rfl) ?_ (by assumption) ?_
          rotate_left 1
          · ((intro w hSw; (try dsimp only at hSw); go_simp) <;> (try with_reducible rfl))
          (try simp only [Act.put, List.setIfInBounds_toArray, List.set_cons_zero, List.set_cons_succ])
          refine take_yes (i := 2) (d := 33) (v := ?_) _ rfl rfl (by kernel_rfl) (by kernel_rfl) (by kernel_rfl) (fun _ _ _ _ h => h) (by rfl) ?_ (by assumption) ?_
          rotate_left 1
          · ((intro w hSw; (try dsimp only at hSw); go_simp) <;> (try with_reducible rfl))
          (try simp only [Act.put, List.setIfInBounds_toArray, List.set_cons_zero, List.set_cons_succ])
          refine take_yes (i := 4) (d := 35) (v := ?_) _ rfl rfl (by kernel_rfl) (by kernel_rfl) (by kernel_rfl) (fun _ _ _ _ h => h) (by rfl) ?_ (by assumption) ?_
          rotate_left 1
          · ((intro w hSw; (try dsimp only at hSw); go_simp) <;> (try with_reducible rfl))
          (try simp only [Act.put, List.setIfInBounds_toArray, List.set_cons_zero, List.set_cons_succ])
          refine wpAnyH_ready (rs := [1, 10]) (by kernel_rfl) (by simp) ?_; refine AllReadyH.cons rfl (fun K hK => ?_) (AllReadyH.cons rfl (fun K hK => ?_) AllReadyH.nil)
          · go_simp; go_at_call 37; refine (toIngotS_calls _ _ _ s0 a1 a2 a3 a4 _ (HR.out.below (And.left hHeld) (Nat.le_refl _)) hn2).mono ?_; rintro e wd ⟨rfl, hb, -, hmi⟩; refine hK.out _ _ (by obtain ⟨x0_, x1_, x2_, x3_, x4_, x5_, x6_, x7_⟩ := hHeld; exact ⟨x0_.trans (hb.mono x0_.size), x1_.keep hb, cell_keep hb x2_, cell_keep hb x3_, cell_keep hb x4_, cell_keep hb x5_, cell_keep hb x6_, Nat.lt_of_lt_of_le x7_ hb.size⟩) (fun hHeld2 => ?_); (try simp only [World.size_drew, World.size_alloc] at hmi hmc); (try simp only [World.size_drew, World.size_alloc] at hmi); (try replace hmi := hmi.below hb (Nat.le_refl _)); (try replace hmc := hmc.keep hb); (try replace hnb := Lib.hid (hnb.out.keep hb)); clear hK K hHeld hb; have hHeld := hHeld2; clear hHeld2; (try simp only [Act.put, List.setIfInBounds_toArray, List.set_cons_zero, List.set_cons_succ])
            refine wpAnyH_ready (rs := [3, 10]) (by kernel_rfl) (by simp) ?_; refine AllReadyH.cons rfl (fun K hK => ?_) (AllReadyH.cons rfl (fun K hK => ?_) AllReadyH.nil)
            · go_simp; go_at_call 38; refine (toMeltS_calls _ _ _ _ _ (HM.out.keep (And.left hHeld)) HNM.out hm2).mono ?_; rintro e wd ⟨rfl, hb, -, hmc, -⟩; refine hK.out _ _ (by obtain ⟨x0_, x1_, x2_, x3_, x4_, x5_, x6_, x7_⟩ := hHeld; exact ⟨x0_.trans (hb.mono x0_.size), x1_.keep hb, cell_keep hb x2_, cell_keep hb x3_, cell_keep hb x4_, cell_keep hb x5_, cell_keep hb x6_, Nat.lt_of_lt_of_le x7_ hb.size⟩) (fun hHeld2 => ?_); (try simp only [World.size_drew, World.size_alloc] at hmi hmc); (try simp only [World.size_drew, World.size_alloc] at hmi); (try replace hmi := hmi.below hb (Nat.le_refl _)); (try replace hmc := hmc.keep hb); (try replace hnb := Lib.hid (hnb.out.keep hb)); clear hK K hHeld hb; have hHeld := hHeld2; clear hHeld2; (try simp only [Act.put, List.setIfInBounds_toArray, List.set_cons_zero, List.set_cons_succ])
              refine wpAnyH_ready (rs := [5, 10]) (by kernel_rfl) (by simp) ?_; refine AllReadyH.cons rfl (fun K hK => ?_) (AllReadyH.cons rfl (fun K hK => ?_) AllReadyH.nil)
              · go_simp; go_at_call 39; refine (toBell_calls _ _ _ _ _ _ _ _ _ _ (ShareRow.keep HL.out (And.left hHeld)) hp2).mono ?_; rintro e wd ⟨GB, rfl, hb, gb1, gb2, hbc⟩; refine hK.out _ _ (by obtain ⟨x0_, x1_, x2_, x3_, x4_, x5_, x6_, x7_⟩ := hHeld; exact ⟨x0_.trans (hb.mono x0_.size), x1_.keep hb, cell_keep hb x2_, cell_keep hb x3_, cell_keep hb x4_, cell_keep hb x5_, cell_keep hb x6_, Nat.lt_of_lt_of_le x7_ hb.size⟩) (fun hHeld2 => ?_); (try simp only [World.size_drew, World.size_alloc] at hmi hmc); (try simp only [World.size_drew, World.size_alloc] at hmi); (try replace hmi := hmi.below hb (Nat.le_refl _)); (try replace hmc := hmc.keep hb); (try replace hnb := Lib.hid (hnb.out.keep hb)); clear hK K hHeld hb; have hHeld := hHeld2; clear hHeld2; (try simp only [Act.put, List.setIfInBounds_toArray, List.set_cons_zero, List.set_cons_succ])
                refine wpAnyH_ready (rs := [6, 10]) (by kernel_rfl) (by simp) ?_; refine AllReadyH.cons rfl (fun K hK => ?_) (AllReadyH.cons rfl (fun K hK => ?_) AllReadyH.nil)
                · go_simp; go_at_call 36; refine (CS.out _ _ _ _ _ _ _ hmi hmc hbc).mono ?_; rintro e wd ⟨rfl, hb⟩; refine hK.out _ _ (by obtain ⟨x0_, x1_, x2_, x3_, x4_, x5_, x6_, x7_⟩ := hHeld; exact ⟨x0_.trans (hb.mono x0_.size), x1_.keep hb, cell_keep hb x2_, cell_keep hb x3_, cell_keep hb x4_, cell_keep hb x5_, cell_keep hb x6_, Nat.lt_of_lt_of_le x7_ hb.size⟩) (fun hHeld2 => ?_); (try simp only [World.size_drew, World.size_alloc] at hmi hmc); (try simp only [World.size_drew, World.size_alloc] at hmi); (try replace hmi := hmi.below hb (Nat.le_refl _)); (try replace hmc := hmc.keep hb); (try replace hnb := Lib.hid (hnb.out.keep hb)); clear hK K hHeld hb; have hHeld := hHeld2; clear hHeld2; (try simp only [Act.put, List.setIfInBounds_toArray, List.set_cons_zero, List.set_cons_succ])
                  refine take_yes (i := 7) (d := 30) (v := ?_) _ rfl rfl (by kernel_rfl) (by kernel_rfl) (by kernel_rfl) (fun _ _ _ _ h => h) (by rfl) ?_ (by assumption) ?_
                  rotate_left 1
                  · ((intro w hSw; (try dsimp only at hSw); go_simp) <;> (try with_reducible rfl))
                  (try simp only [Act.put, List.setIfInBounds_toArray, List.set_cons_zero, List.set_cons_succ])
                  refine take_yes (i := 8) (d := 38) (v := ?_) _ rfl rfl (by kernel_rfl) (by kernel_rfl) (by kernel_rfl) (fun _ _ _ _ h => h) (by rfl) ?_ (by assumption) ?_
                  rotate_left 1
                  · ((intro w hSw; (try dsimp only at hSw); go_simp) <;> (try with_reducible rfl))
                  (try simp only [Act.put, List.setIfInBounds_toArray, List.set_cons_zero, List.set_cons_succ])
                  refine take_yes (i := 9) (d := 39) (v := ?_) _ rfl rfl (by kernel_rfl) (by kernel_rfl) (by kernel_rfl) (fun _ _ _ _ h => h) (by rfl) ?_ (by assumption) ?_
                  rotate_left 1
                  · ((intro w hSw; (try dsimp only at hSw); go_simp) <;> (try with_reducible rfl))
                  (try simp only [Act.put, List.setIfInBounds_toArray, List.set_cons_zero, List.set_cons_succ])
                  (refine wpAnyH_ready (rs := [10]) (by kernel_rfl) (by simp) ?_; refine AllReadyH.cons rfl (fun K hK => ?_) AllReadyH.nil; go_simp; refine hK.out _ _ (by obtain ⟨x0_, x1_, x2_, x3_, x4_, x5_, x6_, x7_⟩ := hHeld; exact ⟨x0_.trans (((Below.refl _ _).alloc (Nat.le_refl _) _).mono x0_.size), x1_.keep ((Below.refl _ _).alloc (Nat.le_refl _) _), cell_keep ((Below.refl _ _).alloc (Nat.le_refl _) _) x2_, cell_keep ((Below.refl _ _).alloc (Nat.le_refl _) _) x3_, cell_keep ((Below.refl _ _).alloc (Nat.le_refl _) _) x4_, cell_keep ((Below.refl _ _).alloc (Nat.le_refl _) _) x5_, cell_keep ((Below.refl _ _).alloc (Nat.le_refl _) _) x6_, Nat.lt_of_lt_of_le x7_ ((Below.refl _ _).alloc (Nat.le_refl _) _).size⟩) (fun hHeld2 => ?_); clear hK K; have hOld := hHeld; clear hHeld; have hHeld := hHeld2; clear hHeld2; (first | have hnb := Lib.hid (new_held hHeld) | have hnb := Lib.hid (new_heldD hHeld)); (first | have hab := ab_held hHeld | have hab := ab_heldD hHeld); have hnl := Lib.hid hOld.2.2.2.2.2.2.2; (try simp only [World.size_drew] at hnl); have hne := Lib.hid (Nat.ne_of_lt hnl.out); have hle := Lib.hid (Nat.le_of_lt hnl.out); (try replace hmi := hmi.below hab (Nat.le_refl _)); (try replace hmc := hmc.keep hab); (try replace hbc := ShareRow.keep hbc hab); clear hab; (try simp only [Act.put, List.setIfInBounds_toArray, List.set_cons_zero, List.set_cons_succ]))
                  (refine wpAnyH_ready (rs := [11]) (by kernel_rfl) (by simp) ?_; refine AllReadyH.cons rfl (fun K hK => ?_) AllReadyH.nil; obtain ⟨x0_, x1_, x2_, x3_, x4_, x5_, x6_, x7_⟩ := hHeld; have q0 := (hnb.out.cell 0).trans rfl; have q1 := (hnb.out.cell 1).trans rfl; have q2 := (hnb.out.cell 2).trans rfl; have qf := hnb.out.frozen; have ql := hnb.out.lt; go_simp; refine hK.out _ _ (by exact (by first | with_reducible exact ⟨belowF (belowF (belowF x0_ hle.out) hle.out) hle.out, blkF (blkF (blkF x1_ hne.out) hne.out) hne.out, cellF (cellF (cellF x2_ hne.out) hne.out) hne.out, cellF (cellF (cellF x3_ hne.out) hne.out) hne.out, cellF (cellF (cellF x4_ hne.out) hne.out) hne.out, cellF (cellF (cellF x5_ hne.out) hne.out) hne.out, cellF (cellF (cellF x6_ hne.out) hne.out) hne.out, by simpa using x7_⟩ | exact (fun hb_ => ⟨hOld.1.trans (Below.mono hb_ hOld.1.size), hOld.2.1.keep hb_, cell_keep hb_ hOld.2.2.1, cell_keep hb_ hOld.2.2.2.1, cell_keep hb_ hOld.2.2.2.2.1, cell_keep hb_ hOld.2.2.2.2.2.1, cell_keep hb_ hOld.2.2.2.2.2.2.1, Nat.lt_of_lt_of_le hOld.2.2.2.2.2.2.2 (Below.size hb_)⟩) ((Below.refl _ _).alloc (Nat.le_refl _) _))) (fun hHeld2 => ?_); clear hK K x0_ x1_ x2_ x3_ x4_ x5_ x6_ x7_; (try clear hOld); have hHeld := hHeld2; clear hHeld2; (try simp only [Act.put, List.setIfInBounds_toArray, List.set_cons_zero, List.set_cons_succ]))
                  refine take_yes (i := 12) (d := 9) (v := ?_) _ rfl rfl (by kernel_rfl) (by kernel_rfl) (by kernel_rfl) (fun _ _ _ _ h => h) (by rfl) ?_ (by assumption) ?_
                  rotate_left 1
                  · ((intro w hSw; (try dsimp only at hSw); go_simp) <;> (try with_reducible rfl))
                  (try simp only [Act.put, List.setIfInBounds_toArray, List.set_cons_zero, List.set_cons_succ])
                  refine wpAnyH_done (by kernel_rfl) ?_ _
                  obtain ⟨z0, z1, z2, z3, z4, z5, z6, z7⟩ := hHeld
                  go_wp2_with fail
                  go_meet
                  first | exact ⟨_, rfl, rfl, Lib.hid ⟨hnl.out, z0, z1, Blk.new _ _ _⟩⟩ | exact ⟨_, rfl, rfl, Lib.hid ⟨hnl.out, z0, z1, ((hnb.out.set_ 0 _).set_ 1 _).set_ 2 _⟩⟩
                · go_simp; refine hK.out _ _ (by obtain ⟨x0_, x1_, x2_, x3_, x4_, x5_, x6_, x7_⟩ := hHeld; exact ⟨x0_.trans (((Below.refl _ _).alloc (Nat.le_refl _) _).mono x0_.size), x1_.keep ((Below.refl _ _).alloc (Nat.le_refl _) _), cell_keep ((Below.refl _ _).alloc (Nat.le_refl _) _) x2_, cell_keep ((Below.refl _ _).alloc (Nat.le_refl _) _) x3_, cell_keep ((Below.refl _ _).alloc (Nat.le_refl _) _) x4_, cell_keep ((Below.refl _ _).alloc (Nat.le_refl _) _) x5_, cell_keep ((Below.refl _ _).alloc (Nat.le_refl _) _) x6_, Nat.lt_of_lt_of_le x7_ ((Below.refl _ _).alloc (Nat.le_refl _) _).size⟩) (fun hHeld2 => ?_); clear hK K; have hOld := hHeld; clear hHeld; have hHeld := hHeld2; clear hHeld2; (first | have hnb := Lib.hid (new_held hHeld) | have hnb := Lib.hid (new_heldD hHeld)); (first | have hab := ab_held hHeld | have hab := ab_heldD hHeld); have hnl := Lib.hid hOld.2.2.2.2.2.2.2; (try simp only [World.size_drew] at hnl); have hne := Lib.hid (Nat.ne_of_lt hnl.out); have hle := Lib.hid (Nat.le_of_lt hnl.out); (try replace hmi := hmi.below hab (Nat.le_refl _)); (try replace hmc := hmc.keep hab); (try replace hbc := ShareRow.keep hbc hab); clear hab; (try simp only [Act.put, List.setIfInBounds_toArray, List.set_cons_zero, List.set_cons_succ])
                  (refine wpAnyH_ready (rs := [6]) (by kernel_rfl) (by simp) ?_; refine AllReadyH.cons rfl (fun K hK => ?_) AllReadyH.nil; go_simp; go_at_call 36; refine (CS.out _ _ _ _ _ _ _ hmi hmc hbc).mono ?_; rintro e wd ⟨rfl, hb⟩; refine hK.out _ _ (by obtain ⟨x0_, x1_, x2_, x3_, x4_, x5_, x6_, x7_⟩ := hHeld; exact ⟨x0_.trans (hb.mono x0_.size), x1_.keep hb, cell_keep hb x2_, cell_keep hb x3_, cell_keep hb x4_, cell_keep hb x5_, cell_keep hb x6_, Nat.lt_of_lt_of_le x7_ hb.size⟩) (fun hHeld2 => ?_); (try simp only [World.size_drew, World.size_alloc] at hmi hmc); (try simp only [World.size_drew, World.size_alloc] at hmi); (try replace hmi := hmi.below hb (Nat.le_refl _)); (try replace hmc := hmc.keep hb); (try replace hnb := Lib.hid (hnb.out.keep hb)); clear hK K hHeld hb; have hHeld := hHeld2; clear hHeld2; (try simp only [Act.put, List.setIfInBounds_toArray, List.set_cons_zero, List.set_cons_succ]))
                  refine take_yes (i := 7) (d := 30) (v := ?_) _ rfl rfl (by kernel_rfl) (by kernel_rfl) (by kernel_rfl) (fun _ _ _ _ h => h) (by rfl) ?_ (by assumption) ?_
                  rotate_left 1
                  · ((intro w hSw; (try dsimp only at hSw); go_simp) <;> (try with_reducible rfl))
                  (try simp only [Act.put, List.setIfInBounds_toArray, List.set_cons_zero, List.set_cons_succ])
                  refine take_yes (i := 8) (d := 38) (v := ?_) _ rfl rfl (by kernel_rfl) (by kernel_rfl) (by kernel_rfl) (fun _ _ _ _ h => h) (by rfl) ?_ (by assumption) ?_
                  rotate_left 1
                  · ((intro w hSw; (try dsimp only at hSw); go_simp) <;> (try with_reducible rfl))
                  (try simp only [Act.put, List.setIfInBounds_toArray, List.set_cons_zero, List.set_cons_succ])
                  refine take_yes (i := 9) (d := 39) (v := ?_) _ rfl rfl (by kernel_rfl) (by kernel_rfl) (by kernel_rfl) (fun _ _ _ _ h => h) (by rfl) ?_ (by assumption) ?_
                  rotate_left 1
                  · ((intro w hSw; (try dsimp only at hSw); go_simp) <;> (try with_reducible rfl))
                  (try simp only [Act.put, List.setIfInBounds_toArray, List.set_cons_zero, List.set_cons_succ])
                  (refine wpAnyH_ready (rs := [11]) (by kernel_rfl) (by simp) ?_; refine AllReadyH.cons rfl (fun K hK => ?_) AllReadyH.nil; obtain ⟨x0_, x1_, x2_, x3_, x4_, x5_, x6_, x7_⟩ := hHeld; have q0 := (hnb.out.cell 0).trans rfl; have q1 := (hnb.out.cell 1).trans rfl; have q2 := (hnb.out.cell 2).trans rfl; have qf := hnb.out.frozen; have ql := hnb.out.lt; go_simp; refine hK.out _ _ (by exact (by first | with_reducible exact ⟨belowF (belowF (belowF x0_ hle.out) hle.out) hle.out, blkF (blkF (blkF x1_ hne.out) hne.out) hne.out, cellF (cellF (cellF x2_ hne.out) hne.out) hne.out, cellF (cellF (cellF x3_ hne.out) hne.out) hne.out, cellF (cellF (cellF x4_ hne.out) hne.out) hne.out, cellF (cellF (cellF x5_ hne.out) hne.out) hne.out, cellF (cellF (cellF x6_ hne.out) hne.out) hne.out, by simpa using x7_⟩ | exact (fun hb_ => ⟨hOld.1.trans (Below.mono hb_ hOld.1.size), hOld.2.1.keep hb_, cell_keep hb_ hOld.2.2.1, cell_keep hb_ hOld.2.2.2.1, cell_keep hb_ hOld.2.2.2.2.1, cell_keep hb_ hOld.2.2.2.2.2.1, cell_keep hb_ hOld.2.2.2.2.2.2.1, Nat.lt_of_lt_of_le hOld.2.2.2.2.2.2.2 (Below.size hb_)⟩) ((Below.refl _ _).alloc (Nat.le_refl _) _))) (fun hHeld2 => ?_); clear hK K x0_ x1_ x2_ x3_ x4_ x5_ x6_ x7_; (try clear hOld); have hHeld := hHeld2; clear hHeld2; (try simp only [Act.put, List.setIfInBounds_toArray, List.set_cons_zero, List.set_cons_succ]))
                  refine take_yes (i := 12) (d := 9) (v := ?_) _ rfl rfl (by kernel_rfl) (by kernel_rfl) (by kernel_rfl) (fun _ _ _ _ h => h) (by rfl) ?_ (by assumption) ?_
                  rotate_left 1
                  · ((intro w hSw; (try dsimp only at hSw); go_simp) <;> (try with_reducible rfl))
                  (try simp only [Act.put, List.setIfInBounds_toArray, List.set_cons_zero, List.set_cons_succ])
                  refine wpAnyH_done (by kernel_rfl) ?_ _
                  obtain ⟨z0, z1, z2, z3, z4, z5, z6, z7⟩ := hHeld
                  go_wp2_with fail
                  go_meet
                  first | exact ⟨_, rfl, rfl, Lib.hid ⟨hnl.out, z0, z1, Blk.new _ _ _⟩⟩ | exact ⟨_, rfl, rfl, Lib.hid ⟨hnl.out, z0, z1, ((hnb.out.set_ 0 _).set_ 1 _).set_ 2 _⟩⟩
              · go_simp; refine hK.out _ _ (by obtain ⟨x0_, x1_, x2_, x3_, x4_, x5_, x6_, x7_⟩ := hHeld; exact ⟨x0_.trans (((Below.refl _ _).alloc (Nat.le_refl _) _).mono x0_.size), x1_.keep ((Below.refl _ _).alloc (Nat.le_refl _) _), cell_keep ((Below.refl _ _).alloc (Nat.le_refl _) _) x2_, cell_keep ((Below.refl _ _).alloc (Nat.le_refl _) _) x3_, cell_keep ((Below.refl _ _).alloc (Nat.le_refl _) _) x4_, cell_keep ((Below.refl _ _).alloc (Nat.le_refl _) _) x5_, cell_keep ((Below.refl _ _).alloc (Nat.le_refl _) _) x6_, Nat.lt_of_lt_of_le x7_ ((Below.refl _ _).alloc (Nat.le_refl _) _).size⟩) (fun hHeld2 => ?_); clear hK K; have hOld := hHeld; clear hHeld; have hHeld := hHeld2; clear hHeld2; (first | have hnb := Lib.hid (new_held hHeld) | have hnb := Lib.hid (new_heldD hHeld)); (first | have hab := ab_held hHeld | have hab := ab_heldD hHeld); have hnl := Lib.hid hOld.2.2.2.2.2.2.2; (try simp only [World.size_drew] at hnl); have hne := Lib.hid (Nat.ne_of_lt hnl.out); have hle := Lib.hid (Nat.le_of_lt hnl.out); (try replace hmi := hmi.below hab (Nat.le_refl _)); (try replace hmc := hmc.keep hab); (try replace hbc := ShareRow.keep hbc hab); clear hab; (try simp only [Act.put, List.setIfInBounds_toArray, List.set_cons_zero, List.set_cons_succ])
                (refine wpAnyH_ready (rs := [5]) (by kernel_rfl) (by simp) ?_; refine AllReadyH.cons rfl (fun K hK => ?_) AllReadyH.nil; go_simp; go_at_call 39; refine (toBell_calls _ _ _ _ _ _ _ _ _ _ (ShareRow.keep HL.out (And.left hHeld)) hp2).mono ?_; rintro e wd ⟨GB, rfl, hb, gb1, gb2, hbc⟩; refine hK.out _ _ (by obtain ⟨x0_, x1_, x2_, x3_, x4_, x5_, x6_, x7_⟩ := hHeld; exact ⟨x0_.trans (hb.mono x0_.size), x1_.keep hb, cell_keep hb x2_, cell_keep hb x3_, cell_keep hb x4_, cell_keep hb x5_, cell_keep hb x6_, Nat.lt_of_lt_of_le x7_ hb.size⟩) (fun hHeld2 => ?_); (try simp only [World.size_drew, World.size_alloc] at hmi hmc); (try simp only [World.size_drew, World.size_alloc] at hmi); (try replace hmi := hmi.below hb (Nat.le_refl _)); (try replace hmc := hmc.keep hb); (try replace hnb := Lib.hid (hnb.out.keep hb)); clear hK K hHeld hb; have hHeld := hHeld2; clear hHeld2; (try simp only [Act.put, List.setIfInBounds_toArray, List.set_cons_zero, List.set_cons_succ]))
                (refine wpAnyH_ready (rs := [6]) (by kernel_rfl) (by simp) ?_; refine AllReadyH.cons rfl (fun K hK => ?_) AllReadyH.nil; go_simp; go_at_call 36; refine (CS.out _ _ _ _ _ _ _ hmi hmc hbc).mono ?_; rintro e wd ⟨rfl, hb⟩; refine hK.out _ _ (by obtain ⟨x0_, x1_, x2_, x3_, x4_, x5_, x6_, x7_⟩ := hHeld; exact ⟨x0_.trans (hb.mono x0_.size), x1_.keep hb, cell_keep hb x2_, cell_keep hb x3_, cell_keep hb x4_, cell_keep hb x5_, cell_keep hb x6_, Nat.lt_of_lt_of_le x7_ hb.size⟩) (fun hHeld2 => ?_); (try simp only [World.size_drew, World.size_alloc] at hmi hmc); (try simp only [World.size_drew, World.size_alloc] at hmi); (try replace hmi := hmi.below hb (Nat.le_refl _)); (try replace hmc := hmc.keep hb); (try replace hnb := Lib.hid (hnb.out.keep hb)); clear hK K hHeld hb; have hHeld := hHeld2; clear hHeld2; (try simp only [Act.put, List.setIfInBounds_toArray, List.set_cons_zero, List.set_cons_succ]))
                refine take_yes (i := 7) (d := 30) (v := ?_) _ rfl rfl (by kernel_rfl) (by kernel_rfl) (by kernel_rfl) (fun _ _ _ _ h => h) (by rfl) ?_ (by assumption) ?_
                rotate_left 1
                · ((intro w hSw; (try dsimp only at hSw); go_simp) <;> (try with_reducible rfl))
                (try simp only [Act.put, List.setIfInBounds_toArray, List.set_cons_zero, List.set_cons_succ])
                refine take_yes (i := 8) (d := 38) (v := ?_) _ rfl rfl (by kernel_rfl) (by kernel_rfl) (by kernel_rfl) (fun _ _ _ _ h => h) (by rfl) ?_ (by assumption) ?_
                rotate_left 1
                · ((intro w hSw; (try dsimp only at hSw); go_simp) <;> (try with_reducible rfl))
                (try simp only [Act.put, List.setIfInBounds_toArray, List.set_cons_zero, List.set_cons_succ])
                refine take_yes (i := 9) (d := 39) (v := ?_) _ rfl rfl (by kernel_rfl) (by kernel_rfl) (by kernel_rfl) (fun _ _ _ _ h => h) (by rfl) ?_ (by assumption) ?_
                rotate_left 1
                · ((intro w hSw; (try dsimp only at hSw); go_simp) <;> (try with_reducible rfl))
                (try simp only [Act.put, List.setIfInBounds_toArray, List.set_cons_zero, List.set_cons_succ])
                (refine wpAnyH_ready (rs := [11]) (by kernel_rfl) (by simp) ?_; refine AllReadyH.cons rfl (fun K hK => ?_) AllReadyH.nil; obtain ⟨x0_, x1_, x2_, x3_, x4_, x5_, x6_, x7_⟩ := hHeld; have q0 := (hnb.out.cell 0).trans rfl; have q1 := (hnb.out.cell 1).trans rfl; have q2 := (hnb.out.cell 2).trans rfl; have qf := hnb.out.frozen; have ql := hnb.out.lt; go_simp; refine hK.out _ _ (by exact (by first | with_reducible exact ⟨belowF (belowF (belowF x0_ hle.out) hle.out) hle.out, blkF (blkF (blkF x1_ hne.out) hne.out) hne.out, cellF (cellF (cellF x2_ hne.out) hne.out) hne.out, cellF (cellF (cellF x3_ hne.out) hne.out) hne.out, cellF (cellF (cellF x4_ hne.out) hne.out) hne.out, cellF (cellF (cellF x5_ hne.out) hne.out) hne.out, cellF (cellF (cellF x6_ hne.out) hne.out) hne.out, by simpa using x7_⟩ | exact (fun hb_ => ⟨hOld.1.trans (Below.mono hb_ hOld.1.size), hOld.2.1.keep hb_, cell_keep hb_ hOld.2.2.1, cell_keep hb_ hOld.2.2.2.1, cell_keep hb_ hOld.2.2.2.2.1, cell_keep hb_ hOld.2.2.2.2.2.1, cell_keep hb_ hOld.2.2.2.2.2.2.1, Nat.lt_of_lt_of_le hOld.2.2.2.2.2.2.2 (Below.size hb_)⟩) ((Below.refl _ _).alloc (Nat.le_refl _) _))) (fun hHeld2 => ?_); clear hK K x0_ x1_ x2_ x3_ x4_ x5_ x6_ x7_; (try clear hOld); have hHeld := hHeld2; clear hHeld2; (try simp only [Act.put, List.setIfInBounds_toArray, List.set_cons_zero, List.set_cons_succ]))
                refine take_yes (i := 12) (d := 9) (v := ?_) _ rfl rfl (by kernel_rfl) (by kernel_rfl) (by kernel_rfl) (fun _ _ _ _ h => h) (by rfl) ?_ (by assumption) ?_
                rotate_left 1
                · ((intro w hSw; (try dsimp only at hSw); go_simp) <;> (try with_reducible rfl))
                (try simp only [Act.put, List.setIfInBounds_toArray, List.set_cons_zero, List.set_cons_succ])
                refine wpAnyH_done (by kernel_rfl) ?_ _
                obtain ⟨z0, z1, z2, z3, z4, z5, z6, z7⟩ := hHeld
                go_wp2_with fail
                go_meet
                first | exact ⟨_, rfl, rfl, Lib.hid ⟨hnl.out, z0, z1, Blk.new _ _ _⟩⟩ | exact ⟨_, rfl, rfl, Lib.hid ⟨hnl.out, z0, z1, ((hnb.out.set_ 0 _).set_ 1 _).set_ 2 _⟩⟩
            · go_simp; refine hK.out _ _ (by obtain ⟨x0_, x1_, x2_, x3_, x4_, x5_, x6_, x7_⟩ := hHeld; exact ⟨x0_.trans (((Below.refl _ _).alloc (Nat.le_refl _) _).mono x0_.size), x1_.keep ((Below.refl _ _).alloc (Nat.le_refl _) _), cell_keep ((Below.refl _ _).alloc (Nat.le_refl _) _) x2_, cell_keep ((Below.refl _ _).alloc (Nat.le_refl _) _) x3_, cell_keep ((Below.refl _ _).alloc (Nat.le_refl _) _) x4_, cell_keep ((Below.refl _ _).alloc (Nat.le_refl _) _) x5_, cell_keep ((Below.refl _ _).alloc (Nat.le_refl _) _) x6_, Nat.lt_of_lt_of_le x7_ ((Below.refl _ _).alloc (Nat.le_refl _) _).size⟩) (fun hHeld2 => ?_); clear hK K; have hOld := hHeld; clear hHeld; have hHeld := hHeld2; clear hHeld2; (first | have hnb := Lib.hid (new_held hHeld) | have hnb := Lib.hid (new_heldD hHeld)); (first | have hab := ab_held hHeld | have hab := ab_heldD hHeld); have hnl := Lib.hid hOld.2.2.2.2.2.2.2; (try simp only [World.size_drew] at hnl); have hne := Lib.hid (Nat.ne_of_lt hnl.out); have hle := Lib.hid (Nat.le_of_lt hnl.out); (try replace hmi := hmi.below hab (Nat.le_refl _)); (try replace hmc := hmc.keep hab); (try replace hbc := ShareRow.keep hbc hab); clear hab; (try simp only [Act.put, List.setIfInBounds_toArray, List.set_cons_zero, List.set_cons_succ])
              (refine wpAnyH_ready (rs := [3]) (by kernel_rfl) (by simp) ?_; refine AllReadyH.cons rfl (fun K hK => ?_) AllReadyH.nil; go_simp; go_at_call 38; refine (toMeltS_calls _ _ _ _ _ (HM.out.keep (And.left hHeld)) HNM.out hm2).mono ?_; rintro e wd ⟨rfl, hb, -, hmc, -⟩; refine hK.out _ _ (by obtain ⟨x0_, x1_, x2_, x3_, x4_, x5_, x6_, x7_⟩ := hHeld; exact ⟨x0_.trans (hb.mono x0_.size), x1_.keep hb, cell_keep hb x2_, cell_keep hb x3_, cell_keep hb x4_, cell_keep hb x5_, cell_keep hb x6_, Nat.lt_of_lt_of_le x7_ hb.size⟩) (fun hHeld2 => ?_); (try simp only [World.size_drew, World.size_alloc] at hmi hmc); (try simp only [World.size_drew, World.size_alloc] at hmi); (try replace hmi := hmi.below hb (Nat.le_refl _)); (try replace hmc := hmc.keep hb); (try replace hnb := Lib.hid (hnb.out.keep hb)); clear hK K hHeld hb; have hHeld := hHeld2; clear hHeld2; (try simp only [Act.put, List.setIfInBounds_toArray, List.set_cons_zero, List.set_cons_succ]))
              (refine wpAnyH_ready (rs := [5]) (by kernel_rfl) (by simp) ?_; refine AllReadyH.cons rfl (fun K hK => ?_) AllReadyH.nil; go_simp; go_at_call 39; refine (toBell_calls _ _ _ _ _ _ _ _ _ _ (ShareRow.keep HL.out (And.left hHeld)) hp2).mono ?_; rintro e wd ⟨GB, rfl, hb, gb1, gb2, hbc⟩; refine hK.out _ _ (by obtain ⟨x0_, x1_, x2_, x3_, x4_, x5_, x6_, x7_⟩ := hHeld; exact ⟨x0_.trans (hb.mono x0_.size), x1_.keep hb, cell_keep hb x2_, cell_keep hb x3_, cell_keep hb x4_, cell_keep hb x5_, cell_keep hb x6_, Nat.lt_of_lt_of_le x7_ hb.size⟩) (fun hHeld2 => ?_); (try simp only [World.size_drew, World.size_alloc] at hmi hmc); (try simp only [World.size_drew, World.size_alloc] at hmi); (try replace hmi := hmi.below hb (Nat.le_refl _)); (try replace hmc := hmc.keep hb); (try replace hnb := Lib.hid (hnb.out.keep hb)); clear hK K hHeld hb; have hHeld := hHeld2; clear hHeld2; (try simp only [Act.put, List.setIfInBounds_toArray, List.set_cons_zero, List.set_cons_succ]))
              (refine wpAnyH_ready (rs := [6]) (by kernel_rfl) (by simp) ?_; refine AllReadyH.cons rfl (fun K hK => ?_) AllReadyH.nil; go_simp; go_at_call 36; refine (CS.out _ _ _ _ _ _ _ hmi hmc hbc).mono ?_; rintro e wd ⟨rfl, hb⟩; refine hK.out _ _ (by obtain ⟨x0_, x1_, x2_, x3_, x4_, x5_, x6_, x7_⟩ := hHeld; exact ⟨x0_.trans (hb.mono x0_.size), x1_.keep hb, cell_keep hb x2_, cell_keep hb x3_, cell_keep hb x4_, cell_keep hb x5_, cell_keep hb x6_, Nat.lt_of_lt_of_le x7_ hb.size⟩) (fun hHeld2 => ?_); (try simp only [World.size_drew, World.size_alloc] at hmi hmc); (try simp only [World.size_drew, World.size_alloc] at hmi); (try replace hmi := hmi.below hb (Nat.le_refl _)); (try replace hmc := hmc.keep hb); (try replace hnb := Lib.hid (hnb.out.keep hb)); clear hK K hHeld hb; have hHeld := hHeld2; clear hHeld2; (try simp only [Act.put, List.setIfInBounds_toArray, List.set_cons_zero, List.set_cons_succ]))
              refine take_yes (i := 7) (d := 30) (v := ?_) _ rfl rfl (by kernel_rfl) (by kernel_rfl) (by kernel_rfl) (fun _ _ _ _ h => h) (by rfl) ?_ (by assumption) ?_
              rotate_left 1
              · ((intro w hSw; (try dsimp only at hSw); go_simp) <;> (try with_reducible rfl))
              (try simp only [Act.put, List.setIfInBounds_toArray, List.set_cons_zero, List.set_cons_succ])
              refine take_yes (i := 8) (d := 38) (v := ?_) _ rfl rfl (by kernel_rfl) (by kernel_rfl) (by kernel_rfl) (fun _ _ _ _ h => h) (by rfl) ?_ (by assumption) ?_
              rotate_left 1
              · ((intro w hSw; (try dsimp only at hSw); go_simp) <;> (try with_reducible rfl))
              (try simp only [Act.put, List.setIfInBounds_toArray, List.set_cons_zero, List.set_cons_succ])
              refine take_yes (i := 9) (d := 39) (v := ?_) _ rfl rfl (by kernel_rfl) (by kernel_rfl) (by kernel_rfl) (fun _ _ _ _ h => h) (by rfl) ?_ (by assumption) ?_
              rotate_left 1
              · ((intro w hSw; (try dsimp only at hSw); go_simp) <;> (try with_reducible rfl))
              (try simp only [Act.put, List.setIfInBounds_toArray, List.set_cons_zero, List.set_cons_succ])
              (refine wpAnyH_ready (rs := [11]) (by kernel_rfl) (by simp) ?_; refine AllReadyH.cons rfl (fun K hK => ?_) AllReadyH.nil; obtain ⟨x0_, x1_, x2_, x3_, x4_, x5_, x6_, x7_⟩ := hHeld; have q0 := (hnb.out.cell 0).trans rfl; have q1 := (hnb.out.cell 1).trans rfl; have q2 := (hnb.out.cell 2).trans rfl; have qf := hnb.out.frozen; have ql := hnb.out.lt; go_simp; refine hK.out _ _ (by exact (by first | with_reducible exact ⟨belowF (belowF (belowF x0_ hle.out) hle.out) hle.out, blkF (blkF (blkF x1_ hne.out) hne.out) hne.out, cellF (cellF (cellF x2_ hne.out) hne.out) hne.out, cellF (cellF (cellF x3_ hne.out) hne.out) hne.out, cellF (cellF (cellF x4_ hne.out) hne.out) hne.out, cellF (cellF (cellF x5_ hne.out) hne.out) hne.out, cellF (cellF (cellF x6_ hne.out) hne.out) hne.out, by simpa using x7_⟩ | exact (fun hb_ => ⟨hOld.1.trans (Below.mono hb_ hOld.1.size), hOld.2.1.keep hb_, cell_keep hb_ hOld.2.2.1, cell_keep hb_ hOld.2.2.2.1, cell_keep hb_ hOld.2.2.2.2.1, cell_keep hb_ hOld.2.2.2.2.2.1, cell_keep hb_ hOld.2.2.2.2.2.2.1, Nat.lt_of_lt_of_le hOld.2.2.2.2.2.2.2 (Below.size hb_)⟩) ((Below.refl _ _).alloc (Nat.le_refl _) _))) (fun hHeld2 => ?_); clear hK K x0_ x1_ x2_ x3_ x4_ x5_ x6_ x7_; (try clear hOld); have hHeld := hHeld2; clear hHeld2; (try simp only [Act.put, List.setIfInBounds_toArray, List.set_cons_zero, List.set_cons_succ]))
              refine take_yes (i := 12) (d := 9) (v := ?_) _ rfl rfl (by kernel_rfl) (by kernel_rfl) (by kernel_rfl) (fun _ _ _ _ h => h) (by rfl) ?_ (by assumption) ?_
              rotate_left 1
              · ((intro w hSw; (try dsimp only at hSw); go_simp) <;> (try with_reducible rfl))
              (try simp only [Act.put, List.setIfInBounds_toArray, List.set_cons_zero, List.set_cons_succ])
              refine wpAnyH_done (by kernel_rfl) ?_ _
              obtain ⟨z0, z1, z2, z3, z4, z5, z6, z7⟩ := hHeld
              go_wp2_with fail
              go_meet
              first | exact ⟨_, rfl, rfl, Lib.hid ⟨hnl.out, z0, z1, Blk.new _ _ _⟩⟩ | exact ⟨_, rfl, rfl, Lib.hid ⟨hnl.out, z0, z1, ((hnb.out.set_ 0 _).set_ 1 _).set_ 2 _⟩⟩
          · go_simp; refine hK.out _ _ (by obtain ⟨x0_, x1_, x2_, x3_, x4_, x5_, x6_, x7_⟩ := hHeld; exact ⟨x0_.trans (((Below.refl _ _).alloc (Nat.le_refl _) _).mono x0_.size), x1_.keep ((Below.refl _ _).alloc (Nat.le_refl _) _), cell_keep ((Below.refl _ _).alloc (Nat.le_refl _) _) x2_, cell_keep ((Below.refl _ _).alloc (Nat.le_refl _) _) x3_, cell_keep ((Below.refl _ _).alloc (Nat.le_refl _) _) x4_, cell_keep ((Below.refl _ _).alloc (Nat.le_refl _) _) x5_, cell_keep ((Below.refl _ _).alloc (Nat.le_refl _) _) x6_, Nat.lt_of_lt_of_le x7_ ((Below.refl _ _).alloc (Nat.le_refl _) _).size⟩) (fun hHeld2 => ?_); clear hK K; have hOld := hHeld; clear hHeld; have hHeld := hHeld2; clear hHeld2; (first | have hnb := Lib.hid (new_held hHeld) | have hnb := Lib.hid (new_heldD hHeld)); (first | have hab := ab_held hHeld | have hab := ab_heldD hHeld); have hnl := Lib.hid hOld.2.2.2.2.2.2.2; (try simp only [World.size_drew] at hnl); have hne := Lib.hid (Nat.ne_of_lt hnl.out); have hle := Lib.hid (Nat.le_of_lt hnl.out); (try replace hmi := hmi.below hab (Nat.le_refl _)); (try replace hmc := hmc.keep hab); (try replace hbc := ShareRow.keep hbc hab); clear hab; (try simp only [Act.put, List.setIfInBounds_toArray, List.set_cons_zero, List.set_cons_succ])
            (refine wpAnyH_ready (rs := [1]) (by kernel_rfl) (by simp) ?_; refine AllReadyH.cons rfl (fun K hK => ?_) AllReadyH.nil; go_simp; go_at_call 37; refine (toIngotS_calls _ _ _ s0 a1 a2 a3 a4 _ (HR.out.below (And.left hHeld) (Nat.le_refl _)) hn2).mono ?_; rintro e wd ⟨rfl, hb, -, hmi⟩; refine hK.out _ _ (by obtain ⟨x0_, x1_, x2_, x3_, x4_, x5_, x6_, x7_⟩ := hHeld; exact ⟨x0_.trans (hb.mono x0_.size), x1_.keep hb, cell_keep hb x2_, cell_keep hb x3_, cell_keep hb x4_, cell_keep hb x5_, cell_keep hb x6_, Nat.lt_of_lt_of_le x7_ hb.size⟩) (fun hHeld2 => ?_); (try simp only [World.size_drew, World.size_alloc] at hmi hmc); (try simp only [World.size_drew, World.size_alloc] at hmi); (try replace hmi := hmi.below hb (Nat.le_refl _)); (try replace hmc := hmc.keep hb); (try replace hnb := Lib.hid (hnb.out.keep hb)); clear hK K hHeld hb; have hHeld := hHeld2; clear hHeld2; (try simp only [Act.put, List.setIfInBounds_toArray, List.set_cons_zero, List.set_cons_succ]))
            (refine wpAnyH_ready (rs := [3]) (by kernel_rfl) (by simp) ?_; refine AllReadyH.cons rfl (fun K hK => ?_) AllReadyH.nil; go_simp; go_at_call 38; refine (toMeltS_calls _ _ _ _ _ (HM.out.keep (And.left hHeld)) HNM.out hm2).mono ?_; rintro e wd ⟨rfl, hb, -, hmc, -⟩; refine hK.out _ _ (by obtain ⟨x0_, x1_, x2_, x3_, x4_, x5_, x6_, x7_⟩ := hHeld; exact ⟨x0_.trans (hb.mono x0_.size), x1_.keep hb, cell_keep hb x2_, cell_keep hb x3_, cell_keep hb x4_, cell_keep hb x5_, cell_keep hb x6_, Nat.lt_of_lt_of_le x7_ hb.size⟩) (fun hHeld2 => ?_); (try simp only [World.size_drew, World.size_alloc] at hmi hmc); (try simp only [World.size_drew, World.size_alloc] at hmi); (try replace hmi := hmi.below hb (Nat.le_refl _)); (try replace hmc := hmc.keep hb); (try replace hnb := Lib.hid (hnb.out.keep hb)); clear hK K hHeld hb; have hHeld := hHeld2; clear hHeld2; (try simp only [Act.put, List.setIfInBounds_toArray, List.set_cons_zero, List.set_cons_succ]))
            (refine wpAnyH_ready (rs := [5]) (by kernel_rfl) (by simp) ?_; refine AllReadyH.cons rfl (fun K hK => ?_) AllReadyH.nil; go_simp; go_at_call 39; refine (toBell_calls _ _ _ _ _ _ _ _ _ _ (ShareRow.keep HL.out (And.left hHeld)) hp2).mono ?_; rintro e wd ⟨GB, rfl, hb, gb1, gb2, hbc⟩; refine hK.out _ _ (by obtain ⟨x0_, x1_, x2_, x3_, x4_, x5_, x6_, x7_⟩ := hHeld; exact ⟨x0_.trans (hb.mono x0_.size), x1_.keep hb, cell_keep hb x2_, cell_keep hb x3_, cell_keep hb x4_, cell_keep hb x5_, cell_keep hb x6_, Nat.lt_of_lt_of_le x7_ hb.size⟩) (fun hHeld2 => ?_); (try simp only [World.size_drew, World.size_alloc] at hmi hmc); (try simp only [World.size_drew, World.size_alloc] at hmi); (try replace hmi := hmi.below hb (Nat.le_refl _)); (try replace hmc := hmc.keep hb); (try replace hnb := Lib.hid (hnb.out.keep hb)); clear hK K hHeld hb; have hHeld := hHeld2; clear hHeld2; (try simp only [Act.put, List.setIfInBounds_toArray, List.set_cons_zero, List.set_cons_succ]))
            (refine wpAnyH_ready (rs := [6]) (by kernel_rfl) (by simp) ?_; refine AllReadyH.cons rfl (fun K hK => ?_) AllReadyH.nil; go_simp; go_at_call 36; refine (CS.out _ _ _ _ _ _ _ hmi hmc hbc).mono ?_; rintro e wd ⟨rfl, hb⟩; refine hK.out _ _ (by obtain ⟨x0_, x1_, x2_, x3_, x4_, x5_, x6_, x7_⟩ := hHeld; exact ⟨x0_.trans (hb.mono x0_.size), x1_.keep hb, cell_keep hb x2_, cell_keep hb x3_, cell_keep hb x4_, cell_keep hb x5_, cell_keep hb x6_, Nat.lt_of_lt_of_le x7_ hb.size⟩) (fun hHeld2 => ?_); (try simp only [World.size_drew, World.size_alloc] at hmi hmc); (try simp only [World.size_drew, World.size_alloc] at hmi); (try replace hmi := hmi.below hb (Nat.le_refl _)); (try replace hmc := hmc.keep hb); (try replace hnb := Lib.hid (hnb.out.keep hb)); clear hK K hHeld hb; have hHeld := hHeld2; clear hHeld2; (try simp only [Act.put, List.setIfInBounds_toArray, List.set_cons_zero, List.set_cons_succ]))
            refine take_yes (i := 7) (d := 30) (v := ?_) _ rfl rfl (by kernel_rfl) (by kernel_rfl) (by kernel_rfl) (fun _ _ _ _ h => h) (by rfl) ?_ (by assumption) ?_
            rotate_left 1
            · ((intro w hSw; (try dsimp only at hSw); go_simp) <;> (try with_reducible rfl))
            (try simp only [Act.put, List.setIfInBounds_toArray, List.set_cons_zero, List.set_cons_succ])
            refine take_yes (i := 8) (d := 38) (v := ?_) _ rfl rfl (by kernel_rfl) (by kernel_rfl) (by kernel_rfl) (fun _ _ _ _ h => h) (by rfl) ?_ (by assumption) ?_
            rotate_left 1
            · ((intro w hSw; (try dsimp only at hSw); go_simp) <;> (try with_reducible rfl))
            (try simp only [Act.put, List.setIfInBounds_toArray, List.set_cons_zero, List.set_cons_succ])
            refine take_yes (i := 9) (d := 39) (v := ?_) _ rfl rfl (by kernel_rfl) (by kernel_rfl) (by kernel_rfl) (fun _ _ _ _ h => h) (by rfl) ?_ (by assumption) ?_
            rotate_left 1
            · ((intro w hSw; (try dsimp only at hSw); go_simp) <;> (try with_reducible rfl))
            (try simp only [Act.put, List.setIfInBounds_toArray, List.set_cons_zero, List.set_cons_succ])
            (refine wpAnyH_ready (rs := [11]) (by kernel_rfl) (by simp) ?_; refine AllReadyH.cons rfl (fun K hK => ?_) AllReadyH.nil; obtain ⟨x0_, x1_, x2_, x3_, x4_, x5_, x6_, x7_⟩ := hHeld; have q0 := (hnb.out.cell 0).trans rfl; have q1 := (hnb.out.cell 1).trans rfl; have q2 := (hnb.out.cell 2).trans rfl; have qf := hnb.out.frozen; have ql := hnb.out.lt; go_simp; refine hK.out _ _ (by exact (by first | with_reducible exact ⟨belowF (belowF (belowF x0_ hle.out) hle.out) hle.out, blkF (blkF (blkF x1_ hne.out) hne.out) hne.out, cellF (cellF (cellF x2_ hne.out) hne.out) hne.out, cellF (cellF (cellF x3_ hne.out) hne.out) hne.out, cellF (cellF (cellF x4_ hne.out) hne.out) hne.out, cellF (cellF (cellF x5_ hne.out) hne.out) hne.out, cellF (cellF (cellF x6_ hne.out) hne.out) hne.out, by simpa using x7_⟩ | exact (fun hb_ => ⟨hOld.1.trans (Below.mono hb_ hOld.1.size), hOld.2.1.keep hb_, cell_keep hb_ hOld.2.2.1, cell_keep hb_ hOld.2.2.2.1, cell_keep hb_ hOld.2.2.2.2.1, cell_keep hb_ hOld.2.2.2.2.2.1, cell_keep hb_ hOld.2.2.2.2.2.2.1, Nat.lt_of_lt_of_le hOld.2.2.2.2.2.2.2 (Below.size hb_)⟩) ((Below.refl _ _).alloc (Nat.le_refl _) _))) (fun hHeld2 => ?_); clear hK K x0_ x1_ x2_ x3_ x4_ x5_ x6_ x7_; (try clear hOld); have hHeld := hHeld2; clear hHeld2; (try simp only [Act.put, List.setIfInBounds_toArray, List.set_cons_zero, List.set_cons_succ]))
            refine take_yes (i := 12) (d := 9) (v := ?_) _ rfl rfl (by kernel_rfl) (by kernel_rfl) (by kernel_rfl) (fun _ _ _ _ h => h) (by rfl) ?_ (by assumption) ?_
            rotate_left 1
            · ((intro w hSw; (try dsimp only at hSw); go_simp) <;> (try with_reducible rfl))
            (try simp only [Act.put, List.setIfInBounds_toArray, List.set_cons_zero, List.set_cons_succ])
            refine wpAnyH_done (by kernel_rfl) ?_ _
            obtain ⟨z0, z1, z2, z3, z4, z5, z6, z7⟩ := hHeld
            go_wp2_with fail
            go_meet
            first | exact ⟨_, rfl, rfl, Lib.hid ⟨hnl.out, z0, z1, Blk.new _ _ _⟩⟩ | exact ⟨_, rfl, rfl, Lib.hid ⟨hnl.out, z0, z1, ((hnb.out.set_ 0 _).set_ 1 _).set_ 2 _⟩⟩
        case rest =>
          obtain ⟨G8, rfl, rfl, hcc⟩ := hcut
          obtain ⟨hG8, k0, b0, w0⟩ := hcc.out
          have k1 := Lib.hid k0
          have B1 := Lib.hid b0
          have W1 := Lib.hid w0
          clear hcc k0 b0 w0
          go_wp2_with fail
          go_at_call 37
          refine (toIngotS_calls _ _ _ s0 a1 a2 a3 a4 _ (HR.out.below k1.out (Nat.le_refl _)) hn2).mono ?_
          rintro e w2 ⟨rfl, hb, -, hc⟩
          replace k1 := Lib.hid (k1.out.trans (hb.mono k1.out.size)); replace B1 := Lib.hid (B1.out.keep hb); (try replace W1 := Lib.hid (W1.out.keep hb)); (try replace X1 := Lib.hid (X1.out.keep hb)); (try replace Q1 := Lib.hid (Q1.out.keep hb)); (try replace i1 := Lib.hid (i1.out.below hb (Nat.le_refl _))); (try replace x0 := Lib.hid (x0.out.below hb (Nat.le_refl _))); (try replace c1 := Lib.hid (c1.out.keep hb)); (try replace x1 := Lib.hid (x1.out.keep hb)); (try replace x2 := Lib.hid (ShareRow.keep x2.out hb)); clear hb
          have x0 := Lib.hid hc
          clear hc
          go_wp2_with fail
          go_at_call 38
          refine (toMeltS_calls _ _ _ _ _ (HM.out.keep k1.out) HNM.out hm2).mono ?_
          rintro e w3 ⟨rfl, hb, -, hc, -⟩
          replace k1 := Lib.hid (k1.out.trans (hb.mono k1.out.size)); replace B1 := Lib.hid (B1.out.keep hb); (try replace W1 := Lib.hid (W1.out.keep hb)); (try replace X1 := Lib.hid (X1.out.keep hb)); (try replace Q1 := Lib.hid (Q1.out.keep hb)); (try replace i1 := Lib.hid (i1.out.below hb (Nat.le_refl _))); (try replace x0 := Lib.hid (x0.out.below hb (Nat.le_refl _))); (try replace c1 := Lib.hid (c1.out.keep hb)); (try replace x1 := Lib.hid (x1.out.keep hb)); (try replace x2 := Lib.hid (ShareRow.keep x2.out hb)); clear hb
          have x1 := Lib.hid hc
          clear hc
          have c0 := (B1.out.cell 0).trans rfl
          have c1_ := (B1.out.cell 1).trans rfl
          have c2_ := (B1.out.cell 2).trans rfl
          have c3_ := (B1.out.cell 3).trans rfl
          have c4_ := (B1.out.cell 4).trans rfl
          go_wp2_with fail
          go_at_call 39
          refine (toBell_calls _ _ _ _ _ _ _ _ _ _ (ShareRow.keep HL.out k1.out) hp2).mono ?_
          rintro e w4 ⟨GB, rfl, hb, gb1, gb2, hbc⟩
          replace k1 := Lib.hid (k1.out.trans (hb.mono k1.out.size)); replace B1 := Lib.hid (B1.out.keep hb); (try replace W1 := Lib.hid (W1.out.keep hb)); (try replace X1 := Lib.hid (X1.out.keep hb)); (try replace Q1 := Lib.hid (Q1.out.keep hb)); (try replace i1 := Lib.hid (i1.out.below hb (Nat.le_refl _))); (try replace x0 := Lib.hid (x0.out.below hb (Nat.le_refl _))); (try replace c1 := Lib.hid (c1.out.keep hb)); (try replace x1 := Lib.hid (x1.out.keep hb)); (try replace x2 := Lib.hid (ShareRow.keep x2.out hb)); clear hb
          clear c0 c1_ c2_ c3_ c4_
          have x2 := Lib.hid hbc
          clear hbc gb1 gb2
          go_wp2_with fail
          have hb := (Below.refl w4.heap.size w4).alloc (Nat.le_refl _) (.cells #[.string s, .int .i64 no, .int .i64 ma, .int .i64 fe, .slice (some ⟨GB, 0, none⟩) p p] 76)
          replace k1 := Lib.hid (k1.out.trans (hb.mono k1.out.size)); replace B1 := Lib.hid (B1.out.keep hb); (try replace W1 := Lib.hid (W1.out.keep hb)); (try replace X1 := Lib.hid (X1.out.keep hb)); (try replace Q1 := Lib.hid (Q1.out.keep hb)); (try replace i1 := Lib.hid (i1.out.below hb (Nat.le_refl _))); (try replace x0 := Lib.hid (x0.out.below hb (Nat.le_refl _))); (try replace c1 := Lib.hid (c1.out.keep hb)); (try replace x1 := Lib.hid (x1.out.keep hb)); (try replace x2 := Lib.hid (ShareRow.keep x2.out hb)); clear hb
          have X1 := Lib.hid (Blk.new w4 76 #[.string s, .int .i64 no, .int .i64 ma, .int .i64 fe, .slice (some ⟨GB, 0, none⟩) p p])
          go_at_call 40
          refine (CI.out _ _ _ _ _ _ _ (Nat.le_refl _) x0.out x1.out x2.out).mono ?_
          rintro e w5 ⟨rfl, hb⟩
          replace k1 := Lib.hid (k1.out.trans (hb.mono k1.out.size)); replace B1 := Lib.hid (B1.out.keep hb); (try replace W1 := Lib.hid (W1.out.keep hb)); (try replace X1 := Lib.hid (X1.out.keep hb)); (try replace Q1 := Lib.hid (Q1.out.keep hb)); (try replace i1 := Lib.hid (i1.out.below hb (Nat.le_refl _))); (try replace x0 := Lib.hid (x0.out.below hb (Nat.le_refl _))); (try replace c1 := Lib.hid (c1.out.keep hb)); (try replace x1 := Lib.hid (x1.out.keep hb)); (try replace x2 := Lib.hid (ShareRow.keep x2.out hb)); clear hb
          have v0 := (W1.out.cell 0).trans rfl
          have v1 := (W1.out.cell 1).trans rfl
          have v2 := (W1.out.cell 2).trans rfl
          have vl := W1.out.lt
          go_wp2_with fail
          clear v0 v1 v2 vl
          have hb := (Below.refl w5.heap.size w5).alloc (Nat.le_refl _) (.cells #[.int .i64 r0, .int .i64 r1, .int .i64 r2] 67)
          replace k1 := Lib.hid (k1.out.trans (hb.mono k1.out.size)); replace B1 := Lib.hid (B1.out.keep hb); (try replace W1 := Lib.hid (W1.out.keep hb)); (try replace X1 := Lib.hid (X1.out.keep hb)); (try replace Q1 := Lib.hid (Q1.out.keep hb)); (try replace i1 := Lib.hid (i1.out.below hb (Nat.le_refl _))); (try replace x0 := Lib.hid (x0.out.below hb (Nat.le_refl _))); (try replace c1 := Lib.hid (c1.out.keep hb)); (try replace x1 := Lib.hid (x1.out.keep hb)); (try replace x2 := Lib.hid (ShareRow.keep x2.out hb)); clear hb
          go_at_call 41
          refine (eqAlloy_calls _ _ _ _).mono ?_
          rintro e w6 ⟨rfl, hb⟩
          replace k1 := Lib.hid (k1.out.trans (hb.mono k1.out.size)); replace B1 := Lib.hid (B1.out.keep hb); (try replace W1 := Lib.hid (W1.out.keep hb)); (try replace X1 := Lib.hid (X1.out.keep hb)); (try replace Q1 := Lib.hid (Q1.out.keep hb)); (try replace i1 := Lib.hid (i1.out.below hb (Nat.le_refl _))); (try replace x0 := Lib.hid (x0.out.below hb (Nat.le_refl _))); (try replace c1 := Lib.hid (c1.out.keep hb)); (try replace x1 := Lib.hid (x1.out.keep hb)); (try replace x2 := Lib.hid (ShareRow.keep x2.out hb)); clear hb
          go_wp2_with fail
          go_at_call 37
          refine (toIngotS_calls _ _ _ s0 a1 a2 a3 a4 _ (HR.out.below k1.out (Nat.le_refl _)) hn2).mono ?_
          rintro e w7 ⟨rfl, hb, -, hc⟩
          replace k1 := Lib.hid (k1.out.trans (hb.mono k1.out.size)); replace B1 := Lib.hid (B1.out.keep hb); (try replace W1 := Lib.hid (W1.out.keep hb)); (try replace X1 := Lib.hid (X1.out.keep hb)); (try replace Q1 := Lib.hid (Q1.out.keep hb)); (try replace i1 := Lib.hid (i1.out.below hb (Nat.le_refl _))); (try replace x0 := Lib.hid (x0.out.below hb (Nat.le_refl _))); (try replace c1 := Lib.hid (c1.out.keep hb)); (try replace x1 := Lib.hid (x1.out.keep hb)); (try replace x2 := Lib.hid (ShareRow.keep x2.out hb)); clear hb
          have i1 := Lib.hid hc
          clear hc
          go_wp2_with fail
          go_at_call 42
          refine (eqIngotS_calls _ _ _ _ _ s0 a1 a2 a3 a4 _ x0.out i1.out hn2).mono ?_
          rintro e w8 ⟨rfl, hb⟩
          clear i1 x0
          replace k1 := Lib.hid (k1.out.trans (hb.mono k1.out.size)); replace B1 := Lib.hid (B1.out.keep hb); (try replace W1 := Lib.hid (W1.out.keep hb)); (try replace X1 := Lib.hid (X1.out.keep hb)); (try replace Q1 := Lib.hid (Q1.out.keep hb)); (try replace i1 := Lib.hid (i1.out.below hb (Nat.le_refl _))); (try replace x0 := Lib.hid (x0.out.below hb (Nat.le_refl _))); (try replace c1 := Lib.hid (c1.out.keep hb)); (try replace x1 := Lib.hid (x1.out.keep hb)); (try replace x2 := Lib.hid (ShareRow.keep x2.out hb)); clear hb
          go_wp2_with fail
          go_at_call 38
          refine (toMeltS_calls _ _ _ _ _ (HM.out.keep k1.out) HNM.out hm2).mono ?_
          rintro e w9 ⟨rfl, hb, -, hc, -⟩
          replace k1 := Lib.hid (k1.out.trans (hb.mono k1.out.size)); replace B1 := Lib.hid (B1.out.keep hb); (try replace W1 := Lib.hid (W1.out.keep hb)); (try replace X1 := Lib.hid (X1.out.keep hb)); (try replace Q1 := Lib.hid (Q1.out.keep hb)); (try replace i1 := Lib.hid (i1.out.below hb (Nat.le_refl _))); (try replace x0 := Lib.hid (x0.out.below hb (Nat.le_refl _))); (try replace c1 := Lib.hid (c1.out.keep hb)); (try replace x1 := Lib.hid (x1.out.keep hb)); (try replace x2 := Lib.hid (ShareRow.keep x2.out hb)); clear hb
          have c1 := Lib.hid hc
          clear hc
          go_wp2_with fail
          go_at_call 43
          refine (eqMeltS_calls _ _ _ _ _ _ _ x1.out c1.out HNM.out hm2).mono ?_
          rintro e w10 ⟨rfl, hb⟩
          clear c1 x1
          replace k1 := Lib.hid (k1.out.trans (hb.mono k1.out.size)); replace B1 := Lib.hid (B1.out.keep hb); (try replace W1 := Lib.hid (W1.out.keep hb)); (try replace X1 := Lib.hid (X1.out.keep hb)); (try replace Q1 := Lib.hid (Q1.out.keep hb)); (try replace i1 := Lib.hid (i1.out.below hb (Nat.le_refl _))); (try replace x0 := Lib.hid (x0.out.below hb (Nat.le_refl _))); (try replace c1 := Lib.hid (c1.out.keep hb)); (try replace x1 := Lib.hid (x1.out.keep hb)); (try replace x2 := Lib.hid (ShareRow.keep x2.out hb)); clear hb
          go_wp2_with fail
          refine wp_gen (fun W0 hW0 => ?_)
          have s0_ : Below w.heap.size w W0 := by rw [hW0]; exact k1.out
          have s1_ : Blk W0 w4.heap.size 76 #[.string s, .int .i64 no, .int .i64 ma, .int .i64 fe, .slice (some ⟨GB, 0, none⟩) p p] := by rw [hW0]; exact X1.out
          have s2_ : Blk W0 w.heap.size 62 #[.string s, .int .i64 no, .int .i64 ma, .int .i64 fe, .slice C p e2] := by rw [hW0]; exact B1.out
          have s3_ : ShareRow W0 (some ⟨GB, 0, none⟩) p ss ms := by rw [hW0]; exact x2.out
          have s4_ : W0.cell? ⟨w4.heap.size, 0, none⟩ = some (.string s) := (s1_.cell 0).trans rfl
          have s5_ : W0.cell? ⟨w4.heap.size, 1, none⟩ = some (.int .i64 no) := (s1_.cell 1).trans rfl
          have s6_ : W0.cell? ⟨w4.heap.size, 2, none⟩ = some (.int .i64 ma) := (s1_.cell 2).trans rfl
          have s7_ : W0.cell? ⟨w4.heap.size, 3, none⟩ = some (.int .i64 fe) := (s1_.cell 3).trans rfl
          have s8_ : W0.cell? ⟨w4.heap.size, 4, none⟩ = some (.slice (some ⟨GB, 0, none⟩) p p) := (s1_.cell 4).trans rfl
          have s9_ : W0.cell? ⟨w.heap.size, 0, none⟩ = some (.string s) := (s2_.cell 0).trans rfl
          have s10_ : W0.cell? ⟨w.heap.size, 1, none⟩ = some (.int .i64 no) := (s2_.cell 1).trans rfl
          have s11_ : W0.cell? ⟨w.heap.size, 2, none⟩ = some (.int .i64 ma) := (s2_.cell 2).trans rfl
          have s12_ : W0.cell? ⟨w.heap.size, 3, none⟩ = some (.int .i64 fe) := (s2_.cell 3).trans rfl
          have s13_ : W0.cell? ⟨w.heap.size, 4, none⟩ = some (.slice C p e2) := (s2_.cell 4).trans rfl
          clear k1 X1 B1 x2
          clear hW0
          refine wp_region_held_drew (S := fun w' => Below w.heap.size w w' ∧ Blk w' w4.heap.size 76 #[.string s, .int .i64 no, .int .i64 ma, .int .i64 fe, .slice (some ⟨GB, 0, none⟩) p p] ∧ Blk w' w.heap.size 62 #[.string s, .int .i64 no, .int .i64 ma, .int .i64 fe, .slice C p e2] ∧ ShareRow w' (some ⟨GB, 0, none⟩) p ss ms ∧ w'.cell? ⟨w4.heap.size, 0, none⟩ = some (.string s) ∧ w'.cell? ⟨w4.heap.size, 1, none⟩ = some (.int .i64 no) ∧ w'.cell? ⟨w4.heap.size, 2, none⟩ = some (.int .i64 ma) ∧ w'.cell? ⟨w4.heap.size, 3, none⟩ = some (.int .i64 fe) ∧ w'.cell? ⟨w4.heap.size, 4, none⟩ = some (.slice (some ⟨GB, 0, none⟩) p p) ∧ w'.cell? ⟨w.heap.size, 0, none⟩ = some (.string s) ∧ w'.cell? ⟨w.heap.size, 1, none⟩ = some (.int .i64 no) ∧ w'.cell? ⟨w.heap.size, 2, none⟩ = some (.int .i64 ma) ∧ w'.cell? ⟨w.heap.size, 3, none⟩ = some (.int .i64 fe) ∧ w'.cell? ⟨w.heap.size, 4, none⟩ = some (.slice C p e2)) (by kernel_rfl) ?_ (fun hHeld => ?_)
          · exact ⟨s0_.drew, s1_, s2_, s3_, s4_, s5_, s6_, s7_, s8_, s9_, s10_, s11_, s12_, s13_⟩
          clear s0_ s1_ s2_ s3_ s4_ s5_ s6_ s7_ s8_ s9_ s10_ s11_ s12_ s13_
          refine take_yes (i := 0) (d := 72) (v := ?_) _ rfl rfl (by kernel_rfl) (by kernel_rfl) (by kernel_rfl) (fun _ _ _ _ h => h) (by rfl) ?_ (by assumption) ?_
          rotate_left 1
          · ((intro w hSw; (try dsimp only at hSw); go_simp) <;> (try with_reducible rfl))
          (try simp only [Act.put, List.setIfInBounds_toArray, List.set_cons_zero, List.set_cons_succ])
          refine take_yes (i := 1) (d := 73) (v := ?_) _ rfl rfl (by kernel_rfl) (by kernel_rfl) (by kernel_rfl) (fun _ _ _ _ h => h) (by rfl) ?_ (by assumption) ?_
          rotate_left 1
          · ((intro w hSw; (try dsimp only at hSw); go_simp) <;> (try with_reducible rfl))
          (try simp only [Act.put, List.setIfInBounds_toArray, List.set_cons_zero, List.set_cons_succ])
          (refine wpAnyH_ready (rs := [2]) (by kernel_rfl) (by simp) ?_; refine AllReadyH.cons rfl (fun K hK => ?_) AllReadyH.nil; go_simp; go_at_call 39; refine (toBell_calls _ _ _ _ _ _ _ _ _ _ (ShareRow.keep HL.out (And.left hHeld)) hp2).mono ?_; rintro e wd ⟨G3, rfl, hb, g1, g2, hnew⟩; refine hK.out _ _ (by obtain ⟨x0_, x1_, x2_, x3_, x4_, x5_, x6_, x7_, x8_, x9_, x10_, x11_, x12_, x13_⟩ := hHeld; exact ⟨x0_.trans (hb.mono x0_.size), x1_.keep hb, x2_.keep hb, x3_.keep hb, cell_keep hb x4_, cell_keep hb x5_, cell_keep hb x6_, cell_keep hb x7_, cell_keep hb x8_, cell_keep hb x9_, cell_keep hb x10_, cell_keep hb x11_, cell_keep hb x12_, cell_keep hb x13_⟩) (fun hHeld2 => ?_); clear hK K hHeld hb; have hHeld := hHeld2; clear hHeld2; (try simp only [Act.put, List.setIfInBounds_toArray, List.set_cons_zero, List.set_cons_succ]))
          (refine wpAnyH_ready (rs := [3]) (by kernel_rfl) (by simp) ?_; refine AllReadyH.cons rfl (fun K hK => ?_) AllReadyH.nil; go_simp; go_at_call 44; refine (eqBell_calls _ _ _ _ _ _ _ _ _ _ _ _ hHeld.2.2.2.1 hnew hp2).mono ?_; rintro e wd ⟨rfl, hb⟩; refine hK.out _ _ (by obtain ⟨x0_, x1_, x2_, x3_, x4_, x5_, x6_, x7_, x8_, x9_, x10_, x11_, x12_, x13_⟩ := hHeld; exact ⟨x0_.trans (hb.mono x0_.size), x1_.keep hb, x2_.keep hb, x3_.keep hb, cell_keep hb x4_, cell_keep hb x5_, cell_keep hb x6_, cell_keep hb x7_, cell_keep hb x8_, cell_keep hb x9_, cell_keep hb x10_, cell_keep hb x11_, cell_keep hb x12_, cell_keep hb x13_⟩) (fun hHeld2 => ?_); clear hK K hHeld hb; have hHeld := hHeld2; clear hHeld2; (try simp only [Act.put, List.setIfInBounds_toArray, List.set_cons_zero, List.set_cons_succ]))
          refine take_yes (i := 4) (d := 76) (v := ?_) _ rfl rfl (by kernel_rfl) (by kernel_rfl) (by kernel_rfl) (fun _ _ _ _ h => h) (by rfl) ?_ (by assumption) ?_
          rotate_left 1
          · ((intro w hSw; (try dsimp only at hSw); go_simp) <;> (try with_reducible rfl))
          (try simp only [Act.put, List.setIfInBounds_toArray, List.set_cons_zero, List.set_cons_succ])
          refine wpAnyH_done (by kernel_rfl) ?_ _
          obtain ⟨z0, z1, z2, z3, z4, z5, z6, z7, z8, z9, z10, z11, z12, z13⟩ := hHeld
          go_wp2
          go_ret
          exact ⟨rfl, z0⟩
theorem own : ownKnob Try.prog.godebug = none := by kernel_rfl
theorem laidOut : laidOutB Try.prog = true := by kernel_rfl
set_option maxRecDepth 100000 in
theorem lifted (os : Os) (started : os.Started) (H : Type) (enc : TypeId × Value → H) :
    ReturnsInHanded {} Try.checked os 5 .any (Rows.fnExactAlloyOfBellSpec.pre6 enc Try.prog Try.f5 Rows.fnExactAlloyOfBellRow.domain false) (Rows.fnExactAlloyOfBellSpec.post enc Try.prog Try.f5 false true false false) := by
  refine returnsInHanded_of_change (C := Try.checked) own started (by kernel_rfl) Try.func5
    (ChangeSpec.witness6 (enc := enc) (C := Try.checked) false ⟨#[], #[.slice none 0 0, .slice none 0 0, .agg #[.string ⟨#[]⟩, .int .i64 0, .int .i64 0, .int .i64 0, .slice none 0 0]], []⟩ 8 (by kernel_rfl) (by kernel_rfl) (by kernel_rfl) (by kernel_rfl)) ?_
  intro W base args ds gs before hval0 hW hcnd _
  have hval : ∀ (j : Nat) t v, Try.f5.params[j]? = some t → args[j]? = some v → Value.okWide Try.prog W .any base t v := hval0
  have hW' := hW
  obtain ⟨p, q, hA0, hV, rfl, hfz, hnd⟩ := hW
  have hA : DataW.TrodAll enc Try.prog W 0 (fun _ => true) true Try.f5.params.toList args.toList ds p := hA0
  rw [Try.params5] at hA hval
  obtain ⟨v0, vs0, d0, ds0, p0, q0, hargs, rfl, rfl, h0, r0⟩ := trodAll_cons hA
  obtain ⟨v1, vs1, d1, ds1, p1, q1, rfl, rfl, rfl, h1, r1⟩ := trodAll_cons r0
  obtain ⟨v2, vs2, d2, ds2, p2, q2, rfl, rfl, rfl, h2, r2⟩ := trodAll_cons r1
  obtain ⟨rfl, rfl, rfl⟩ := trodAll_nil r2
  obtain rfl : args = #[v0, v1, v2] := by cases args; simp_all
  obtain ⟨rfl, rfl⟩ := trodVars_none hV
  have k0 := h0
  have lt0 : ∀ x ∈ p0, x.block < W.heap.size := by obtain ⟨m, hm⟩ := k0; exact DataW.trod_lt m _ _ _ hm
  have k1 := h1
  have lt1 : ∀ x ∈ p1, x.block < W.heap.size := by obtain ⟨m, hm⟩ := k1; exact DataW.trod_lt m _ _ _ hm
  have k2 := h2
  have lt2 : ∀ x ∈ p2, x.block < W.heap.size := by obtain ⟨m, hm⟩ := k2; exact DataW.trod_lt m _ _ _ hm
  obtain ⟨A0, n0, m0, rfl⟩ := okWide_slice Try.underlying58 (hval 0 58 v0 rfl rfl)
  obtain ⟨fu0, hf0⟩ := h0
  obtain ⟨s0_0, a0_1, a0_2, a0_3, a0_4, hr0, hn0, c0_0, c0_1, c0_2, c0_3, c0_4⟩ := openIngotS hf0
  obtain ⟨A1, n1, m1, rfl⟩ := okWide_slice Try.underlying59 (hval 1 59 v1 rfl rfl)
  obtain ⟨fu1, hf1⟩ := h1
  obtain ⟨f1, hr1, hn1, hft1⟩ := openMeltS hf1
  obtain ⟨cs2, rfl, hz2⟩ := okWide_struct Try.underlying62 (hval 2 62 v2 rfl rfl)
  obtain ⟨l2⟩ := cs2
  obtain ⟨fu2, hf2⟩ := h2
  obtain ⟨hl2, n2, hg2⟩ := fields_of Try.underlying62 (by kernel_rfl) (by kernel_rfl) hf2
  obtain ⟨c2_0, c2_1, c2_2, c2_3, c2_4, rfl⟩ := list5 hl2
  obtain ⟨y2_0, t2_0⟩ := hg2 0 _ rfl c2_0 rfl
  obtain ⟨s2_0, e2_0, _, ws2_0⟩ := DataW.trod_string Try.underlying9 t2_0
  obtain rfl := one_cell e2_0
  obtain ⟨y2_1, t2_1⟩ := hg2 1 _ rfl c2_1 rfl
  obtain ⟨a2_1, e2_1, _, wa2_1⟩ := DataW.trod_int Try.underlying2 t2_1
  obtain rfl := one_cell e2_1
  obtain ⟨y2_2, t2_2⟩ := hg2 2 _ rfl c2_2 rfl
  obtain ⟨a2_2, e2_2, _, wa2_2⟩ := DataW.trod_int Try.underlying2 t2_2
  obtain rfl := one_cell e2_2
  obtain ⟨y2_3, t2_3⟩ := hg2 3 _ rfl c2_3 rfl
  obtain ⟨a2_3, e2_3, _, wa2_3⟩ := DataW.trod_int Try.underlying2 t2_3
  obtain rfl := one_cell e2_3
  obtain ⟨y2_4, t2_4⟩ := hg2 4 _ rfl c2_4 rfl
  obtain ⟨A2_4, n2_4, m2_4, rfl⟩ := slice_cell Try.underlying60 t2_4
  obtain ⟨q2_4_0, q2_4_1, hr2_4, hn2_4, r2_4_0, r2_4_1⟩ := openShareS t2_4
  clear hA0 hval0
  refine (walk A0 n0 m0 s0_0 a0_1 a0_2 a0_3 a0_4 A1 n1 m1 f1 s2_0 a2_1 a2_2 a2_3 A2_4 n2_4 m2_4 q2_4_0 q2_4_1 W hr0 hn0 c0_0 c0_1 c0_2 c0_3 c0_4 hr1 hn1 hft1 ws2_0 wa2_1 wa2_2 wa2_3 hr2_4 hn2_4 r2_4_0 r2_4_1).mono fun e W' ⟨he, bel⟩ => ?_
  subst he
  exact ⟨_, rfl, _, _, _, [], _, [], hW', trodAll_mk1 (shut_bool Try.underlying4 _), (trodAll_cons_mk (Below.trod laidOut (by kernel_rfl) (of_decide_eq_true (by kernel_rfl)) k0 bel lt0) (trodAll_cons_mk (Below.trod laidOut (by kernel_rfl) (of_decide_eq_true (by kernel_rfl)) k1 bel lt1) (trodAll_cons_mk (Below.trod laidOut (by kernel_rfl) (of_decide_eq_true (by kernel_rfl)) k2 bel lt2) trodAll_mk0))), rfl, bel.frame _, fun h => by cases h⟩
set_option maxHeartbeats 20000000 in
theorem closed : joinedFacts Try.pinned.checked.prog 5 Try.f5 Rows.fnExactAlloyOfBellSpec Rows.fnExactAlloyOfBellRow = true := by
  unfold joinedFacts
  simp only [Bool.and_eq_true]
  and_intros
  all_goals (as_aux_lemma => kernel_rfl)
theorem proved : Rows.FnExactAlloyOfBellSaid :=
  OpenClaim.holds_of_wide 5 Try.f5 rfl rfl rfl rfl rfl rfl rfl ⟨rfl, rfl, rfl, rfl, rfl⟩ rfl rfl rfl rfl rfl (by kernel_rfl) Try.func5 closed
    (of_decide_eq_true (by kernel_rfl)) (by unfold Func.isWrapper; first | (rw [if_pos (by decide +kernel)]; kernel_rfl) | (rw [if_neg (by decide +kernel)]; exact ⟨rfl, rfl⟩))
    (fun os started H enc _ => lifted os started H enc)
end Go.Proofs.Ytkilfapknemjhaa.FnExactAlloyOfBell
