/- Copies of bells, each with shares of its own: copyBells (the program's), l18Own (the reference's). -/
import Derived.Test.YticnpibkpfpojaaGreatDoorBellO
import Derived.Lib.SliceRun
namespace Go.Proofs.YticnpibkpfpojaaGreatDoor
set_option linter.unusedVariables false
set_option linter.unusedSimpArgs false
open Go.RowKit

def shW (ss : Nat → ByteArray) (ms : Nat → Int) : Nat → List Value
  | 0 => []
  | k + 1 => shW ss ms k ++ [.string (ss k), .int .i64 (ms k)]
theorem shW_len (ss : Nat → ByteArray) (ms : Nat → Int) : ∀ k, (shW ss ms k).length = k * 2
  | 0 => rfl
  | k + 1 => by rw [shW, List.length_append, shW_len ss ms k]; simp; omega
theorem shW_at (ss : Nat → ByteArray) (ms : Nat → Int) : ∀ k i, i < k → (shW ss ms k)[i * 2]? = some (.string (ss i)) ∧ (shW ss ms k)[i * 2 + 1]? = some (.int .i64 (ms i))
  | 0, i, h => absurd h (Nat.not_lt_zero _)
  | k + 1, i, h => by
    have hl := shW_len ss ms k
    rcases Nat.lt_or_ge i k with q | q
    · have ih := shW_at ss ms k i q
      rw [shW, List.getElem?_append_left (by omega), List.getElem?_append_left (by omega)]
      exact ih
    · obtain rfl : i = k := by omega
      rw [shW, List.getElem?_append_right (by omega), List.getElem?_append_right (by omega), hl, show i * 2 - i * 2 = 0 by omega, show i * 2 + 1 - i * 2 = 1 by omega]
      exact ⟨rfl, rfl⟩
theorem shW_one (ss : Nat → ByteArray) (ms : Nat → Int) (k : Nat) : ∀ u ∈ shW ss ms k, u.oneCell' = true := by
  induction k with
  | zero => intro u hu; cases hu
  | succ k ih =>
    intro u hu
    rw [shW] at hu
    rcases List.mem_append.1 hu with h | h
    · exact ih u h
    · simp at h
      rcases h with rfl | rfl <;> rfl
theorem shW_news {w : World} {b o n : Nat} {ss : Nat → ByteArray} {ms : Nat → Int} (h : ∀ i, i < n → ShareAt w b (o + i * 2) (ss i) (ms i)) : ∀ j u, (shW ss ms n)[j]? = some u → w.cell? ((⟨b, o, none⟩ : Addr).add j) = some u := fun j u hj => by
  have hl := shW_len ss ms n
  have hjn : j < n * 2 := by
    rcases Nat.lt_or_ge j (n * 2) with q | q
    · exact q
    · rw [List.getElem?_eq_none (by omega)] at hj; cases hj
  have hadd : (⟨b, o, none⟩ : Addr).add j = ⟨b, o + j, none⟩ := by unfold Addr.add; split <;> simp_all
  rw [hadd]
  obtain ⟨c0, c1⟩ := h (j / 2) (by omega)
  obtain ⟨d0, d1⟩ := shW_at ss ms n (j / 2) (by omega)
  rcases (show j = j / 2 * 2 ∨ j = j / 2 * 2 + 1 by omega) with q | q
  · rw [q] at hj ⊢
    rw [d0] at hj
    rw [← Option.some.inj hj]; exact c0
  · rw [q] at hj ⊢
    rw [d1] at hj
    rw [← Option.some.inj hj]; exact c1
theorem shareOwn_of {w : World} {base n : Nat} {v : Value} {ss : Nat → ByteArray} {ms : Nat → Int} (h : w.ownsRow base 41 2 v n (shW ss ms n)) (hn : 0 < n) : ∃ G c, v = .slice (some ⟨G, 0, none⟩) n c ∧ base ≤ G ∧ G < w.heap.size ∧ ShareOwnC w n ss ms G c := by
  obtain ⟨g, cap, cur, hv, hg, hb, hc, hm, hs, hx⟩ := own_blk h hn
  refine ⟨g, cap, hv, hg, hb.lt, cur, hb, hs, hc, hm, fun i hi => ?_⟩
  obtain ⟨d0, d1⟩ := shW_at ss ms n i hi
  exact ⟨(hx _ (by omega)).trans d0, (hx _ (by omega)).trans d1⟩
theorem ShareI_info : (Tryz.prog.info? 41).map (fun i => (i.zero, i.size, i.bytes)) = some (some (.agg #[.string ⟨#[]⟩, .int .i64 0]), 2, 24) := by kernel_rfl
theorem BellI_info : (Tryz.prog.info? 28).map (fun i => (i.zero, i.size, i.bytes)) = some (some (.agg #[.string ⟨#[]⟩, .int .i64 0, .int .i64 0, .int .i64 0, .slice none 0 0]), 5, 64) := by kernel_rfl
set_option maxRecDepth 20000 in
set_option maxHeartbeats 2000000 in
theorem cloneShares_calls (A : Option Addr) (n c : Nat) (ss : Nat → ByteArray) (ms : Nat → Int) (w : World) (h : ShareRow w A n ss ms) (h0 : 0 < n) (hn : n ≤ 1048576) :
    Calls Tryz.prog 58 #[.slice A n c] w fun e w' => ∃ G c', e = .returned (.slice (some ⟨G, 0, none⟩) n c') ∧ Below w.heap.size w w' ∧ w.heap.size ≤ G ∧ G < w'.heap.size ∧ ShareOwnC w' n ss ms G c' := by
  obtain ⟨i0, hi, hz0, hz1, hz2⟩ := info_parts ShareI_info
  obtain ⟨b, o, rfl, hrow⟩ := h h0
  have HL0 : Hid ((w.alloc (.cells #[] 41)).ownsRow w.heap.size 41 2 (.slice (some ⟨w.heap.size, 0, none⟩) 0 0) 0 []) := Lib.hid (World.ownsRow_lit (base := w.heap.size) (e := 41) (size := 2) w #[] 0 (Nat.le_refl _) (by unfold maxLen; omega) rfl)
  have HBA := Lib.hid ((Below.refl w.heap.size w).alloc (Nat.le_refl _) (.cells #[] 41))
  have HN := Lib.hid (shW_news (w := w.alloc (.cells #[] 41)) (fun i hi => (hrow i hi).below HBA.out (Nat.le_refl _)))
  have HLL := Lib.hid (shW_len ss ms n)
  have q36 : ∀ (w : World) (a : Option Addr) (n c n' c' : Nat), (binOp .eql 26 (.slice a n c) (.slice none n' c')).run Tryz.prog w = .ok (.bool a.isNone) w := fun w a n c n' c' => Lib.run_eql_slice_nil w _ _ a n c n' c' Tryz.underlying26
  clear hrow h
  go_enter Tryz.func58, Tryz.ntmps58
  go_wp2_with (at_builtin; refine wpList_append_own _ rfl _ _ 26 rfl w.heap.size 41 i0 (.agg #[.string ⟨#[]⟩, .int .i64 0]) 2 24 Tryz.underlying26 hi hz0 hz1 hz2 rfl (by decide) _ _ _ rfl HL0.out ⟨b, o, none⟩ n c (shW ss ms n) rfl HLL.out HN.out (shW_one ss ms n) (by unfold maxLen; omega) (by omega) (by simp) ?_; intro v' w1 hown' hgrow _; rw [Nat.zero_add, List.nil_append] at hown'; obtain ⟨G, c', rfl, h1, h2, h3⟩ := shareOwn_of hown' h0; have HB1 := Lib.hid (HBA.out.grown hgrow (by simp) (fun k hk => by have := (HL0.out.lt k hk).1; omega)); have HSO := Lib.hid h3; clear hown' hgrow h3)
  go_ret
  exact ⟨G, c', rfl, HB1.out, h1, h2, HSO.out⟩
theorem BellsX.far {w : World} {base top k : Nat} {xs : List Value} {f : Nat → BellV} {p : Addr} (h : BellsX w base top xs k f) (hp : top ≤ p.block) (u : Value) : BellsX (w.setCell p u) base top xs k f := by
  obtain ⟨h1, gs, cs, h2, h3⟩ := h
  refine ⟨h1, gs, cs, fun i hi => ?_, h3⟩
  obtain ⟨a, a4, a5, a6, a7⟩ := h2 i hi
  exact ⟨a, a4, a5, a6, a7.same (Below.heap_setCell w p u _ (by omega))⟩
theorem own_farX {w : World} {base top : Nat} {e : TypeId} {size n : Nat} {v : Value} {xs : List Value} {p : Addr} (h : w.ownsRow base e size v n xs) (hl : ∀ k, v.ownBlock = some k → k < top) (hp : top ≤ p.block) (u : Value) : (w.setCell p u).ownsRow base e size v n xs :=
  h.kept (row := some p.block) (gb_set (World.grownBy.refl _ _) rfl u) (by
    cases hb : v.ownBlock with
    | none => exact .inl rfl
    | some k => exact .inr fun e => by have := hl k hb; injection e with e; omega)
set_option maxRecDepth 20000 in
set_option maxHeartbeats 4000000 in
theorem copyBells_calls (A : Option Addr) (n c : Nat) (f : Nat → BellV) (w : World) (h : BellRow w A n f) (hf : ∀ i, i < n → 0 < (f i).n ∧ (f i).n ≤ 1048576) (hn : n ≤ 1048576) :
    Calls Tryz.prog 26 #[.slice A n c] w fun e w' => ∃ v xs, e = .returned v ∧ w'.ownsRow w.heap.size 28 5 v n xs ∧ BellsX w' w.heap.size w'.heap.size xs n f ∧ Below w.heap.size w w' := by
  obtain ⟨i0, hi, hz0, hz1, hz2⟩ := info_parts BellI_info
  have H := Lib.hid h
  have HF := Lib.hid hf
  clear h hf
  go_enter Tryz.func26, Tryz.ntmps26
  go_wp2
  go_loopw [8, 3] (fun vi v wr => ∃ (k : Nat) (xs : List Value), k ≤ n ∧ vi = .int .i64 k ∧ Hid (wr.ownsRow w.heap.size 28 5 v k xs) ∧ Hid (BellsX wr w.heap.size wr.heap.size xs k f) ∧ Below w.heap.size w wr) (fun vi _ _ => n - (intOf vi).toNat)
  case atStart => exact ⟨0, [], by omega, rfl, Lib.hid (World.ownsRow_nil _ _ _ _), Lib.hid (BellsX.nil _ _ _ _), Below.refl _ _⟩
  case round =>
    obtain ⟨k, xs, hk, rfl, hown, hbx, hbr⟩ := hrel
    by_cases hlt : k < n
    · obtain ⟨b, o, rfl, hrow⟩ := H.out (by omega)
      obtain ⟨AK, CK, c0, c1, c2, c3, c4, c5⟩ := (hrow k hlt).keep hbr
      obtain ⟨hp, hq⟩ := HF.out k hlt
      have C5 := Lib.hid c5
      have HR := Lib.hid hrow
      have hbs := hbr.size
      have hal := (Below.refl wr.heap.size wr).alloc (Nat.le_refl _) (.cells #[.string (f k).id, .int .i64 (f k).no, .int .i64 (f k).ma, .int .i64 (f k).fe, .slice AK (f k).n CK] 28)
      have HAL := Lib.hid hal
      have R1 := Lib.hid (Blk.new wr 28 #[.string (f k).id, .int .i64 (f k).no, .int .i64 (f k).ma, .int .i64 (f k).fe, .slice AK (f k).n CK])
      clear hrow c5 hal
      go_wp2_with fail
      go_at_call 58
      refine (cloneShares_calls AK (f k).n CK (f k).ss (f k).ms _ (C5.out.below HAL.out (Nat.le_refl _)) hp hq).mono ?_
      rintro e w1 ⟨G, c9, rfl, hb, g1, g2, hso⟩
      have R2 := Lib.hid (R1.out.keep hb)
      have hb1 := HAL.out.trans (hb.mono HAL.out.size)
      have own1 := Lib.hid (own_keep hown.out hb1)
      have bx1 := Lib.hid (hbx.out.keep hb1)
      have br1 := Lib.hid (hbr.trans (hb1.mono hbs))
      have hs1 := hb1.size
      have HSO := Lib.hid hso
      simp at g1
      have HLT := Lib.hid own1.out.lt
      have HLT0 := Lib.hid hown.out.lt
      have x0 : w1.cell? ⟨wr.heap.size, 0, none⟩ = some (.string (f k).id) := (R2.out.cell 0).trans rfl
      have x1 : w1.cell? ⟨wr.heap.size, 1, none⟩ = some (.int .i64 (f k).no) := (R2.out.cell 1).trans rfl
      have x2 : w1.cell? ⟨wr.heap.size, 2, none⟩ = some (.int .i64 (f k).ma) := (R2.out.cell 2).trans rfl
      have x3 : w1.cell? ⟨wr.heap.size, 3, none⟩ = some (.int .i64 (f k).fe) := (R2.out.cell 3).trans rfl
      have x4 : w1.cell? ⟨wr.heap.size, 4, none⟩ = some (.slice AK (f k).n CK) := (R2.out.cell 4).trans rfl
      have xf := R2.out.frozen
      clear hb hb1 hso hown hbx hbr c0 c1 c2 c3 c4
      have OS := Lib.hid (own_farX (p := ⟨wr.heap.size, 4, none⟩) own1.out (top := wr.heap.size) (fun z hz => (HLT0.out z hz).2) (Nat.le_refl _) (.slice (some ⟨G, 0, none⟩) (f k).n c9))
      have BS := Lib.hid (bx1.out.far (p := ⟨wr.heap.size, 4, none⟩) (Nat.le_refl _) (.slice (some ⟨G, 0, none⟩) (f k).n c9))
      have SS := Lib.hid (HSO.out.same (Below.heap_setCell w1 ⟨wr.heap.size, 4, none⟩ (.slice (some ⟨G, 0, none⟩) (f k).n c9) G (by show G ≠ wr.heap.size; omega)))
      have BRS := Lib.hid (br1.out.setCell (p := ⟨wr.heap.size, 4, none⟩) hbs (.slice (some ⟨G, 0, none⟩) (f k).n c9))
      have OLT := Lib.hid OS.out.lt
      have NEWS := Lib.hid (show ∀ j u, (bellC (f k) (.slice (some ⟨G, 0, none⟩) (f k).n c9))[j]? = some u → ((w1.setCell ⟨wr.heap.size, 4, none⟩ (.slice (some ⟨G, 0, none⟩) (f k).n c9)).alloc (.cells #[.string (f k).id, .int .i64 (f k).no, .int .i64 (f k).ma, .int .i64 (f k).fe, (.slice (some ⟨G, 0, none⟩) (f k).n c9)] 28)).cell? ((⟨w1.heap.size, 0, none⟩ : Addr).add j) = some u by
        have q1 := World.news_of_block (Blk.new (w1.setCell ⟨wr.heap.size, 4, none⟩ (.slice (some ⟨G, 0, none⟩) (f k).n c9)) 28 #[.string (f k).id, .int .i64 (f k).no, .int .i64 (f k).ma, .int .i64 (f k).fe, (.slice (some ⟨G, 0, none⟩) (f k).n c9)])
        rw [show (w1.setCell ⟨wr.heap.size, 4, none⟩ (.slice (some ⟨G, 0, none⟩) (f k).n c9)).heap.size = w1.heap.size by simp] at q1
        exact q1)
      go_wp2_with (at_builtin; refine wpList_append_own _ rfl _ _ 25 rfl w.heap.size 28 i0 (.agg #[.string ⟨#[]⟩, .int .i64 0, .int .i64 0, .int .i64 0, .slice none 0 0]) 5 64 Tryz.underlying25 hi hz0 hz1 hz2 rfl (by decide) _ _ _ rfl (OS.out.alloc _) ⟨w1.heap.size, 0, none⟩ 1 1 (bellC (f k) (.slice (some ⟨G, 0, none⟩) (f k).n c9)) rfl rfl NEWS.out (fun u hu => by simp [bellC] at hu; rcases hu with rfl | rfl | rfl | rfl | rfl <;> rfl) (by unfold maxLen; omega) (by omega) (by simp; omega) ?_; intro v9 w9 hown' hgrow _; refine Hid.out ?_)
      refine Lib.hid ?_
      have hg9 : ((w1.setCell ⟨wr.heap.size, 4, none⟩ (.slice (some ⟨G, 0, none⟩) (f k).n c9)).alloc (.cells (bellC (f k) (.slice (some ⟨G, 0, none⟩) (f k).n c9)).toArray 28)).grownBy w9 _ := hgrow
      have HOWN := Lib.hid hown'
      have hgs : w1.heap.size ≤ w9.heap.size := Nat.le_trans (show w1.heap.size ≤ ((w1.setCell ⟨wr.heap.size, 4, none⟩ (.slice (some ⟨G, 0, none⟩) (f k).n c9)).alloc _).heap.size by simp) hgrow.size
      have HBX := Lib.hid (BS.out.snoc (c := c9) (top' := w9.heap.size) OS.out SS.out hbs (by omega) (by omega) hgrow)
      have HB9 := Lib.hid ((BRS.out.alloc BRS.out.size _).grown hgrow (by have := BRS.out.size; simp at this ⊢; omega) (fun z hz => (OLT.out z hz).1))
      clear hown' hgrow hg9
      go_wp2
      go_roundw
      case rel => exact ⟨k + 1, _, by omega, by go_num, HOWN, HBX, HB9.out⟩
      case measure => simp [intOf]; omega
    · obtain rfl : n = k := by omega
      go_wp2
      go_ret
      exact ⟨_, xs, rfl, hown.out, hbx.out, hbr⟩
theorem cell_alX {W : World} {a : Addr} {v : Value} (h : W.cell? a = some v) (o : Obj) : (W.alloc o).cell? a = some v := (Go.World.cell?_alloc_some _ _ _ (by rw [h]; rfl)).trans h
set_option maxRecDepth 20000 in
set_option maxHeartbeats 4000000 in
theorem l18Own_calls (b o : Nat) (x : BellV) (w : World) (h : BellAt w b o x) (h0 : 0 < x.n) (hn : x.n ≤ 1048576) :
    Calls Tryz.prog 102 #[.pointer (some ⟨b, o, none⟩)] w fun e w' => ∃ G c', e = .returned (.agg #[.string x.id, .int .i64 x.no, .int .i64 x.ma, .int .i64 x.fe, .slice (some ⟨G, 0, none⟩) x.n c']) ∧ Below w.heap.size w w' ∧ w.heap.size ≤ G ∧ G < w'.heap.size ∧ ShareOwnC w' x.n x.ss x.ms G c' := by
  obtain ⟨i0, hi, hz0, hz1, hz2⟩ := info_parts ShareI_info
  obtain ⟨A, c, c0, c1, c2, c3, c4, c5⟩ := h
  obtain ⟨b2, o2, rfl, hrow⟩ := c5 h0
  have HROW := Lib.hid hrow
  have HLL := Lib.hid (shW_len x.ss x.ms x.n)
  clear hrow c5
  have d0 := cell_alX c0 (.cells #[.string ⟨#[]⟩, .int .i64 0, .int .i64 0, .int .i64 0, .slice none 0 0] 28)
  have d1 := cell_alX c1 (.cells #[.string ⟨#[]⟩, .int .i64 0, .int .i64 0, .int .i64 0, .slice none 0 0] 28)
  have d2 := cell_alX c2 (.cells #[.string ⟨#[]⟩, .int .i64 0, .int .i64 0, .int .i64 0, .slice none 0 0] 28)
  have d3 := cell_alX c3 (.cells #[.string ⟨#[]⟩, .int .i64 0, .int .i64 0, .int .i64 0, .slice none 0 0] 28)
  have d4 := cell_alX c4 (.cells #[.string ⟨#[]⟩, .int .i64 0, .int .i64 0, .int .i64 0, .slice none 0 0] 28)
  have d5 := cell_alX (cell_alX d4 (.cells #[.string x.id, .int .i64 x.no, .int .i64 x.ma, .int .i64 x.fe, .slice (some ⟨b2, o2, none⟩) x.n c] 28)) (.cells #[] 41)
  have HW : Hid (Below w.heap.size w (((w.alloc (.cells #[.string ⟨#[]⟩, .int .i64 0, .int .i64 0, .int .i64 0, .slice none 0 0] 28)).alloc (.cells #[.string x.id, .int .i64 x.no, .int .i64 x.ma, .int .i64 x.fe, .slice (some ⟨b2, o2, none⟩) x.n c] 28)).alloc (.cells #[] 41))) := Lib.hid (((((Below.refl w.heap.size w).alloc (Nat.le_refl _) (.cells #[.string ⟨#[]⟩, .int .i64 0, .int .i64 0, .int .i64 0, .slice none 0 0] 28)).alloc (by simp) (.cells #[.string x.id, .int .i64 x.no, .int .i64 x.ma, .int .i64 x.fe, .slice (some ⟨b2, o2, none⟩) x.n c] 28))).alloc (by simp; omega) (.cells #[] 41))
  have HB0 := Lib.hid (((Blk.new w 28 #[.string ⟨#[]⟩, .int .i64 0, .int .i64 0, .int .i64 0, .slice none 0 0]).alloc (.cells #[.string x.id, .int .i64 x.no, .int .i64 x.ma, .int .i64 x.fe, .slice (some ⟨b2, o2, none⟩) x.n c] 28)).alloc (.cells #[] 41))
  have HB1 := Lib.hid ((Blk.new2 w (.cells #[.string ⟨#[]⟩, .int .i64 0, .int .i64 0, .int .i64 0, .slice none 0 0] 28) 28 #[.string x.id, .int .i64 x.no, .int .i64 x.ma, .int .i64 x.fe, .slice (some ⟨b2, o2, none⟩) x.n c]).alloc (.cells #[] 41))
  have HL0 : Hid ((((w.alloc (.cells #[.string ⟨#[]⟩, .int .i64 0, .int .i64 0, .int .i64 0, .slice none 0 0] 28)).alloc (.cells #[.string x.id, .int .i64 x.no, .int .i64 x.ma, .int .i64 x.fe, .slice (some ⟨b2, o2, none⟩) x.n c] 28)).alloc (.cells #[] 41)).ownsRow (w.heap.size + 1 + 1) 41 2 (.slice (some ⟨w.heap.size + 1 + 1, 0, none⟩) 0 0) 0 []) := Lib.hid (by
    have q := World.ownsRow_lit (base := w.heap.size + 1 + 1) (e := 41) (size := 2) ((w.alloc (.cells #[.string ⟨#[]⟩, .int .i64 0, .int .i64 0, .int .i64 0, .slice none 0 0] 28)).alloc (.cells #[.string x.id, .int .i64 x.no, .int .i64 x.ma, .int .i64 x.fe, .slice (some ⟨b2, o2, none⟩) x.n c] 28)) #[] 0 (by simp) (by unfold maxLen; omega) rfl
    rw [show ((w.alloc (.cells #[.string ⟨#[]⟩, .int .i64 0, .int .i64 0, .int .i64 0, .slice none 0 0] 28)).alloc (.cells #[.string x.id, .int .i64 x.no, .int .i64 x.ma, .int .i64 x.fe, .slice (some ⟨b2, o2, none⟩) x.n c] 28)).heap.size = w.heap.size + 1 + 1 by simp] at q
    exact q)
  have HN := Lib.hid (shW_news (w := ((w.alloc (.cells #[.string ⟨#[]⟩, .int .i64 0, .int .i64 0, .int .i64 0, .slice none 0 0] 28)).alloc (.cells #[.string x.id, .int .i64 x.no, .int .i64 x.ma, .int .i64 x.fe, .slice (some ⟨b2, o2, none⟩) x.n c] 28)).alloc (.cells #[] 41)) (fun i hi => (HROW.out i hi).below HW.out (Nat.le_refl _)))
  clear HROW
  go_enter Tryz.func102, Tryz.ntmps102
  go_wp2_with (at_builtin; refine wpList_append_own _ rfl _ _ 26 rfl (w.heap.size + 1 + 1) 41 i0 (.agg #[.string ⟨#[]⟩, .int .i64 0]) 2 24 Tryz.underlying26 hi hz0 hz1 hz2 rfl (by decide) _ _ _ rfl HL0.out ⟨b2, o2, none⟩ x.n c (shW x.ss x.ms x.n) rfl HLL.out HN.out (shW_one x.ss x.ms x.n) (by unfold maxLen; omega) (by omega) (by simp) ?_; intro v' w1 hown' hgrow _; refine Hid.out ?_)
  refine Lib.hid ?_
  rw [Nat.zero_add, List.nil_append] at hown'
  obtain ⟨G, c', rfl, h1, h2, h3⟩ := shareOwn_of hown' h0
  have HB9 := Lib.hid (HW.out.grown hgrow (by simp; omega) (fun k hk => by have := (HL0.out.lt k hk).1; omega))
  have R0 := Lib.hid ((hgrow.block _ HB0.out.lt (fun e => by have := (HL0.out.lt _ e.symm).1; omega)).trans HB0.out)
  have R1 := Lib.hid ((hgrow.block _ HB1.out.lt (fun e => by have := (HL0.out.lt _ e.symm).1; omega)).trans HB1.out)
  have HSO := Lib.hid h3
  clear hown' hgrow h3 c0 c1 c2 c3 c4 d0 d1 d2 d3 d4 d5
  have x0 : w1.cell? ⟨w.heap.size + 1, 0, none⟩ = some (.string x.id) := (Blk.cell R1.out 0).trans rfl
  have x1 : w1.cell? ⟨w.heap.size + 1, 1, none⟩ = some (.int .i64 x.no) := (Blk.cell R1.out 1).trans rfl
  have x2 : w1.cell? ⟨w.heap.size + 1, 2, none⟩ = some (.int .i64 x.ma) := (Blk.cell R1.out 2).trans rfl
  have x3 : w1.cell? ⟨w.heap.size + 1, 3, none⟩ = some (.int .i64 x.fe) := (Blk.cell R1.out 3).trans rfl
  have x4 : w1.cell? ⟨w.heap.size + 1, 4, none⟩ = some (.slice (some ⟨b2, o2, none⟩) x.n c) := (Blk.cell R1.out 4).trans rfl
  have xf := Blk.frozen R1.out
  have y0 : w1.cell? ⟨w.heap.size, 0, none⟩ = some (.string ⟨#[]⟩) := (Blk.cell R0.out 0).trans rfl
  have y1 : w1.cell? ⟨w.heap.size, 1, none⟩ = some (.int .i64 0) := (Blk.cell R0.out 1).trans rfl
  have y2 : w1.cell? ⟨w.heap.size, 2, none⟩ = some (.int .i64 0) := (Blk.cell R0.out 2).trans rfl
  have y3 : w1.cell? ⟨w.heap.size, 3, none⟩ = some (.int .i64 0) := (Blk.cell R0.out 3).trans rfl
  have y4 : w1.cell? ⟨w.heap.size, 4, none⟩ = some (.slice none 0 0) := (Blk.cell R0.out 4).trans rfl
  have yf := Blk.frozen R0.out
  go_wp2
  refine bodyPost_ret (v := .agg #[.string x.id, .int .i64 x.no, .int .i64 x.ma, .int .i64 x.fe, .slice (some ⟨G, 0, none⟩) x.n c']) (by simp [results, Tryz.results102, go_sem, y0, y1, y2, y3, y4]) rfl ⟨G, c', rfl, ?_, by omega, by simp [World.setCell]; omega, ?_⟩
  · repeat (refine Below.setCell ?_ (by simp <;> omega) _)
    exact HB9.out
  · refine HSO.out.same ?_
    repeat (refine (Below.heap_setCell _ _ _ _ (by simp <;> omega)).trans ?_)
    rfl
end Go.Proofs.YticnpibkpfpojaaGreatDoor
