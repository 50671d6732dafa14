/- slices.Concat over bells: a list and one bell more. -/
import Derived.Test.YticnpibkpfpojaaAddB
import Derived.Lib.AppendZerosOnto
import Derived.Deep.Upon
namespace Go.Proofs.Yticnpibkpfpojaa
set_option linter.unusedVariables false
open Go.RowKit

set_option maxRecDepth 20000 in
set_option maxHeartbeats 4000000 in
theorem growBells_calls (n : Nat) (w : World) (hn : n ≤ 1048577) (h0 : 0 < n) :
    Calls Try.prog 56 #[.slice none 0 0, .int .i64 n] w fun e w' => ∃ v, e = .returned v ∧ w'.ownsRow w.heap.size 38 5 v 0 [] ∧ Below w.heap.size w w' := by
  obtain ⟨i0, hi, hz0, hz1, hz2⟩ := info_parts BellI_info
  have hrz := fun ty => Lib.run_append_nil_zeros (P := Try.prog) w 30 3 ty 38 i0 _ .i64 .i64 Try.underlying30 Try.underlying3 hi hz0 n h0 (by rw [hz1]; decide) (by omega) (by rw [hz2]; omega)
  obtain ⟨G, hG⟩ : ∃ G, G = grownCap w n 0 38 := ⟨_, rfl⟩
  have hGn : n ≤ G := by rw [hG]; exact grownCap_ge w _ _ _
  have hG63 : G ≤ maxLen := by rw [hG]; exact grownCap_le_maxLen w n 0 38 (by unfold maxLen; omega)
  obtain ⟨ROW, hROW⟩ : ∃ ROW, ROW = Builtin.zeroCells ((.agg #[.string ⟨#[]⟩, .int .i64 0, .int .i64 0, .int .i64 0, .slice none 0 0]) : Value).cells n ++ Builtin.zeroCells ((.agg #[.string ⟨#[]⟩, .int .i64 0, .int .i64 0, .int .i64 0, .slice none 0 0]) : Value).cells (G - n) := ⟨_, rfl⟩
  rw [← hG, ← hROW] at hrz
  have hRl : ROW.size = G * 5 := by
    rw [hROW]
    simp [Builtin.zeroCells, Value.cells]
    omega
  obtain ⟨W1, hW1⟩ : ∃ W1, W1 = w.drew.alloc (.cells ROW 38) := ⟨_, rfl⟩
  rw [← hW1] at hrz
  have HG1 : Hid (W1.heap[w.heap.size]? = some (.cells ROW 38 (0, 0))) := Lib.hid (by rw [hW1]; exact heap_alloc_new w.drew _)
  have HB1 : Hid (Below w.heap.size w W1) := Lib.hid (by rw [hW1]; exact (below_drewN (Below.refl w.heap.size w) 1).alloc (Nat.le_refl _) _)
  have HRZ := Lib.hid hrz
  have HRL := Lib.hid hRl
  have hG64 := hG63
  unfold maxLen at hG64
  clear hG hROW hW1 hrz hRl
  go_enter Try.func56, Try.ntmps56
  go_wp2_with (at_builtin; refine Lib.wpList_append_run _ rfl _ _ _ _ rfl _ _ rfl rfl _ _ (HRZ.out _) ?_)
  go_ret
  exact ⟨_, rfl, ⟨rfl, .inr ⟨w.heap.size, G, ROW, rfl, Nat.le_refl _, HG1.out, Nat.zero_le _, hG63, HRL.out, by simp⟩⟩, HB1.out⟩
def rowL (w : World) (b o N : Nat) : List Value := (List.range N).map fun j => (w.cell? ⟨b, o + j, none⟩).getD (.int .i64 0)
theorem rowL_len (w : World) (b o N : Nat) : (rowL w b o N).length = N := by simp [rowL]
theorem rowL_at {w : World} {b o N j : Nat} {v : Value} (h : j < N) (hc : w.cell? ⟨b, o + j, none⟩ = some v) : (rowL w b o N)[j]? = some v := by
  simp [rowL, h, hc]
theorem bells_some {w : World} {b o n : Nat} {f : Nat → BellV} (h : ∀ i, i < n → BellAt w b (o + i * 5) (f i)) (j : Nat) (hj : j < n * 5) : ∃ v, w.cell? ⟨b, o + j, none⟩ = some v ∧ v.oneCell' = true := by
  obtain ⟨AK, CK, c0, c1, c2, c3, c4, -⟩ := h (j / 5) (by omega)
  rcases (show j = j / 5 * 5 ∨ j = j / 5 * 5 + 1 ∨ j = j / 5 * 5 + 2 ∨ j = j / 5 * 5 + 3 ∨ j = j / 5 * 5 + 4 by omega) with q | q | q | q | q
  · exact ⟨_, by rw [q]; exact c0, rfl⟩
  · exact ⟨_, by rw [q]; exact c1, rfl⟩
  · exact ⟨_, by rw [q]; exact c2, rfl⟩
  · exact ⟨_, by rw [q]; exact c3, rfl⟩
  · exact ⟨_, by rw [q]; exact c4, rfl⟩
theorem rowL_news {w : World} {b o n : Nat} {f : Nat → BellV} (h : ∀ i, i < n → BellAt w b (o + i * 5) (f i)) : ∀ j u, (rowL w b o (n * 5))[j]? = some u → w.cell? ((⟨b, o, none⟩ : Addr).add j) = some u := fun j u hj => by
  have hjn : j < n * 5 := by
    rcases Nat.lt_or_ge j (n * 5) with q | q
    · exact q
    · rw [List.getElem?_eq_none (by rw [rowL_len]; omega)] at hj; cases hj
  have hadd : (⟨b, o, none⟩ : Addr).add j = ⟨b, o + j, none⟩ := by unfold Addr.add; split <;> simp_all
  obtain ⟨v, hv, -⟩ := bells_some h j hjn
  rw [hadd, hv]
  rw [rowL_at hjn hv] at hj
  exact hj
theorem rowL_one {w : World} {b o n : Nat} {f : Nat → BellV} (h : ∀ i, i < n → BellAt w b (o + i * 5) (f i)) : ∀ u ∈ rowL w b o (n * 5), u.oneCell' = true := fun u hu => by
  obtain ⟨j, hj, rfl⟩ := List.mem_map.1 hu
  obtain ⟨v, hv, h1⟩ := bells_some h j (List.mem_range.1 hj)
  rw [hv]; exact h1
/-- the row that holds a list's bells and one more -/
theorem concRow {w w' : World} {base b o n C1 : Nat} {v : Value} {f : Nat → BellV} {x : BellV} {C : Option Addr} (ho : w'.ownsRow base 38 5 v (n + 1) (rowL w b o (n * 5) ++ bellC x (.slice C x.n C1))) (h : ∀ i, i < n → BellAt w b (o + i * 5) (f i)) (hsh : ShareRow w C x.n x.ss x.ms) (hb : Below w.heap.size w w') : ∃ A c, v = .slice A (n + 1) c ∧ BellRow w' A (n + 1) (insF f n x) := by
  obtain ⟨g, cap, cur, hv, hg, hbk, hc, hm, hs, hx⟩ := own_blk ho (by omega)
  refine ⟨_, cap, hv, fun _ => ⟨g, 0, rfl, fun i hi => ?_⟩⟩
  rw [Nat.zero_add]
  have hlen := rowL_len w b o (n * 5)
  rcases Nat.lt_or_ge i n with q | q
  · rw [insF_lo q]
    obtain ⟨AK, CK, c0, c1, c2, c3, c4, c5⟩ := h i q
    have e : ∀ r u, r < 5 → w.cell? ⟨b, o + i * 5 + r, none⟩ = some u → w'.cell? ⟨g, i * 5 + r, none⟩ = some u := fun r u hr hu => by
      rw [hbk.cell, hx _ (by omega), List.getElem?_append_left (by omega)]
      exact rowL_at (by omega) (by rw [← Nat.add_assoc]; exact hu)
    exact ⟨AK, CK, e 0 _ (by omega) c0, e 1 _ (by omega) c1, e 2 _ (by omega) c2, e 3 _ (by omega) c3, e 4 _ (by omega) c4, ShareRow.keep c5 hb⟩
  · obtain rfl : i = n := by omega
    rw [insF_at]
    have e : ∀ r u, r < 5 → (bellC x (.slice C x.n C1))[r]? = some u → w'.cell? ⟨g, i * 5 + r, none⟩ = some u := fun r u hr hu => by
      rw [hbk.cell, hx _ (by omega), List.getElem?_append_right (by omega), hlen, show i * 5 + r - i * 5 = r by omega]
      exact hu
    exact ⟨C, C1, e 0 _ (by omega) rfl, e 1 _ (by omega) rfl, e 2 _ (by omega) rfl, e 3 _ (by omega) rfl, e 4 _ (by omega) rfl, ShareRow.keep hsh hb⟩
theorem src_nothing {P : Program} (size : Nat) {tx e : TypeId} (h : P.underlying tx = some (.slice e)) (A : Option Addr) (c : Nat) (w : World) : Src P size tx (.slice A 0 c) 0 [] w := by
  refine ⟨.inl ⟨e, h⟩, fun w' => by simp [Builtin.lenOf], ?_, ?_, by simp, fun u hu => by cases hu⟩
  · cases A with
    | none => simp [Builtin.firstCells]
    | some a => exact run_firstCells_some w size 0 a 0 c [] (by simp) (fun j v hj => by simp at hj)
  · cases A with
    | none => simp [Builtin.firstCells]
    | some a => exact run_firstCells_some w.drew size 0 a 0 c [] (by simp) (fun j v hj => by simp at hj)
theorem own_zero {w : World} {base e size : Nat} {v : Value} (h : w.ownsRow base e size v 0 []) : ∃ B cap, v = .slice B 0 cap := by
  rcases h.2 with ⟨q, -⟩ | ⟨g, cap, cur, q, -⟩
  · exact ⟨_, _, q⟩
  · exact ⟨_, _, q⟩
set_option maxRecDepth 20000 in
set_option maxHeartbeats 8000000 in
theorem concBells_calls (A : Option Addr) (n c : Nat) (f : Nat → BellV) (x : BellV) (C : Option Addr) (e2 S vb : Nat) (w : World) (h : BellRow w A n f) (hn : n ≤ 1048576) (hnc : n ≤ c) (hS : Blk w S 30 #[.slice A n c, .slice (some ⟨vb, 0, none⟩) 1 1]) (hvb : Blk w vb 38 #[.string x.id, .int .i64 x.no, .int .i64 x.ma, .int .i64 x.fe, .slice C x.n e2]) (hsh : ShareRow w C x.n x.ss x.ms) :
    Calls Try.prog 31 #[.slice (some ⟨S, 0, none⟩) 2 2] w fun e w' => ∃ A' c', e = .returned (.slice A' (n + 1) c') ∧ BellRow w' A' (n + 1) (insF f n x) ∧ Below w.heap.size w w' := by
  obtain ⟨i0, hi, hz0, hz1, hz2⟩ := info_parts BellI_info
  have H := Lib.hid h
  have HS := Lib.hid hS
  have HVB := Lib.hid hvb
  have HSH := Lib.hid hsh
  have HGW := Lib.hid (fun W => growBells_calls (n + 1) W (by omega) (by omega))
  rw [show ((n + 1 : Nat) : Int) = (n : Int) + 1 by omega] at HGW
  clear h hS hvb hsh
  go_enter Try.func31, Try.ntmps31
  go_wp2
  go_loopw [3, 11] (fun sz i wr => wr = w ∧ ((i = .int .i64 0 ∧ sz = .int .i64 0) ∨ (i = .int .i64 1 ∧ sz = .int .i64 n) ∨ (i = .int .i64 2 ∧ sz = .int .i64 ((n : Int) + 1)))) (fun _ i _ => 2 - (intOf i).toNat)
  case atStart => exact ⟨rfl, .inl ⟨rfl, rfl⟩⟩
  case round =>
    obtain ⟨rfl, hs⟩ := hrel
    have s0 := (HS.out.cell 0).trans rfl
    have s1 := (HS.out.cell 1).trans rfl
    rcases hs with ⟨rfl, rfl⟩ | ⟨rfl, rfl⟩ | ⟨rfl, rfl⟩
    · go_wp2
      go_roundw
      case rel => exact ⟨trivial, .inr (.inl ⟨by go_num, by go_num⟩)⟩
      case measure => simp [intOf]
    · go_wp2
      go_roundw
      case rel => exact ⟨trivial, .inr (.inr ⟨by go_num, by go_num⟩)⟩
      case measure => simp [intOf]
    · go_wp2_with fail
      go_at_call 56
      refine (HGW.out _).mono ?_
      rintro e w1 ⟨v1, rfl, hown, hbr⟩
      have HOWN := Lib.hid hown
      clear hown s0 s1
      obtain ⟨w0, hw0⟩ : ∃ w0, w0 = wr := ⟨_, rfl⟩
      subst hw0
      go_wp2
      go_loopw [6, 27] (fun v i w9 => Below w0.heap.size w0 w9 ∧ ((i = .int .i64 0 ∧ Hid (w9.ownsRow w0.heap.size 38 5 v 0 [])) ∨ (i = .int .i64 1 ∧ ∃ b o, Hid (w9.ownsRow w0.heap.size 38 5 v n (rowL w0 b o (n * 5)) ∧ ∀ i, i < n → BellAt w0 b (o + i * 5) (f i))) ∨ (i = .int .i64 2 ∧ ∃ b o, Hid (w9.ownsRow w0.heap.size 38 5 v (n + 1) (rowL w0 b o (n * 5) ++ bellC x (.slice C x.n e2)) ∧ ∀ i, i < n → BellAt w0 b (o + i * 5) (f i))))) (fun _ i _ => 2 - (intOf i).toNat)
      case atStart => exact ⟨hbr, .inl ⟨rfl, HOWN⟩⟩
      case round =>
        clear HOWN hbr
        obtain ⟨hbr, hs⟩ := hrel
        have s0 := ((HS.out.keep hbr).cell 0).trans rfl
        have s1 := ((HS.out.keep hbr).cell 1).trans rfl
        have hbs := hbr.size
        rcases hs with ⟨rfl, hown⟩ | ⟨rfl, b, o, hown⟩ | ⟨rfl, b, o, hown⟩
        · rcases Nat.eq_zero_or_pos n with h0 | h0
          · obtain ⟨BB, cap, rfl⟩ := own_zero hown.out
            have HRN : Hid (∀ ty, (Builtin.append_ #[30, 30] ty #[.slice BB 0 cap, .slice A n c]).run Try.prog wr = .ok (.slice BB 0 cap) wr) := Lib.hid (fun ty => by
              rw [h0]
              exact run_append_nothing (P := Try.prog) (ty := ty) wr 30 30 38 i0 Try.underlying30 hi BB 0 cap (Nat.zero_le _) (.slice A 0 c) (src_nothing i0.size Try.underlying30 A c wr))
            have H0 := Lib.hid h0
            clear h0
            go_wp2_with (at_builtin; refine Lib.wpList_append_run _ rfl _ _ _ _ rfl _ _ rfl rfl _ _ (HRN.out _) ?_)
            go_roundw
            case rel => exact ⟨hbr, .inr (.inl ⟨by go_num, 0, 0, Lib.hid ⟨by rw [H0.out]; exact hown.out, fun i hi => by have := H0.out; omega⟩⟩)⟩
            case measure => simp [intOf]
          · obtain ⟨b, o, rfl, hrow⟩ := H.out h0
            have HNW := Lib.hid (rowL_news hrow)
            have HN1 := Lib.hid (rowL_one hrow)
            have HNK : Hid (∀ j u, (rowL w0 b o (n * 5))[j]? = some u → wr.cell? ((⟨b, o, none⟩ : Addr).add j) = some u) := Lib.hid (fun j u hj => by
              have q := HNW.out j u hj
              have hadd : (⟨b, o, none⟩ : Addr).add j = ⟨b, o + j, none⟩ := by unfold Addr.add; split <;> simp_all
              rw [hadd] at q ⊢
              exact cell_keep hbr q)
            have HRW := Lib.hid hrow
            have HLL := Lib.hid (rowL_len w0 b o (n * 5))
            clear hrow
            go_wp2_with (at_builtin; refine wpList_append_own _ rfl _ _ 30 rfl w0.heap.size 38 i0 (.agg #[.string ⟨#[]⟩, .int .i64 0, .int .i64 0, .int .i64 0, .slice none 0 0]) 5 64 Try.underlying30 hi hz0 hz1 hz2 rfl (by decide) _ _ _ rfl hown.out ⟨b, o, none⟩ n c (rowL w0 b o (n * 5)) rfl HLL.out HNK.out HN1.out (by unfold maxLen; omega) (by omega) hbs ?_; intro v9 w9 hown' hgrow _; refine Hid.out ?_)
            refine Lib.hid ?_
            rw [Nat.zero_add, List.nil_append] at hown'
            have hb9 := Lib.hid (hbr.grown hgrow hbs (fun z hz => (hown.out.lt z hz).1))
            have HOW := Lib.hid hown'
            clear hown' hgrow
            go_wp2
            go_roundw
            case rel => exact ⟨hb9.out, .inr (.inl ⟨by go_num, b, o, Lib.hid ⟨HOW.out, HRW.out⟩⟩)⟩
            case measure => simp [intOf]
        · have HNB := Lib.hid (World.news_of_block (HVB.out.keep hbr))
          go_wp2_with (at_builtin; refine wpList_append_own _ rfl _ _ 30 rfl w0.heap.size 38 i0 (.agg #[.string ⟨#[]⟩, .int .i64 0, .int .i64 0, .int .i64 0, .slice none 0 0]) 5 64 Try.underlying30 hi hz0 hz1 hz2 rfl (by decide) _ _ _ rfl hown.out.1 ⟨vb, 0, none⟩ 1 1 (bellC x (.slice C x.n e2)) rfl rfl HNB.out (fun u hu => by simp [bellC] at hu; rcases hu with rfl | rfl | rfl | rfl | rfl <;> rfl) (by unfold maxLen; omega) (by omega) hbs ?_; intro v9 w9 hown' hgrow _; refine Hid.out ?_)
          refine Lib.hid ?_
          have hb9 := Lib.hid (hbr.grown hgrow hbs (fun z hz => (hown.out.1.lt z hz).1))
          have HOW := Lib.hid hown'
          clear hown' hgrow
          go_wp2
          go_roundw
          case rel => exact ⟨hb9.out, .inr (.inr ⟨by go_num, b, o, Lib.hid ⟨HOW.out, hown.out.2⟩⟩)⟩
          case measure => simp [intOf]
        · obtain ⟨A9, c9, rfl, hrow⟩ := concRow hown.out.1 hown.out.2 HSH.out hbr
          have HRW := Lib.hid hrow
          clear hrow
          go_wp2
          go_ret
          exact ⟨A9, c9, rfl, HRW.out, hbr⟩
end Go.Proofs.Yticnpibkpfpojaa
