/- Lists of numbers read, by the program and by the reference. -/
import Derived.Test.YtflhkldfhndafaaGreatDoorReadD
namespace Go.Proofs.YtflhkldfhndafaaGreatDoor
set_option linter.unusedVariables false
open Go.RowKit

/-- the parts of a list's text, their number, their numbers -/
def pts (s : ByteArray) : List (List UInt8) := splC 44 (bl s)
noncomputable def ptV (s : ByteArray) (i : Nat) : Int := numD (((pts s)[i]?).getD [])
theorem pts_pos (s : ByteArray) : 0 < (pts s).length := List.length_pos_iff.2 (splC_ne _ _)
theorem pts_map (s : ByteArray) : xsOf (ptV s) (pts s).length = (pts s).map numD := by
  apply List.ext_getElem?
  intro i
  unfold xsOf
  by_cases hi : i < (pts s).length
  · simp [ptV, hi]
  · rw [List.getElem?_eq_none (by simp; omega), List.getElem?_eq_none (by simp; omega)]
theorem xsOf_get (p : Nat → Int) {n i : Nat} (h : i < n) : (xsOf p n).getD i 0 = p i := by simp [xsOf, h]
/-- the list that was read lies there -/
def Got (w : World) (A : Option Addr) (n : Nat) : Option (List Int) → Prop
  | none => n = 0
  | some xs => n = xs.length ∧ IntRow w A n (fun i => xs.getD i 0)
theorem Got.keep {w w' : World} {A : Option Addr} {n : Nat} {o : Option (List Int)} (h : Got w A n o) (hb : Below w.heap.size w w') : Got w' A n o := by
  cases o with
  | none => exact h
  | some xs => exact ⟨h.1, h.2.keep hb⟩
/-- what both readers of lists do -/
def LRet (w : World) (o : Option (List Int)) (e : Ending) (w' : World) : Prop := ∃ A n c, e = .returned (.tuple #[.slice A n c, .bool o.isSome]) ∧ Got w' A n o ∧ Below w.heap.size w w'
theorem got_own {w : World} {g : Nat} {t : TypeId} {cur : Array Value} {p : Nat → Int} {n : Nat} (hblk : Blk w g t cur) (hcur : ∀ i, i < n * 1 → cur[i]? = (intsL p n)[i]?) : Got w (some ⟨g, 0, none⟩) n (some (xsOf p n)) := by
  refine ⟨(xs_len p n).symm, fun _ => ⟨g, 0, rfl, fun i hi => ?_⟩⟩
  rw [Nat.zero_add, hblk.cell, hcur i (by omega), intsL_at _ hi]
  show _ = some (Value.int .i64 ((xsOf p n).getD i 0))
  rw [xsOf_get p hi]
theorem listO_dash' {s : ByteArray} (h : s = ⟨#[45]⟩) : listO (bl s) = some [] := by rw [h]; exact listO_dash
theorem list_ok {s : ByteArray} (h0 : s ≠ ⟨#[45]⟩) (hn : (pts s).length ≤ 64) (h : ∀ i, i < (pts s).length → ∃ x, numO (((pts s)[i]?).getD []) = some x ∧ -1000000000000 ≤ x ∧ x ≤ 1000000000000) : listO (bl s) = some (xsOf (ptV s) (pts s).length) := by
  refine listO_good (fun e => h0 (by rw [← tx_bl s, e])) ?_ (lFits_of hn fun i hi => ?_)
  · rw [pts_map, List.map_map]
    apply List.ext_getElem?
    intro i
    by_cases hi : i < (pts s).length
    · obtain ⟨x, hx, -⟩ := h i hi
      have e : (pts s)[i]? = some ((pts s)[i]) := List.getElem?_eq_getElem hi
      rw [e, Option.getD_some] at hx
      rw [List.getElem?_map]
      show (pts s)[i]? = _
      rw [e, Option.map_some, Function.comp, numD_some hx, (numO_some hx).2]
    · show (pts s)[i]? = _
      rw [List.getElem?_eq_none (by omega), List.getElem?_eq_none (by simp; omega)]
  · obtain ⟨x, hx, hr⟩ := h i hi
    unfold ptV
    rw [numD_some hx]
    exact hr
theorem list_bad {s : ByteArray} (h0 : s ≠ ⟨#[45]⟩) {i : Nat} (hi : i < (pts s).length) (h : ∀ x, numO (((pts s)[i]?).getD []) = some x → ¬ (-1000000000000 ≤ x ∧ x ≤ 1000000000000)) : listO (bl s) = none := by
  have e : (pts s)[i]? = some ((pts s)[i]) := List.getElem?_eq_getElem hi
  rw [e, Option.getD_some] at h
  exact listO_bad (fun q => h0 (by rw [← tx_bl s, q])) (List.getElem_mem hi) h
theorem list_again {s : ByteArray} (h0 : s ≠ ⟨#[45]⟩) : (listText (ptV s) (pts s).length = s ∧ listO (bl s) = some (xsOf (ptV s) (pts s).length)) ∨ (listText (ptV s) (pts s).length ≠ s ∧ listO (bl s) = none) := by
  have hb : bl s ≠ [45] := fun e => h0 (by rw [← tx_bl s, e])
  have hp := pts_pos s
  have hm := pts_map s
  rcases listO_again hb with h | ⟨h1, h2⟩
  · left
    have h' : listO (bl s) = some (xsOf (ptV s) (pts s).length) := by rw [hm]; exact h
    obtain ⟨⟨f1, f2⟩, f3⟩ := listO_some.1 h'
    rw [xs_len] at f1
    refine ⟨?_, h'⟩
    rw [listText_ok hp f1 (fun i hi => f2 _ (by unfold xsOf; exact List.mem_map.2 ⟨i, List.mem_range.2 hi, rfl⟩))]
    apply ba_eq
    show bl _ = bl _
    rw [joinT_bl _ hp, f3]
  · right
    refine ⟨fun e => ?_, h1⟩
    cases q : listBad (ptV s) (pts s).length
    · have hq := q
      unfold listBad at hq
      simp only [Bool.or_eq_false_iff, decide_eq_false_iff_not] at hq
      have f1 : (pts s).length ≤ 64 := by omega
      have f2 : ∀ i, i < (pts s).length → -1000000000000 ≤ ptV s i ∧ ptV s i ≤ 1000000000000 := fun i hi => by
        cases q3 : valB (ptV s i)
        · have := anyB_hit (p := fun i => !valB (ptV s i)) hi (by simp [q3])
          rw [hq.2] at this; cases this
        · exact inB_iff.1 q3
      refine h2 ?_ ?_
      · have := lFits_of f1 f2
        rwa [hm] at this
      · have e2 : pts s = splC 44 (bl s) := rfl
        rw [← e2, ← hm, ← joinT_bl _ hp, ← listText_ok hp f1 f2, e]
    · have e1 : s = ⟨#[]⟩ := by rw [← e, listText, if_pos q]
      subst e1
      have e2 : pts ⟨#[]⟩ = [[]] := rfl
      have e3 : numO [] = none := numO_long (by rw [mag_nil]; simp)
      have e4 : ∀ i, i < 1 → ptV ⟨#[]⟩ i = 0 := fun i hi => by
        obtain rfl : i = 0 := by omega
        unfold ptV
        rw [e2]
        exact numD_none e3
      have e5 : listBad (ptV ⟨#[]⟩) (pts ⟨#[]⟩).length = false := by
        rw [e2]
        unfold listBad
        rw [anyB_no (fun i hi => by rw [e4 i hi]; rfl)]
        rfl
      rw [q] at e5
      cases e5
theorem i64_info : (Tryz.prog.info? 2).map (fun i => (i.zero, i.size, i.bytes)) = some (some (.int .i64 0), 1, 8) := by kernel_rfl
theorem toList_ne1 {a : ByteArray} {c : UInt8} (h : a ≠ ⟨#[c]⟩) : (a.toList == [c]) = false := by
  apply beq_eq_false_iff_ne.2
  rw [Lib.toList_data]
  intro e
  exact h (ba_eq e)
/-- part k of a text that was cut -/
theorem pt_cell {w : World} {g : Nat} {s : ByteArray} {k : Nat} (h : TxAt w g (pts s)) (hk : k < (pts s).length) : w.cell? ⟨g, k, none⟩ = some (.string (tx (((pts s)[k]?).getD []))) := by
  have e : (pts s)[k]? = some ((pts s)[k]) := List.getElem?_eq_getElem hk
  rw [h.2 k _ e, e, Option.getD_some]
theorem pt_size {s : ByteArray} {k : Nat} (hk : k < (pts s).length) : (tx (((pts s)[k]?).getD [])).size ≤ s.size := by
  have e : (pts s)[k]? = some ((pts s)[k]) := List.getElem?_eq_getElem hk
  have := sp_size (c := 44) (l := bl s) _ (List.getElem_mem hk)
  rw [e, Option.getD_some, ← bl_len, bl_tx, ← bl_len]
  exact this
set_option maxRecDepth 20000 in
set_option maxHeartbeats 4000000 in
theorem ReadList_calls (s : ByteArray) (w : World) (hs : s.size ≤ 1048575) (hL : HasLib w) :
    Calls Tryz.prog 22 #[.string s] w (LRet w (listO (bl s))) := by
  obtain ⟨i0, hi, hz0, hz1, hz2⟩ := info_parts i64_info
  have HL := Lib.hid hL
  clear hL
  by_cases h0 : s = ⟨#[45]⟩
  · have HO := Lib.hid (listO_dash' h0)
    subst h0
    go_enter Tryz.func22, Tryz.ntmps22
    go_wp2
    refine bodyPost_ret (v := .tuple #[.slice none 0 0, .bool true]) (by simp [results, Tryz.results22, go_sem]) rfl ?_
    exact ⟨_, _, _, by rw [HO.out]; rfl, by rw [HO.out]; exact ⟨rfl, fun h => absurd h (Nat.lt_irrefl 0)⟩, Below.refl _ _⟩
  · have h0' : (s.toList == [45]) = false := toList_ne1 h0
    have hp := pts_pos s
    have hpl : (pts s).length ≤ s.size + 1 := by have := sp_len (c := 44) (l := bl s); rw [bl_len] at this; exact this
    have HSP : Hid (Calls Tryz.prog 34 #[.string s, .string ⟨#[44]⟩] w fun e w' => e = .returned (.slice (some ⟨w.heap.size, 0, none⟩) (pts s).length (pts s).length) ∧ Hid (TxAt w' w.heap.size (pts s)) ∧ Below w.heap.size w w') := Lib.hid (Split_calls s 44 w (by omega) HL.out)
    obtain ⟨n, hn⟩ : ∃ n, n = (pts s).length := ⟨_, rfl⟩
    rw [← hn] at HSP hp hpl
    have HN := Lib.hid hn
    have HA := Lib.hid (list_again h0)
    clear hn
    go_enter Tryz.func22, Tryz.ntmps22
    go_wp2_with (go_at_call 34; with_reducible refine HSP.out.mono ?_; rintro e w1 ⟨rfl, htx, hb1⟩)
    go_loopw [4, 14] (fun v i wr => ∃ k : Nat, k ≤ n ∧ i = .int .i64 k ∧ Hid (wr.ownsRow w1.heap.size 2 1 v k (intsL (ptV s) k)) ∧ Below w1.heap.size w1 wr) (fun _ i _ => n - (intOf i).toNat)
    case atStart => exact ⟨0, by omega, rfl, Lib.hid (World.ownsRow_nil _ _ _ _), Below.refl _ _⟩
    case round =>
      obtain ⟨k, hk, rfl, hown, hbr⟩ := hrel
      have hbs := hbr.size
      have htr := Lib.hid (htx.out.keep hbr htx.out.1 hbs)
      have HB := Lib.hid (hb1.trans (hbr.mono hb1.size))
      by_cases hlt : k < n
      · have hlt2 : k < (pts s).length := by rw [← HN.out]; exact hlt
        have c0 := pt_cell htr.out hlt2
        have hz := pt_size hlt2
        generalize hP : tx (((pts s)[k]?).getD []) = P at c0 hz
        have HNUM := Lib.hid (ReadDecimal_calls P wr (by omega) (HL.out.keep HB.out))
        have HX : Hid (numD (bl P) = ptV s k) := Lib.hid (by unfold ptV; rw [← hP, bl_tx])
        clear hP hlt2
        unfold numOut at HNUM
        obtain ⟨x, hx⟩ : ∃ x, x = numD (bl P) := ⟨_, rfl⟩
        rw [← hx] at HNUM HX
        clear hx
        go_wp2_with (first | (go_at_call 35; with_reducible refine HNUM.out.mono ?_; rintro e w3 ⟨rfl, hb3⟩; have hown3 := Lib.hid (own_keep hown.out hb3); have hbr3 := hbr.trans (hb3.mono hbs); have hbs3 := hbr3.size) | (at_builtin; refine wpList_append_own _ rfl _ _ 44 rfl w1.heap.size 2 i0 (.int .i64 0) 1 8 Tryz.underlying44 hi hz0 hz1 hz2 rfl (by decide) _ _ _ rfl (hown3.out.alloc _) ⟨w3.heap.size, 0, none⟩ 1 1 [.int .i64 x] rfl rfl (fun j u hj => by match j, hj with | 0, hj => simp at hj; subst hj; simp [Addr.add]) (fun u hu => by simp at hu; subst hu; rfl) (by unfold maxLen; omega) (by omega) (by simp; omega) ?_; intro v' w4 hown' hgrow _; have hb4 := below_append hbr3 hbs3 hown3.out hgrow; rw [HX.out, intsL_succ] at hown'; have HOWN := Lib.hid hown'; clear hown' hgrow))
        go_roundw
        case rel => exact ⟨k + 1, by omega, by go_num, HOWN, hb4⟩
        case measure => simp [intOf]; omega
      · obtain rfl : k = n := by omega
        obtain ⟨g2, cap2, cur, rfl, hg0, hblk, hcap, hcm, hcs, hcur⟩ := own_blk hown.out (by omega)
        have HG : Hid (Got wr (some ⟨g2, 0, none⟩) k (some (xsOf (ptV s) k))) := Lib.hid (got_own hblk hcur)
        have HROW : Hid (IntRow wr (some ⟨g2, 0, none⟩) k (ptV s)) := Lib.hid fun _ => ⟨g2, 0, rfl, fun i hi => by rw [Nat.zero_add, hblk.cell, hcur i (by omega), intsL_at _ hi]⟩
        have HLT := Lib.hid (ListText_calls (some ⟨g2, 0, none⟩) k cap2 (ptV s) wr HROW.out (by omega) (HL.out.keep HB.out).1)
        clear hblk hcur hcs
        rcases HA.out with ⟨q1, q2⟩ | ⟨q1, q2⟩
        · rw [← HN.out] at q1 q2
          rw [q1] at HLT
          have HO := Lib.hid q2
          clear q1 q2
          go_wp2_with (go_at_call 23; with_reducible refine HLT.out.mono ?_; rintro e w3 ⟨rfl, hb3⟩)
          refine bodyPost_ret (v := .tuple #[.slice (some ⟨g2, 0, none⟩) k cap2, .bool true]) (by simp [results, Tryz.results22, go_sem]) rfl ?_
          exact ⟨_, _, _, by rw [HO.out]; rfl, by rw [HO.out]; exact HG.out.keep hb3, HB.out.trans (hb3.mono HB.out.size)⟩
        · rw [← HN.out] at q1
          obtain ⟨L, hL2⟩ : ∃ L, L = listText (ptV s) k := ⟨_, rfl⟩
          rw [← hL2] at HLT q1
          have q3 : (L.toList == s.toList) = false := toList_ne q1
          have HO := Lib.hid q2
          clear q2 hL2
          go_wp2_with (go_at_call 23; with_reducible refine HLT.out.mono ?_; rintro e w3 ⟨rfl, hb3⟩)
          refine bodyPost_ret (v := .tuple #[.slice none 0 0, .bool false]) (by simp [results, Tryz.results22, go_sem]) rfl ?_
          exact ⟨_, _, _, by rw [HO.out]; rfl, by rw [HO.out]; rfl, HB.out.trans (hb3.mono HB.out.size)⟩
end Go.Proofs.YtflhkldfhndafaaGreatDoor
