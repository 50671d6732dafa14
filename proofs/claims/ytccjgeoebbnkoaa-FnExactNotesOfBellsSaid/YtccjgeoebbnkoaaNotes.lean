/- The notes of bells, in order, each once: in the program (sorted by the library, made one of each) and in the reference (put one by one). -/
import Derived.Test.YtccjgeoebbnkoaaRecall
import Derived.Test.YtccjgeoebbnkoaaMarkT
import Derived.Test.YtccjgeoebbnkoaaSortU
import Derived.Test.YtccjgeoebbnkoaaShelf
import Derived.Sort.OwnSortedInts
namespace Go.Proofs.Ytccjgeoebbnkoaa
set_option linter.unusedVariables false
open Go.RowKit

def lp (L : List Int) : Nat → Int := fun i => L[i]?.getD 0
theorem lp_ints (L : List Int) : L.map (Value.int .i64) = intsL (lp L) L.length := by
  apply List.ext_getElem?
  intro i
  rcases Nat.lt_or_ge i L.length with h | h
  · rw [intsL_at _ h]
    simp [lp, h]
  · simp [intsL, h]
theorem lp_at (L : List Int) {i : Nat} (h : i < L.length) : lp L i = L[i] := by simp [lp, h]
/-- a list of numbers that a call has returned -/
def NumsOut (w : World) (L : List Int) (v : Value) (w' : World) : Prop := ∃ A c G, v = .slice A L.length c ∧ IntOwn w' A L.length (lp L) G ∧ w.heap.size ≤ G ∧ Below w.heap.size w w'
theorem snoc_own {w : World} {base e : Nat} {v : Value} {L : List Int} {y : Int} (h : w.ownsRow base e 1 v (L.length + 1) (L.map (Value.int .i64) ++ [.int .i64 y])) : w.ownsRow base e 1 v (L ++ [y]).length ((L ++ [y]).map (Value.int .i64)) := by
  rw [List.map_append, List.length_append]
  exact h
set_option maxRecDepth 20000 in
set_option maxHeartbeats 4000000 in
theorem l00Put_calls (A : Option Addr) (c : Nat) (L : List Int) (x : Int) (w : World) (h : IntRow w A L.length (lp L)) (hn : L.length ≤ 1048576) :
    Calls Try.prog 69 #[.slice A L.length c, .int .i64 x] w fun e w' => ∃ v, e = .returned v ∧ NumsOut w (putF L x) v w' := by
  obtain ⟨i0, hi, hz0, hz1, hz2⟩ := info_parts Int64_info
  obtain ⟨n, hnn⟩ : ∃ n, n = L.length := ⟨_, rfl⟩
  rw [← hnn] at h hn ⊢
  have H := Lib.hid h
  have HN := Lib.hid hnn
  have HS := Lib.hid (World.ownsRow_lit (base := w.heap.size) (e := 2) (size := 1) w #[] 0 (Nat.le_refl _) (by unfold maxLen; omega) rfl)
  have HB0 := Lib.hid ((Below.refl w.heap.size w).alloc (Nat.le_refl _) (.cells #[] 2))
  clear h hnn
  go_enter Try.func69, Try.ntmps69
  go_wp2
  go_loopw [5, 6, 7] (fun v d i wr => ∃ (k : Nat) (M : List Int) (b : Bool), k ≤ n ∧ i = .int .i64 k ∧ d = .bool b ∧ M.length ≤ k + 1 ∧ Hid (wr.ownsRow w.heap.size 2 1 v M.length (M.map (Value.int .i64))) ∧ Hid (putF L x = M ++ (if b = true then L.drop k else putF (L.drop k) x)) ∧ (b = false → M.length = k) ∧ Below w.heap.size w wr) (fun _ _ i _ => n - (intOf i).toNat)
  case atStart => exact ⟨0, [], false, by omega, rfl, rfl, by simp, HS, Lib.hid (by simp), fun _ => rfl, HB0.out⟩
  case round =>
    obtain ⟨k, M, b, hk, rfl, rfl, hml, hown, hres, hbl, hbr⟩ := hrel
    by_cases hlt : k < n
    · obtain ⟨bb, o, rfl, hrow⟩ := H.out (by omega)
      have c0 := cell_keep hbr (hrow k hlt)
      obtain ⟨y, hy⟩ : ∃ y, y = lp L k := ⟨_, rfl⟩
      rw [← hy] at c0
      have hkL : k < L.length := by rw [← HN.out]; exact hlt
      have hdrop : Hid (L.drop k = y :: L.drop (k + 1)) := Lib.hid (by rw [hy, lp_at L hkL]; exact List.drop_eq_getElem_cons hkL)
      have HY : Hid (w.cell? ⟨bb, o + k, none⟩ = some (.int .i64 y)) := Lib.hid (by rw [hy]; exact hrow k hlt)
      have HR := Lib.hid hrow
      clear hrow hy hkL
      cases b
      · have hmk := hbl rfl
        clear hbl
        by_cases hxy : x ≤ y
        · by_cases hxy2 : x < y
          · have hne : Hid (putF L x = ((M ++ [x]) ++ [y]) ++ (if true = true then L.drop (k + 1) else putF (L.drop (k + 1)) x)) := Lib.hid (by have h := hres.out; rw [hdrop.out] at h; simpa [putF, hxy, hxy2] using h)
            clear hres hdrop
            have needx := True.intro
            go_wp2_with (first | (clear needx; at_builtin; refine wpList_append_own _ rfl _ _ 42 rfl w.heap.size 2 i0 (.int .i64 0) 1 8 Try.underlying42 hi hz0 hz1 hz2 rfl (by decide) _ _ _ rfl (hown.out.alloc _) ⟨_, 0, none⟩ 1 1 [.int .i64 x] rfl rfl (fun j u hj => by match j, hj with | 0, hj => simp at hj; subst hj; simp [Addr.add]) (fun u hu => by simp at hu; subst hu; rfl) (by unfold maxLen; (try simp); omega) (by (try simp); omega) (by have := hbr.size; simp; omega) ?_; intro v_ w_ hown' hgrow _; have hb2 := below_append hbr hbr.size hown.out hgrow; have ho2 := Lib.hid (snoc_own hown'); clear hown hbr hown' hgrow; have hown := ho2; have hbr := hb2; clear ho2 hb2; (try clear c0); (try have c0 := cell_keep hbr HY.out)) | (at_builtin; refine wpList_append_own _ rfl _ _ 42 rfl w.heap.size 2 i0 (.int .i64 0) 1 8 Try.underlying42 hi hz0 hz1 hz2 rfl (by decide) _ _ _ rfl (hown.out.alloc _) ⟨_, 0, none⟩ 1 1 [.int .i64 y] rfl rfl (fun j u hj => by match j, hj with | 0, hj => simp at hj; subst hj; simp [Addr.add]) (fun u hu => by simp at hu; subst hu; rfl) (by unfold maxLen; (try simp); omega) (by (try simp); omega) (by have := hbr.size; simp; omega) ?_; intro v_ w_ hown' hgrow _; have hb2 := below_append hbr hbr.size hown.out hgrow; have ho2 := Lib.hid (snoc_own hown'); clear hown hbr hown' hgrow; have hown := ho2; have hbr := hb2; clear ho2 hb2))
            go_roundw
            case rel => exact ⟨k + 1, (M ++ [x]) ++ [y], true, by omega, by go_num, rfl, by simp; omega, hown, hne, (fun h => by cases h), hbr⟩
            case measure => simp [intOf]; omega
          · have hne : Hid (putF L x = (M ++ [y]) ++ (if true = true then L.drop (k + 1) else putF (L.drop (k + 1)) x)) := Lib.hid (by have h := hres.out; rw [hdrop.out] at h; simpa [putF, hxy, hxy2] using h)
            clear hres hdrop
            go_wp2_with (at_builtin; refine wpList_append_own _ rfl _ _ 42 rfl w.heap.size 2 i0 (.int .i64 0) 1 8 Try.underlying42 hi hz0 hz1 hz2 rfl (by decide) _ _ _ rfl (hown.out.alloc _) ⟨_, 0, none⟩ 1 1 [.int .i64 y] rfl rfl (fun j u hj => by match j, hj with | 0, hj => simp at hj; subst hj; simp [Addr.add]) (fun u hu => by simp at hu; subst hu; rfl) (by unfold maxLen; (try simp); omega) (by (try simp); omega) (by have := hbr.size; simp; omega) ?_; intro v_ w_ hown' hgrow _; have hb2 := below_append hbr hbr.size hown.out hgrow; have ho2 := Lib.hid (snoc_own hown'); clear hown hbr hown' hgrow; have hown := ho2; have hbr := hb2; clear ho2 hb2)
            go_roundw
            case rel => exact ⟨k + 1, M ++ [y], true, by omega, by go_num, rfl, by simp; omega, hown, hne, (fun h => by cases h), hbr⟩
            case measure => simp [intOf]; omega
        · have hne : Hid (putF L x = (M ++ [y]) ++ (if false = true then L.drop (k + 1) else putF (L.drop (k + 1)) x)) := Lib.hid (by have h := hres.out; rw [hdrop.out] at h; simpa [putF, hxy] using h)
          clear hres hdrop
          go_wp2_with (at_builtin; refine wpList_append_own _ rfl _ _ 42 rfl w.heap.size 2 i0 (.int .i64 0) 1 8 Try.underlying42 hi hz0 hz1 hz2 rfl (by decide) _ _ _ rfl (hown.out.alloc _) ⟨_, 0, none⟩ 1 1 [.int .i64 y] rfl rfl (fun j u hj => by match j, hj with | 0, hj => simp at hj; subst hj; simp [Addr.add]) (fun u hu => by simp at hu; subst hu; rfl) (by unfold maxLen; (try simp); omega) (by (try simp); omega) (by have := hbr.size; simp; omega) ?_; intro v_ w_ hown' hgrow _; have hb2 := below_append hbr hbr.size hown.out hgrow; have ho2 := Lib.hid (snoc_own hown'); clear hown hbr hown' hgrow; have hown := ho2; have hbr := hb2; clear ho2 hb2)
          go_roundw
          case rel => exact ⟨k + 1, M ++ [y], false, by omega, by go_num, rfl, by simp; omega, hown, hne, (fun _ => by simp; omega), hbr⟩
          case measure => simp [intOf]; omega
      · have hne : Hid (putF L x = (M ++ [y]) ++ (if true = true then L.drop (k + 1) else putF (L.drop (k + 1)) x)) := Lib.hid (by have h := hres.out; rw [hdrop.out] at h; simpa using h)
        clear hres hdrop hbl
        go_wp2_with (at_builtin; refine wpList_append_own _ rfl _ _ 42 rfl w.heap.size 2 i0 (.int .i64 0) 1 8 Try.underlying42 hi hz0 hz1 hz2 rfl (by decide) _ _ _ rfl (hown.out.alloc _) ⟨_, 0, none⟩ 1 1 [.int .i64 y] rfl rfl (fun j u hj => by match j, hj with | 0, hj => simp at hj; subst hj; simp [Addr.add]) (fun u hu => by simp at hu; subst hu; rfl) (by unfold maxLen; (try simp); omega) (by (try simp); omega) (by have := hbr.size; simp; omega) ?_; intro v_ w_ hown' hgrow _; have hb2 := below_append hbr hbr.size hown.out hgrow; have ho2 := Lib.hid (snoc_own hown'); clear hown hbr hown' hgrow; have hown := ho2; have hbr := hb2; clear ho2 hb2)
        go_roundw
        case rel => exact ⟨k + 1, M ++ [y], true, by omega, by go_num, rfl, by simp; omega, hown, hne, (fun h => by cases h), hbr⟩
        case measure => simp [intOf]; omega
    · obtain rfl : k = n := by omega
      have hdz : L.drop k = [] := by rw [HN.out]; exact List.drop_length
      cases b
      · have hne : Hid (putF L x = M ++ [x]) := Lib.hid (by have h := hres.out; rw [hdz] at h; simpa [putF] using h)
        clear hres hdz
        have needx := True.intro
        go_wp2_with (clear needx; at_builtin; refine wpList_append_own _ rfl _ _ 42 rfl w.heap.size 2 i0 (.int .i64 0) 1 8 Try.underlying42 hi hz0 hz1 hz2 rfl (by decide) _ _ _ rfl (hown.out.alloc _) ⟨_, 0, none⟩ 1 1 [.int .i64 x] rfl rfl (fun j u hj => by match j, hj with | 0, hj => simp at hj; subst hj; simp [Addr.add]) (fun u hu => by simp at hu; subst hu; rfl) (by unfold maxLen; (try simp); omega) (by (try simp); omega) (by have := hbr.size; simp; omega) ?_; intro v_ w_ hown' hgrow _; have hb2 := below_append hbr hbr.size hown.out hgrow; have ho2 := Lib.hid (snoc_own hown'); clear hown hbr hown' hgrow; have hown := ho2; have hbr := hb2; clear ho2 hb2; (try clear c0); (try have c0 := cell_keep hbr HY.out))
        obtain ⟨A', c', G, rfl, hio, hG⟩ := intOwn_of (f := lp (M ++ [x])) (lp_ints (M ++ [x]) ▸ hown.out) hbr.size
        have HIO := Lib.hid hio
        clear hio
        go_ret
        exact ⟨_, rfl, A', c', G, (by rw [hne.out]; rfl), by rw [hne.out]; exact HIO.out, hG, hbr⟩
      · have hne : Hid (putF L x = M) := Lib.hid (by have h := hres.out; rw [hdz] at h; simpa using h)
        clear hres hdz
        obtain ⟨A', c', G, rfl, hio, hG⟩ := intOwn_of (f := lp M) (lp_ints M ▸ hown.out) hbr.size
        have HIO := Lib.hid hio
        clear hio
        go_wp2
        go_ret
        exact ⟨_, rfl, A', c', G, (by rw [hne.out]; rfl), by rw [hne.out]; exact HIO.out, hG, hbr⟩
open Go.Sort in
theorem own_shape {w : World} {base n e : Nat} {v : Value} {zs : List Int} (h : w.ownsRow base e 1 v n (zs.map (Value.int .i64))) (hn : zs.length = n) :
    (v = .slice none 0 0 ∧ n = 0) ∨ ∃ g cap, v = .slice (some ⟨g, 0, none⟩) n cap ∧ base ≤ g ∧ g < w.heap.size ∧ n ≤ cap ∧ cap ≤ maxLen ∧ Holds (Value.int .i64) w g 0 zs.toArray ∧
      ∀ ts : List Int, ts.length = n → ∀ nn os, (grow (putRow (Value.int .i64) (Sort.ahead w nn) g 0 ts.toArray) os).ownsRow base e 1 v n (ts.map (Value.int .i64)) ∧ w.grownBy (grow (putRow (Value.int .i64) (Sort.ahead w nn) g 0 ts.toArray) os) (some g) := by
  subst hn
  rcases h.2 with ⟨hv, h0⟩ | ⟨g, cap, cur, hv, hb, hg, hc, hm, hs, ht⟩
  · exact Or.inl ⟨hv, h0⟩
  · refine Or.inr ⟨g, cap, hv, hb, (Array.getElem?_eq_some_iff.1 hg).1, hc, hm, holds_of_blockI hg (by simpa using ht), fun ts hts nn os => ⟨?_, grownBy_sortedI _⟩⟩
    rw [hv]
    exact ownsRow_sortedI hts hb hg hc hm hs
theorem grow_none (w : World) : Sort.grow w #[] = w := by simp [Sort.grow]
theorem IntOwn.same {w w' : World} {A : Option Addr} {n G : Nat} {s : Nat → Int} (h : IntOwn w A n s G) (hb : 0 < n → w'.heap[G]? = w.heap[G]?) : IntOwn w' A n s G := fun hn => by
  obtain ⟨hA, arr, hk, hs, ha⟩ := h hn
  exact ⟨hA, arr, (hb hn).trans hk, hs, ha⟩
theorem IntOwn.head {w : World} {A : Option Addr} {n m G : Nat} {p q : Nat → Int} (h : IntOwn w A n p G) (hm : m ≤ n) (e : ∀ i, i < m → p i = q i) : IntOwn w A m q G := fun h0 => by
  obtain ⟨hA, arr, hb, hs, ha⟩ := h (by omega)
  exact ⟨hA, arr, hb, by omega, fun i hi => by rw [ha i (by omega), e i hi]⟩
noncomputable def nbL (f : Nat → BellV) (n : Nat) : List Int := if okBells f n = true then putsF (fun i => (f i).no) n else []
theorem nbL_len (f : Nat → BellV) (n : Nat) : (nbL f n).length ≤ n := by
  unfold nbL
  split
  · exact putsF_len _ _
  · simp
theorem rowL_succ (p : Nat → Int) (k : Nat) : rowL p (k + 1) = rowL p k ++ [p k] := by simp [rowL, List.range_succ]
theorem numsNone (w w' : World) (hb : Below w.heap.size w w') : NumsOut w [] (.slice none 0 0) w' := ⟨none, 0, w.heap.size, rfl, fun h => absurd h (Nat.lt_irrefl _), Nat.le_refl _, hb⟩
set_option maxRecDepth 20000 in
set_option maxHeartbeats 4000000 in
theorem NotesOfBells_calls (A : Option Addr) (n c : Nat) (f : Nat → BellV) (w : World) (h : BellRow w A n f) (hf : ∀ i, i < n → Fine (f i)) (hn : n ≤ 1048576) :
    Calls Try.prog 26 #[.slice A n c] w fun e w' => ∃ v, e = .returned (.tuple #[v, .int .i64 (rmC f n)]) ∧ NumsOut w (nbL f n) v w' := by
  obtain ⟨i0, hi, hz0, hz1, hz2⟩ := info_parts Int64_info
  have HV := Lib.hid (ValidBells_calls A n c f w h hf (by unfold maxLen; omega))
  have H := Lib.hid h
  clear h hf
  cases q1 : okBells f n
  · rw [show rmC f n = 1 by simp [rmC, q1], show nbL f n = [] by simp [nbL, q1]]
    rw [show (bellsOk f n && decide ((n : Int) ≤ 24)) = false from q1] at HV
    go_enter Try.func26, Try.ntmps26
    go_wp2_with (go_at_call 52; with_reducible refine HV.out.mono ?_; rintro e w1 ⟨rfl, hb⟩)
    refine bodyPost_ret (v := .tuple #[.slice none 0 0, .int .i64 1]) (by simp [results, Try.results26, go_sem]) rfl ?_
    exact ⟨_, rfl, numsNone _ _ hb⟩
  · obtain ⟨p, hp⟩ : ∃ p : Nat → Int, p = fun i => (f i).no := ⟨_, rfl⟩
    rw [show rmC f n = 0 by simp [rmC, q1], show nbL f n = putsF p n by simp [nbL, q1, hp]]
    have HPP := Lib.hid hp
    clear hp
    rw [show (bellsOk f n && decide ((n : Int) ≤ 24)) = true from q1] at HV
    go_enter Try.func26, Try.ntmps26
    go_wp2_with (go_at_call 52; with_reducible refine HV.out.mono ?_; rintro e w1 ⟨rfl, hb1⟩)
    go_loopw [4, 12] (fun v i wr => ∃ k : Nat, k ≤ n ∧ i = .int .i64 k ∧ Hid (wr.ownsRow w.heap.size 2 1 v (rowL p k).length ((rowL p k).map (Value.int .i64))) ∧ Below w.heap.size w wr) (fun _ i _ => n - (intOf i).toNat)
    case atStart => exact ⟨0, by omega, rfl, Lib.hid (World.ownsRow_nil _ _ _ _), hb1⟩
    case round =>
      obtain ⟨k, hk, rfl, hown, hbr⟩ := hrel
      have hrl := rowL_len p k
      by_cases hlt : k < n
      · obtain ⟨b, o, rfl, hrow⟩ := H.out (by omega)
        obtain ⟨AK, CK, c0, c1, c2, c3, c4, c5⟩ := (hrow k hlt).keep hbr
        have HR := Lib.hid hrow
        have hno : (f k).no = p k := by rw [HPP.out]
        rw [hno] at c1
        clear hrow c5 hno
        go_wp2_with (at_builtin; refine wpList_append_own _ rfl _ _ 42 rfl w.heap.size 2 i0 (.int .i64 0) 1 8 Try.underlying42 hi hz0 hz1 hz2 rfl (by decide) _ _ _ rfl ((hown.out.alloc _).alloc _) ⟨wr.heap.size + 1, 0, none⟩ 1 1 [.int .i64 (p k)] rfl rfl (fun j u hj => by match j, hj with | 0, hj => simp at hj; subst hj; simp [Addr.add]) (fun u hu => by simp at hu; subst hu; rfl) (by unfold maxLen; omega) (by omega) (by have := hbr.size; simp; omega) ?_; intro v' w2 hown' hgrow _; have hb2 := below_append (hbr.alloc hbr.size _) (by have := hbr.size; simp; omega) (hown.out.alloc _) hgrow; have HOWN := Lib.hid (snoc_own hown'); have HB2 := Lib.hid hb2; clear hown' hgrow hb2)
        go_roundw
        case rel => exact ⟨k + 1, by omega, by go_num, by rw [rowL_succ]; exact HOWN, HB2.out⟩
        case measure => simp [intOf]; omega
      · obtain rfl : k = n := by omega
        rw [hrl] at hown
        rcases own_shape hown.out hrl with ⟨rfl, rfl⟩ | ⟨g, cap, rfl, hg0, hgl, hcap, hcm, hH, hnext⟩
        · go_wp2_with (first | (go_at_call 70; refine (Try.slices_Sort_int_none none 0 wr).mono ?_; rintro e w2 ⟨rfl, rfl⟩) | (go_at_call 71; refine (Try.slices_Compact_int_empty none 0 _).mono ?_; rintro e w3 ⟨rfl, rfl⟩))
          refine bodyPost_ret (v := .tuple #[.slice none 0 0, .int .i64 0]) (by simp [results, Try.results26, go_sem]) rfl ?_
          exact ⟨_, rfl, numsNone _ _ hbr⟩
        · have hsort := Try.slices_Sort_int g 0 cap (rowL p k) wr hH hgl (by omega)
          rw [hrl] at hsort
          have HSORT := Lib.hid hsort
          have HNEXT := Lib.hid hnext
          clear hsort hnext hH hown
          go_wp2_with fail
          go_at_call 70
          with_reducible refine HSORT.out.mono ?_
          rintro e w2 ⟨rfl, nn, os, hw2⟩
          obtain ⟨ts, hts⟩ : ∃ ts, ts = (rowL p k).mergeSort fun x y => decide (x ≤ y) := ⟨_, rfl⟩
          have htl : ts.length = k := by rw [hts, List.length_mergeSort, hrl]
          have hcomp : Lib.compact ts = putsF p k := by rw [hts]; exact sort_puts p k
          rw [← hts] at hw2
          obtain ⟨own2, gb2⟩ := HNEXT.out ts htl nn os
          rw [← hw2] at own2 gb2
          have hbr2 : Below w.heap.size w w2 := hbr.grown gb2 hbr.size (fun j hj => by cases hj; exact hg0)
          clear hw2 HNEXT HSORT hts gb2
          rcases own_shape own2 htl with ⟨hv, -⟩ | ⟨g2, cap2, hv, hg02, hgl2, hcap2, hcm2, hH2, hnext2⟩
          · cases hv
          · cases hv
            have hcc := Try.slices_Compact_int g 0 cap ts w2 hH2 (by omega) (by omega)
            rw [htl, hcomp] at hcc
            have hpl := putsF_len p k
            have HCC := Lib.hid hcc
            have HNEXT2 := Lib.hid hnext2
            clear hcc hnext2 hH2 own2
            go_wp2_with fail
            go_at_call 71
            with_reducible refine HCC.out.mono ?_
            rintro e w3 ⟨rfl, q, hw3⟩
            obtain ⟨own3, gb3⟩ := HNEXT2.out (putsF p k ++ List.replicate (k - (putsF p k).length) 0) (by simp; omega) q #[]
            rw [grow_none, ← hw3] at own3 gb3
            have hbr3 : Below w.heap.size w w3 := hbr2.grown gb3 hbr2.size (fun j hj => by cases hj; exact hg0)
            have hlen : (putsF p k ++ List.replicate (k - (putsF p k).length) 0).length = k := by simp; omega
            have e3 := lp_ints (putsF p k ++ List.replicate (k - (putsF p k).length) 0)
            rw [hlen] at e3
            rw [e3] at own3
            obtain ⟨A', c', G, hv, hio, hG⟩ := intOwn_of own3 hbr3.size
            cases hv
            have HIO := Lib.hid (hio.head (m := (putsF p k).length) (q := lp (putsF p k)) hpl (fun i hi => by unfold lp; rw [List.getElem?_append_left hi]))
            have HB3 := Lib.hid hbr3
            clear hw3 own3 gb3 hio HNEXT2 HCC hbr3
            go_wp2
            refine bodyPost_ret (v := .tuple #[.slice (some ⟨g, 0, none⟩) (putsF p k).length cap, .int .i64 0]) (by simp [results, Try.results26, go_sem]) rfl ?_
            exact ⟨_, rfl, _, cap, G, rfl, HIO.out, hG, HB3.out⟩
set_option maxRecDepth 20000 in
set_option maxHeartbeats 4000000 in
theorem sNotesOfBells_calls (A : Option Addr) (n c : Nat) (f : Nat → BellV) (w : World) (h : BellRow w A n f) (hf : ∀ i, i < n → Fine (f i)) (hn : n ≤ 1048576) :
    Calls Try.prog 25 #[.slice A n c] w fun e w' => ∃ v, e = .returned (.tuple #[v, .int .i64 (rmC f n)]) ∧ NumsOut w (nbL f n) v w' := by
  have HV := Lib.hid (sbells_calls A n c f w h hf (by unfold maxLen; omega))
  have H := Lib.hid h
  clear h hf
  cases q1 : okBells f n
  · rw [show rmC f n = 1 by simp [rmC, q1], show nbL f n = [] by simp [nbL, q1]]
    rw [show (bellsOk f n && decide ((n : Int) ≤ 24)) = false from q1] at HV
    go_enter Try.func25, Try.ntmps25
    go_wp2_with (go_at_call 50; with_reducible refine HV.out.mono ?_; rintro e w1 ⟨rfl, nd, rfl⟩)
    refine bodyPost_ret (v := .tuple #[.slice none 0 0, .int .i64 1]) (by simp [results, Try.results25, go_sem]) rfl ?_
    exact ⟨_, rfl, numsNone _ _ (below_drewN (Below.refl _ _) nd)⟩
  · obtain ⟨p, hp⟩ : ∃ p : Nat → Int, p = fun i => (f i).no := ⟨_, rfl⟩
    rw [show rmC f n = 0 by simp [rmC, q1], show nbL f n = putsF p n by simp [nbL, q1, hp]]
    have HPP := Lib.hid hp
    clear hp
    rw [show (bellsOk f n && decide ((n : Int) ≤ 24)) = true from q1] at HV
    go_enter Try.func25, Try.ntmps25
    go_wp2_with (go_at_call 50; with_reducible refine HV.out.mono ?_; rintro e w1 ⟨rfl, nd, rfl⟩)
    have hbd : Below w.heap.size w (w.drewN nd) := below_drewN (Below.refl _ _) nd
    have HB0 := Lib.hid (hbd.alloc (Nat.le_refl _) (.cells #[] 2))
    clear hbd
    go_loopw [4, 5] (fun v i wr => ∃ (k : Nat) (A' : Option Addr) (c' G : Nat), k ≤ n ∧ i = .int .i64 k ∧ v = .slice A' (putsF p k).length c' ∧ w.heap.size ≤ G ∧ Hid (IntOwn wr A' (putsF p k).length (lp (putsF p k)) G) ∧ Below w.heap.size w wr) (fun _ i _ => n - (intOf i).toNat)
    case atStart => exact ⟨0, _, _, w.heap.size, by omega, rfl, rfl, Nat.le_refl _, Lib.hid (fun h0 => absurd h0 (by simp [putsF])), HB0.out⟩
    case round =>
      obtain ⟨k, A', c', G, hk, rfl, rfl, hG, hown, hbr⟩ := hrel
      have hpl := putsF_len p k
      by_cases hlt : k < n
      · obtain ⟨b, o, rfl, hrow⟩ := H.out (by omega)
        obtain ⟨AK, CK, -, c1, -⟩ := (hrow k hlt).keep hbr
        have HR := Lib.hid hrow
        have hno : (f k).no = p k := by rw [HPP.out]
        rw [hno] at c1
        have HC := Lib.hid (l00Put_calls A' c' (putsF p k) (p k) wr hown.out.row (by omega))
        clear hrow hno
        go_wp2_with fail
        go_at_call 69
        refine HC.out.mono ?_
        rintro e w2 ⟨v2, rfl, A2, cc2, G2, rfl, hio, hG2, hb2⟩
        have HIO := Lib.hid hio
        have HB2 := Lib.hid (hbr.trans (hb2.mono hbr.size))
        have hG3 := Nat.le_trans hbr.size hG2
        clear hio hb2
        go_wp2
        go_roundw
        case rel => exact ⟨k + 1, A2, cc2, G2, by omega, by go_num, rfl, hG3, HIO, HB2.out⟩
        case measure => simp [intOf]; omega
      · obtain rfl : k = n := by omega
        go_wp2
        refine bodyPost_ret (v := .tuple #[.slice A' (putsF p k).length c', .int .i64 0]) (by simp [results, Try.results25, go_sem]) rfl ?_
        exact ⟨_, rfl, A', c', G, rfl, hown.out, hG, hbr⟩
end Go.Proofs.Ytccjgeoebbnkoaa
