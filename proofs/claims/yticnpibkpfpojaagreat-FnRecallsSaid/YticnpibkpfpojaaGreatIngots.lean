/- The ingots of a bell's melts: collected and sorted by the program. -/
import Derived.Test.YticnpibkpfpojaaGreatLeft2
import Derived.Test.YticnpibkpfpojaaGreatSortS
import Derived.Test.YticnpibkpfpojaaGreatTxt
import Derived.Sort.OwnSorted
import Derived.Test.YticnpibkpfpojaaGreatShelfS
namespace Go.Proofs.YticnpibkpfpojaaGreat
set_option linter.unusedVariables false
open Go.RowKit Go.Sort

def nmL (y : MeltV) : List (List UInt8) := (List.range y.n).map fun j => (y.ss j).toList
theorem nmL_len (y : MeltV) : (nmL y).length = y.n := by simp [nmL]
theorem nmL_at (y : MeltV) {j : Nat} (h : j < y.n) : (nmL y)[j]? = some (y.ss j).toList := by simp [nmL, h]
def catL (gs : Nat → List (List UInt8)) : Nat → List (List UInt8)
  | 0 => []
  | k + 1 => catL gs k ++ gs k
def gsOf (g : Nat → MeltV) (m : Nat) (x : BellV) (k : Nat) : List (List UInt8) := nmL (g (mIx (fun q => (g q).id) m (x.ss k)))
theorem catL_mem {gs : Nat → List (List UInt8)} {z : List UInt8} : ∀ {n : Nat}, z ∈ catL gs n → ∃ k, k < n ∧ z ∈ gs k
  | 0, h => by simp [catL] at h
  | n + 1, h => by
    unfold catL at h
    rcases List.mem_append.1 h with h | h
    · obtain ⟨k, hk, hz⟩ := catL_mem h
      exact ⟨k, by omega, hz⟩
    · exact ⟨n, by omega, h⟩
theorem catL_nodup {gs : Nat → List (List UInt8)} : ∀ {n : Nat}, (∀ k, k < n → (gs k).Nodup) → (∀ j k, j < k → k < n → ∀ z, z ∈ gs j → z ∉ gs k) → (catL gs n).Nodup
  | 0, _, _ => by simp [catL]
  | n + 1, h1, h2 => by
    unfold catL
    refine List.nodup_append.2 ⟨catL_nodup (fun k hk => h1 k (by omega)) (fun j k a b => h2 j k a (by omega)), h1 n (by omega), fun a ha b hb e => ?_⟩
    subst e
    obtain ⟨k, hk, hz⟩ := catL_mem ha
    exact h2 k n hk (by omega) a hz hb
theorem catL_len {gs : Nat → List (List UInt8)} : ∀ {n : Nat}, (∀ k, k < n → (gs k).length ≤ 16) → (catL gs n).length ≤ 16 * n
  | 0, _ => by simp [catL]
  | n + 1, h => by
    have h1 := catL_len (n := n) (fun k hk => h k (by omega))
    have h2 := h n (by omega)
    unfold catL
    rw [List.length_append]
    omega
theorem okM_melt {g : Nat → MeltV} {m i : Nat} (h : okMelts g m = true) (hi : i < m) : 1 ≤ (g i).n ∧ (g i).n ≤ 16 ∧ namesB (g i).ss (g i).n = true ∧ ∀ j, j < i → commonB (g i) (g j) = false := by
  unfold okMelts meltsOk at h
  simp only [Bool.and_eq_true] at h
  have h2 := allB_of h.1 i hi
  unfold meltAt' goodAt meltV at h2
  simp only [Bool.and_eq_true, decide_eq_true_eq, Bool.not_eq_true'] at h2
  refine ⟨by omega, by omega, h2.1.1.2.2.2.1, fun j hj => ?_⟩
  cases q : commonB (g i) (g j)
  · rfl
  · have := anyB_hit (p := fun j => commonB (g i) (g j)) hj q
    rw [this] at h2
    simp at h2
theorem common_no {x y : MeltV} (h : commonB x y = false) : ∀ z, z ∈ nmL x → z ∉ nmL y := by
  intro z hx hy
  simp only [nmL, List.mem_map, List.mem_range] at hx hy
  obtain ⟨i, hi, rfl⟩ := hx
  obtain ⟨j, hj, e⟩ := hy
  have : commonB x y = true := by
    unfold commonB
    exact anyB_hit hi (anyB_hit (p := fun j => (x.ss i).toList == (y.ss j).toList) hj (by rw [e]; exact beq_self_eq_true _))
  rw [h] at this; cases this
theorem names_srt {ss : Nat → ByteArray} {n : Nat} (h : namesB ss n = true) : Srt ss n := srt_of fun k hk => by
  have h1 := allB_of h (k + 1) hk
  unfold goodAt at h1
  simp only [Bool.and_eq_true] at h1
  have h2 := h1.2
  show Op.bytesLess (ss k).toList (ss (k + 1)).toList = true
  simpa using h2
theorem srt_pair {ss : Nat → ByteArray} {n : Nat} (h : Srt ss n) : ((List.range n).map fun j => (ss j).toList).Pairwise RB := by
  rw [List.pairwise_map]
  refine (List.pairwise_lt_range (n := n)).imp_of_mem ?_
  intro a b ha hb hab
  exact h a b hab (List.mem_range.1 hb)
/-- what a bell of existing melts has -/
structure BellIn (g : Nat → MeltV) (m : Nat) (x : BellV) : Prop where
  n4 : x.n ≤ 4
  at_ : ∀ k, k < x.n → mIx (fun q => (g q).id) m (x.ss k) < m ∧ eqS (g (mIx (fun q => (g q).id) m (x.ss k))).id (x.ss k) = true ∧ hasId (fun q => (g q).id) m (x.ss k) = true ∧ 1 ≤ (g (mIx (fun q => (g q).id) m (x.ss k))).n ∧ (g (mIx (fun q => (g q).id) m (x.ss k))).n ≤ 16
  nd : (catL (gsOf g m x) x.n).Nodup
theorem bellIn_of {g : Nat → MeltV} {m : Nat} {x : BellV} (h1 : okMelts g m = true) (h2 : bellV x = true) (h3 : knownB (fun q => (g q).id) m x = true) : BellIn g m x := by
  have hx := bellV_few h2
  have hat : ∀ k, k < x.n → mIx (fun q => (g q).id) m (x.ss k) < m ∧ eqS (g (mIx (fun q => (g q).id) m (x.ss k))).id (x.ss k) = true ∧ hasId (fun q => (g q).id) m (x.ss k) = true ∧ 1 ≤ (g (mIx (fun q => (g q).id) m (x.ss k))).n ∧ (g (mIx (fun q => (g q).id) m (x.ss k))).n ≤ 16 := fun k hk => by
    have h4 := allB_of h3 k hk
    obtain ⟨a, -, b⟩ := mIx_of h4
    obtain ⟨c, d, -⟩ := okM_melt h1 a
    exact ⟨a, b, h4, c, d⟩
  have hs : Srt x.ss x.n := srt_of fun k hk => by
    unfold bellV bellB at h2
    simp only [Bool.and_eq_true] at h2
    have h5 := allB_of h2.1 (k + 1) hk
    unfold goodAt at h5
    simp only [Bool.and_eq_true] at h5
    have h6 := h5.2
    show Op.bytesLess (x.ss k).toList (x.ss (k + 1)).toList = true
    simpa using h6
  refine ⟨hx.1, hat, catL_nodup (fun k hk => ?_) (fun j k hjk hk => ?_)⟩
  · exact rb_nodup (srt_pair (names_srt (okM_melt h1 (hat k hk).1).2.2.1))
  · obtain ⟨a1, a2, -⟩ := hat j (by omega)
    obtain ⟨b1, b2, -⟩ := hat k hk
    have hne : mIx (fun q => (g q).id) m (x.ss j) ≠ mIx (fun q => (g q).id) m (x.ss k) := fun e => by
      rw [e] at a2
      have e1 : (x.ss j).toList = (x.ss k).toList := (eq_of_beq a2).symm.trans (eq_of_beq b2)
      have := hs j k hjk hk
      unfold ltS at this
      rw [e1, less_irrefl] at this; cases this
    have hc : commonB (g (mIx (fun q => (g q).id) m (x.ss j))) (g (mIx (fun q => (g q).id) m (x.ss k))) = false := by
      rcases Nat.lt_or_ge (mIx (fun q => (g q).id) m (x.ss j)) (mIx (fun q => (g q).id) m (x.ss k)) with h | h
      · rw [commonB_comm]; exact (okM_melt h1 b1).2.2.2 _ h
      · exact (okM_melt h1 a1).2.2.2 _ (by omega)
    exact common_no hc
theorem own_shapeS {w : World} {base n e : Nat} {v : Value} {zs : List (List UInt8)} (h : w.ownsRow base e 1 v n (zs.map encStr)) (hn : zs.length = n) :
    (v = .slice none 0 0 ∧ n = 0) ∨ ∃ g cap, v = .slice (some ⟨g, 0, none⟩) n cap ∧ base ≤ g ∧ g < w.heap.size ∧ n ≤ cap ∧ cap ≤ maxLen ∧ Holds encStr w g 0 zs.toArray ∧
      ∀ ts : List (List UInt8), ts.length = n → ∀ nn os, (grow (putRow encStr (Sort.ahead w nn) g 0 ts.toArray) os).ownsRow base e 1 v n (ts.map encStr) ∧ w.grownBy (grow (putRow encStr (Sort.ahead w nn) g 0 ts.toArray) os) (some g) := by
  subst hn
  rcases h.2 with ⟨hv, h0⟩ | ⟨g, cap, cur, hv, hb, hg, hc, hm, hs, ht⟩
  · exact Or.inl ⟨hv, h0⟩
  · refine Or.inr ⟨g, cap, hv, hb, (Array.getElem?_eq_some_iff.1 hg).1, hc, hm, holds_of_block hg (by simpa using ht), fun ts hts nn os => ⟨?_, grownBy_sorted _⟩⟩
    rw [hv]
    exact ownsRow_sorted hts hb hg hc hm hs
theorem catS {w : World} {base e : Nat} {v : Value} {L : List (List UInt8)} {y : MeltV} (h : w.ownsRow base e 1 v (L.length + y.n) (L.map encStr ++ (nmL y).map encStr)) : w.ownsRow base e 1 v (L ++ nmL y).length ((L ++ nmL y).map encStr) := by
  rw [List.map_append, List.length_append, nmL_len]
  exact h
theorem sl_sort {w : World} {A : Option Addr} {n G : Nat} {ts : List (List UInt8)} (h : StrOwn w A n (sl ts) G) (hl : ts.length = n) : StrOwn w A ts.length (sl ts) G := by rw [hl]; exact h
set_option maxRecDepth 20000 in
set_option maxHeartbeats 8000000 in
theorem ingotsOf_calls (B : Option Addr) (m d : Nat) (g : Nat → MeltV) (s : ByteArray) (no ma fe : Int) (A : Option Addr) (n c : Nat) (ss : Nat → ByteArray) (ms : Nat → Int) (w : World) (h2 : MeltRow w B m g) (hm : m ≤ 1048576) (hs : Srt (fun q => (g q).id) m) (h : ShareRow w A n ss ms) (hin : BellIn g m ⟨s, no, ma, fe, n, ss, ms⟩) :
    Calls Tryz.prog 26 #[.slice B m d, .agg #[.string s, .int .i64 no, .int .i64 ma, .int .i64 fe, .slice A n c]] w fun e w' => ∃ v, e = .returned v ∧ TxtOut w (putAll [] (catL (gsOf g m ⟨s, no, ma, fe, n, ss, ms⟩) n)) v w' := by
  obtain ⟨i0, hi, hz0, hz1, hz2⟩ := info_parts Str_info
  have hn4 : n ≤ 4 := hin.n4
  have HIN := Lib.hid hin
  have HS := Lib.hid hs
  obtain ⟨gs, hgs⟩ : ∃ gs, gs = gsOf g m ⟨s, no, ma, fe, n, ss, ms⟩ := ⟨_, rfl⟩
  have HSRT := Lib.hid (sort_putAll hin.nd)
  rw [← hgs] at HSRT ⊢
  have HGL : Hid (∀ k, k < n → (gs k).length ≤ 16) := Lib.hid fun k hk => by rw [hgs]; unfold gsOf; rw [nmL_len]; exact (hin.at_ k hk).2.2.2.2
  have HGS := Lib.hid hgs
  have H := Lib.hid h
  have HM := Lib.hid h2
  have HB0 := Lib.hid ((Below.refl w.heap.size w).alloc (Nat.le_refl _) (.cells #[.string s, .int .i64 no, .int .i64 ma, .int .i64 fe, .slice A n c] 37))
  clear h h2 hs hin hgs
  go_enter Tryz.func26, Tryz.ntmps26
  go_wp2
  go_loopw [5, 13] (fun v i wr => ∃ k : Nat, k ≤ n ∧ i = .int .i64 k ∧ Hid (wr.ownsRow w.heap.size 9 1 v (catL gs k).length ((catL gs k).map encStr)) ∧ Below w.heap.size w wr) (fun _ i _ => n - (intOf i).toNat)
  case atStart => exact ⟨0, by omega, rfl, Lib.hid (World.ownsRow_nil _ _ _ _), HB0.out⟩
  case round =>
    obtain ⟨k, hk, rfl, hown, hbr⟩ := hrel
    have hcl := catL_len (n := k) (fun j hj => HGL.out j (by omega))
    by_cases hlt : k < n
    · obtain ⟨b2, o2, rfl, hrow2⟩ := H.out (by omega)
      obtain ⟨e0, e1⟩ := (hrow2 k hlt).below hbr (Nat.le_refl _)
      have HR2 := Lib.hid hrow2
      have hb1 := hbr.alloc hbr.size (.cells #[.string (ss k), .int .i64 (ms k)] 39)
      have hown1 := Lib.hid (hown.out.alloc (.cells #[.string (ss k), .int .i64 (ms k)] 39))
      have HN := Lib.hid (meltNamed_calls B m d g (ss k) _ (HM.out.keep hb1) hm)
      have HB1 := Lib.hid hb1
      clear hrow2 hb1
      go_wp2_with fail
      go_at_call 28
      with_reducible refine HN.out.mono ?_
      rintro e w3 ⟨hno, hb⟩
      have hb3 := HB1.out.trans (hb.mono HB1.out.size)
      have hown3 := Lib.hid (own_keep hown1.out hb)
      obtain ⟨a1, a2, a3, a4, a5⟩ := HIN.out.at_ k hlt
      clear hb hbr e0 e1 hown hown1
      rcases hno with ⟨q, AQ, CQ, hq, heq, -, rfl, hrowq⟩ | ⟨hsrt, -⟩
      · have hqi : q = mIx (fun q => (g q).id) m (ss k) := srt_uniq HS.out hq a1 heq a2
        have hgk : Hid (gs k = nmL (g q)) := Lib.hid (by rw [HGS.out, hqi]; rfl)
        rw [← hqi] at a4 a5
        obtain ⟨b4, o4, rfl, hrow4⟩ := hrowq (by omega)
        have HR4 := Lib.hid hrow4
        have hbm := hb3.alloc hb3.size (.cells #[.string (g q).id, .slice (some ⟨b4, o4, none⟩) (g q).n CQ, .int .i64 (g q).ma] 66)
        have hnews : ∀ (j : Nat) (u : Value), ((nmL (g q)).map encStr)[j]? = some u → (w3.alloc (.cells #[.string (g q).id, .slice (some ⟨b4, o4, none⟩) (g q).n CQ, .int .i64 (g q).ma] 66)).cell? ((⟨b4, o4, none⟩ : Addr).add j) = some u := by
          intro j u hj
          have hjn : j < (g q).n := by
            have := (List.getElem?_eq_some_iff.1 hj).1
            simpa [nmL_len] using this
          rw [List.getElem?_map, nmL_at _ hjn] at hj
          obtain rfl : encStr ((g q).ss j).toList = u := by simpa using hj
          have := cell_keep ((Below.refl w3.heap.size w3).alloc (Nat.le_refl _) (.cells #[.string (g q).id, .slice (some ⟨b4, o4, none⟩) (g q).n CQ, .int .i64 (g q).ma] 66)) (HR4.out j hjn)
          rw [enc_of ((g q).ss j)] at this
          by_cases hj0 : j = 0
          · subst hj0; simpa [Addr.add] using this
          · simpa [Addr.add, hj0] using this
        have HNEWS := Lib.hid hnews
        have HBM := Lib.hid hbm
        clear hqi heq a1 a2 a3 hrow4 hrowq hnews hbm
        go_wp2_with (at_builtin; refine wpList_append_own _ rfl _ _ 32 rfl w.heap.size 9 i0 (.string ⟨#[]⟩) 1 16 Tryz.underlying32 hi hz0 hz1 hz2 rfl (by decide) _ _ _ rfl (hown3.out.alloc _) ⟨b4, o4, none⟩ (g q).n CQ ((nmL (g q)).map encStr) rfl (by rw [List.length_map, nmL_len, Nat.mul_one]) HNEWS.out (fun u hu => by obtain ⟨z, -, rfl⟩ := List.mem_map.1 hu; rfl) (by unfold maxLen; omega) (by omega) (by have := hb3.size; simp; omega) ?_; intro v' w4 hown' hgrow _; have hb4 := below_append hb3 hb3.size hown3.out hgrow; have HOWN := Lib.hid (catS hown'); have HB4 := Lib.hid hb4; clear hown' hgrow hb4)
        go_roundw
        case rel => exact ⟨k + 1, by omega, by go_num, by rw [show catL gs (k + 1) = catL gs k ++ gs k from rfl, hgk.out]; exact HOWN, HB4.out⟩
        case measure => simp [intOf]; omega
      · exfalso
        have := hsrt HS.out
        have a3' : hasId (fun q => (g q).id) m (ss k) = true := a3
        rw [a3'] at this; cases this
    · obtain rfl : k = n := by omega
      obtain ⟨M, hM⟩ : ∃ M, M = (catL gs k).length := ⟨_, rfl⟩
      rw [← hM] at hown hcl
      rcases own_shapeS hown.out hM.symm with ⟨rfl, rfl⟩ | ⟨gb, cap, rfl, hg0, hgl, hcap, hcm, hH, hnext⟩
      · have hnil : catL gs k = [] := List.eq_nil_of_length_eq_zero hM.symm
        have HNIL := Lib.hid hnil
        clear hnil hM
        go_wp2_with (go_at_call 46; refine (Tryz.slices_Sort_string_none none 0 wr).mono ?_; rintro e w2 ⟨rfl, rfl⟩)
        go_ret
        exact ⟨_, rfl, none, 0, w.heap.size, by rw [HNIL.out]; rfl, by rw [HNIL.out]; exact fun h => absurd h (by simp [putAll]), Nat.le_refl _, hbr⟩
      · have hsort := Tryz.slices_Sort_string gb 0 cap (catL gs k) wr hH hgl (by omega)
        rw [← hM] at hsort
        have HSORT := Lib.hid hsort
        have HNEXT := Lib.hid hnext
        have HMM := Lib.hid hM
        clear hsort hnext hH hown hM
        go_wp2_with fail
        go_at_call 46
        with_reducible refine HSORT.out.mono ?_
        rintro e w2 ⟨rfl, nn, os, hw2⟩
        obtain ⟨ts, hts⟩ : ∃ ts, ts = (catL gs k).mergeSort fun x y => decide (x ≤ y) := ⟨_, rfl⟩
        have htl : ts.length = M := by rw [hts, List.length_mergeSort, ← HMM.out]
        have hput : putAll [] (catL gs k) = ts := by rw [hts]; exact HSRT.out.symm
        rw [← hts] at hw2
        obtain ⟨own2, gb2⟩ := HNEXT.out ts htl nn os
        rw [← hw2] at own2 gb2
        have hbr2 : Below w.heap.size w w2 := hbr.grown gb2 hbr.size (fun j hj => by cases hj; exact hg0)
        have e3 := sl_strs ts
        rw [htl] at e3
        rw [e3] at own2
        obtain ⟨A', c', G, hv, hio, hG⟩ := strOwn_of own2 hbr2.size
        cases hv
        have HIO := Lib.hid hio
        have HP := Lib.hid hput
        have HT := Lib.hid htl
        have HB3 := Lib.hid hbr2
        clear hw2 HNEXT HSORT hts gb2 own2 hio hput htl e3 hbr2
        go_wp2
        go_ret
        exact ⟨_, rfl, _, cap, G, by rw [HP.out, HT.out]; rfl, by rw [HP.out, HT.out]; exact HIO.out, hG, HB3.out⟩
end Go.Proofs.YticnpibkpfpojaaGreat
