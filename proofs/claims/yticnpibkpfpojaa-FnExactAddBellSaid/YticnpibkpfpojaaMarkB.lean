/- What mark and held do with a list of bells of the call's own, each with shares of its own: every mark is found again. -/
import Derived.Test.YticnpibkpfpojaaMarkS
import Derived.Test.YticnpibkpfpojaaBellO
namespace Go.Proofs.Yticnpibkpfpojaa
set_option linter.unusedVariables false
set_option linter.unusedSimpArgs false
open Go.RowKit

/-- bells at the head of a block of the call's own, their shares apart -/
def BellXS (w : World) (lo top : Nat) (arr : Array Value) (i : Nat) (x : BellV) (g c : Nat) : Prop := (arr[i * 5]? = some (.string x.id) ∧ arr[i * 5 + 1]? = some (.int .i64 x.no) ∧ arr[i * 5 + 2]? = some (.int .i64 x.ma) ∧ arr[i * 5 + 3]? = some (.int .i64 x.fe)) ∧ arr[i * 5 + 4]? = some (.slice (some ⟨g, 0, none⟩) x.n c) ∧ lo ≤ g ∧ g < top ∧ ShareOwn w (some ⟨g, 0, none⟩) x.n x.ss x.ms g
def BellOwnS (w : World) (A : Option Addr) (n : Nat) (f : Nat → BellV) (G lo : Nat) : Prop := 0 < n → A = some ⟨G, 0, none⟩ ∧ lo ≤ G ∧ ∃ arr : Array Value, Blk w G 38 arr ∧ n * 5 ≤ arr.size ∧ ∃ gs cs : Nat → Nat, (∀ i, i < n → BellXS w lo w.heap.size arr i (f i) (gs i) (cs i)) ∧ ∀ i j, i < n → j < n → i ≠ j → gs i ≠ gs j
theorem BellOwn.weak {w : World} {A : Option Addr} {n G lo : Nat} {f : Nat → BellV} (h : BellOwn w A n f G lo) : BellOwnS w A n f G lo := fun hn => by
  obtain ⟨hA, hl, arr, hb, hs, gs, cs, hx, hap⟩ := h hn
  refine ⟨hA, hl, arr, hb, hs, gs, cs, fun i hi => ?_, fun i j hi hj hne => ?_⟩
  · obtain ⟨a, a4, a5, a6, a7⟩ := hx i hi
    exact ⟨a, a4, a5, a6, a7.own⟩
  · rcases Nat.lt_or_ge i j with q | q
    · exact hap i j q hj
    · exact (hap j i (by omega) hi).symm
theorem BellOwnS.row {w : World} {A : Option Addr} {n G lo : Nat} {f : Nat → BellV} (h : BellOwnS w A n f G lo) : BellRow w A n f := fun hn => by
  obtain ⟨rfl, -, arr, hb, -, gs, cs, hx, -⟩ := h hn
  refine ⟨G, 0, rfl, fun i hi => ?_⟩
  obtain ⟨⟨a0, a1, a2, a3⟩, a4, -, -, a7⟩ := hx i hi
  rw [Nat.zero_add]
  exact ⟨_, cs i, (hb.cell _).trans a0, (hb.cell _).trans a1, (hb.cell _).trans a2, (hb.cell _).trans a3, (hb.cell _).trans a4, a7.row⟩
theorem BellOwnS.keep {w w' : World} {A : Option Addr} {n G lo : Nat} {f : Nat → BellV} (h : BellOwnS w A n f G lo) (hb : Below w.heap.size w w') : BellOwnS w' A n f G lo := fun hn => by
  obtain ⟨hA, hl, arr, hk, hs, gs, cs, hx, hap⟩ := h hn
  refine ⟨hA, hl, arr, hk.keep hb, hs, gs, cs, fun i hi => ?_, hap⟩
  obtain ⟨a, a4, a5, a6, a7⟩ := hx i hi
  exact ⟨a, a4, a5, Nat.lt_of_lt_of_le a6 hb.size, a7.keep hb⟩
theorem BellOwnS.congr {w : World} {A : Option Addr} {n G lo : Nat} {f f' : Nat → BellV} (h : BellOwnS w A n f G lo) (he : ∀ i, i < n → f i = f' i) : BellOwnS w A n f' G lo := fun hn => by
  obtain ⟨hA, hl, arr, hk, hs, gs, cs, hx, hap⟩ := h hn
  exact ⟨hA, hl, arr, hk, hs, gs, cs, fun i hi => by rw [← he i hi]; exact hx i hi, hap⟩
/-- what lies behind the marked zone stays -/
theorem BellOwnS.far {w w' : World} {A : Option Addr} {n G lo l0 hi : Nat} {f : Nat → BellV} (h : BellOwnS w A n f G lo) (hk : Kin l0 hi w w') (hh : hi ≤ lo) : BellOwnS w' A n f G lo := fun hn => by
  obtain ⟨hA, hl, arr, hb, hs, gs, cs, hx, hap⟩ := h hn
  refine ⟨hA, hl, arr, (hk.far _ hb.lt (by omega)).trans hb, hs, gs, cs, fun i hi => ?_, hap⟩
  obtain ⟨a, a4, a5, a6, a7⟩ := hx i hi
  exact ⟨a, a4, a5, Nat.lt_of_lt_of_le a6 hk.size, a7.same (hk.far _ a6 (by omega))⟩
theorem s4_same (w1 : World) (G j : Nat) (y : BellV) {k : Nat} (hk : k ≠ G) : ((((w1.setCell ⟨G, j * 5, none⟩ (.string y.id)).setCell ⟨G, j * 5 + 1, none⟩ (.int .i64 y.no)).setCell ⟨G, j * 5 + 2, none⟩ (.int .i64 y.ma)).setCell ⟨G, j * 5 + 3, none⟩ (.int .i64 y.fe)).heap[k]? = w1.heap[k]? :=
  (Below.heap_setCell _ _ _ _ hk).trans ((Below.heap_setCell _ _ _ _ hk).trans ((Below.heap_setCell _ _ _ _ hk).trans (Below.heap_setCell _ _ _ _ hk)))
theorem s4_size (w1 : World) (G j : Nat) (y : BellV) : ((((w1.setCell ⟨G, j * 5, none⟩ (.string y.id)).setCell ⟨G, j * 5 + 1, none⟩ (.int .i64 y.no)).setCell ⟨G, j * 5 + 2, none⟩ (.int .i64 y.ma)).setCell ⟨G, j * 5 + 3, none⟩ (.int .i64 y.fe)).heap.size = w1.heap.size := by simp [World.setCell]
theorem shareOwn_ne {w : World} {n g G : Nat} {arr : Array Value} {ss : Nat → ByteArray} {ms : Nat → Int} (h : ShareOwn w (some ⟨g, 0, none⟩) n ss ms g) (h0 : 0 < n) (hb : Blk w G 38 arr) : g ≠ G := fun e => by
  obtain ⟨-, arr2, hb2, -⟩ := h h0
  subst e
  have := (hb2.uniq hb).1
  exact absurd this (by decide)
theorem mark_step {w w1 w3 : World} {n G lo j : Nat} {F : Nat → BellV} {arr : Array Value} {gs cs : Nat → Nat} (hl : lo ≤ G) (hb : Blk w G 38 arr) (hs : n * 5 ≤ arr.size) (hx : ∀ i, i < n → BellXS w lo w.heap.size arr i (F i) (gs i) (cs i)) (hap : ∀ i j, i < n → j < n → i ≠ j → gs i ≠ gs j) (hpos : ∀ i, i < n → 0 < (F i).n) (hj : j < n) (y : BellV) (hyn : y.n = (F j).n) (h01 : Below w.heap.size w w1) (h3 : ((((w1.setCell ⟨G, j * 5, none⟩ (.string y.id)).setCell ⟨G, j * 5 + 1, none⟩ (.int .i64 y.no)).setCell ⟨G, j * 5 + 2, none⟩ (.int .i64 y.ma)).setCell ⟨G, j * 5 + 3, none⟩ (.int .i64 y.fe)).grownBy w3 (some (gs j))) (hso : ShareOwn w3 (some ⟨gs j, 0, none⟩) y.n y.ss y.ms (gs j)) :
    BellOwnS w3 (some ⟨G, 0, none⟩) n (fun i => if i = j then y else F i) G lo ∧ Below lo w w3 := by
  have hne : ∀ i, i < n → gs i ≠ G := fun i hi => shareOwn_ne (hx i hi).2.2.2.2 (hpos i hi) hb
  have b1 := hb.keep h01
  have b2 := (((b1.set_ (j * 5) (.string y.id)).set_ (j * 5 + 1) (.int .i64 y.no)).set_ (j * 5 + 2) (.int .i64 y.ma)).set_ (j * 5 + 3) (.int .i64 y.fe)
  have hz := s4_size w1 G j y
  have hsz := h01.size
  have hs3 := h3.size
  have hgl : G < w.heap.size := hb.lt
  have e0 : ∀ q, q ≠ j * 5 → q ≠ j * 5 + 1 → q ≠ j * 5 + 2 → q ≠ j * 5 + 3 → ((((arr.setIfInBounds (j * 5) (.string y.id)).setIfInBounds (j * 5 + 1) (.int .i64 y.no)).setIfInBounds (j * 5 + 2) (.int .i64 y.ma)).setIfInBounds (j * 5 + 3) (.int .i64 y.fe))[q]? = arr[q]? := fun q h0 h1 h2 h3 => by
    rw [Array.getElem?_setIfInBounds_ne (Ne.symm h3), Array.getElem?_setIfInBounds_ne (Ne.symm h2), Array.getElem?_setIfInBounds_ne (Ne.symm h1), Array.getElem?_setIfInBounds_ne (Ne.symm h0)]
  have v0 : ((((arr.setIfInBounds (j * 5) (.string y.id)).setIfInBounds (j * 5 + 1) (.int .i64 y.no)).setIfInBounds (j * 5 + 2) (.int .i64 y.ma)).setIfInBounds (j * 5 + 3) (.int .i64 y.fe))[j * 5]? = some (.string y.id) := by
    rw [Array.getElem?_setIfInBounds_ne (by omega), Array.getElem?_setIfInBounds_ne (by omega), Array.getElem?_setIfInBounds_ne (by omega), Array.getElem?_setIfInBounds_self_of_lt (by omega)]
  have v1 : ((((arr.setIfInBounds (j * 5) (.string y.id)).setIfInBounds (j * 5 + 1) (.int .i64 y.no)).setIfInBounds (j * 5 + 2) (.int .i64 y.ma)).setIfInBounds (j * 5 + 3) (.int .i64 y.fe))[j * 5 + 1]? = some (.int .i64 y.no) := by
    rw [Array.getElem?_setIfInBounds_ne (by omega), Array.getElem?_setIfInBounds_ne (by omega), Array.getElem?_setIfInBounds_self_of_lt (by (try simp); omega)]
  have v2 : ((((arr.setIfInBounds (j * 5) (.string y.id)).setIfInBounds (j * 5 + 1) (.int .i64 y.no)).setIfInBounds (j * 5 + 2) (.int .i64 y.ma)).setIfInBounds (j * 5 + 3) (.int .i64 y.fe))[j * 5 + 2]? = some (.int .i64 y.ma) := by
    rw [Array.getElem?_setIfInBounds_ne (by omega), Array.getElem?_setIfInBounds_self_of_lt (by (try simp); omega)]
  have v3 : ((((arr.setIfInBounds (j * 5) (.string y.id)).setIfInBounds (j * 5 + 1) (.int .i64 y.no)).setIfInBounds (j * 5 + 2) (.int .i64 y.ma)).setIfInBounds (j * 5 + 3) (.int .i64 y.fe))[j * 5 + 3]? = some (.int .i64 y.fe) := by
    rw [Array.getElem?_setIfInBounds_self_of_lt (by (try simp); omega)]
  have hzz : n * 5 ≤ ((((arr.setIfInBounds (j * 5) (.string y.id)).setIfInBounds (j * 5 + 1) (.int .i64 y.no)).setIfInBounds (j * 5 + 2) (.int .i64 y.ma)).setIfInBounds (j * 5 + 3) (.int .i64 y.fe)).size := by simpa using hs
  have sm : ∀ k, k < w.heap.size → k ≠ G → k ≠ gs j → w3.heap[k]? = w.heap[k]? := fun k hk h1 h2 => (h3.block k (by omega) (fun e => h2 (Option.some.inj e))).trans ((s4_same w1 G j y h1).trans (h01.block k hk))
  have b3 : Blk w3 G 38 ((((arr.setIfInBounds (j * 5) (.string y.id)).setIfInBounds (j * 5 + 1) (.int .i64 y.no)).setIfInBounds (j * 5 + 2) (.int .i64 y.ma)).setIfInBounds (j * 5 + 3) (.int .i64 y.fe)) := (h3.block G (by omega) (fun e => hne j hj (Option.some.inj e).symm)).trans b2
  generalize ((((arr.setIfInBounds (j * 5) (.string y.id)).setIfInBounds (j * 5 + 1) (.int .i64 y.no)).setIfInBounds (j * 5 + 2) (.int .i64 y.ma)).setIfInBounds (j * 5 + 3) (.int .i64 y.fe)) = arr' at *
  refine ⟨fun _ => ⟨rfl, hl, arr', b3, hzz, gs, cs, fun i hi => ?_, hap⟩, ?_⟩
  · obtain ⟨⟨a0, a1, a2, a3⟩, a4, a5, a6, a7⟩ := hx i hi
    by_cases hij : i = j
    · show BellXS w3 lo w3.heap.size arr' i (if i = j then y else F i) (gs i) (cs i)
      rw [if_pos hij, hij]
      rw [hij] at a4 a5 a6
      exact ⟨⟨v0, v1, v2, v3⟩, by rw [e0 _ (by omega) (by omega) (by omega) (by omega), hyn]; exact a4, a5, by omega, hso⟩
    · show BellXS w3 lo w3.heap.size arr' i (if i = j then y else F i) (gs i) (cs i)
      rw [if_neg hij]
      exact ⟨⟨(e0 _ (by omega) (by omega) (by omega) (by omega)).trans a0, (e0 _ (by omega) (by omega) (by omega) (by omega)).trans a1, (e0 _ (by omega) (by omega) (by omega) (by omega)).trans a2, (e0 _ (by omega) (by omega) (by omega) (by omega)).trans a3⟩, (e0 _ (by omega) (by omega) (by omega) (by omega)).trans a4, a5, by omega, a7.same (sm _ a6 (hne i hi) (hap i j hi hj hij))⟩
  · have hB4 := (((Below.refl G w1).setCell (p := ⟨G, j * 5, none⟩) (Nat.le_refl _) (.string y.id)).setCell (p := ⟨G, j * 5 + 1, none⟩) (Nat.le_refl _) (.int .i64 y.no)).setCell (p := ⟨G, j * 5 + 2, none⟩) (Nat.le_refl _) (.int .i64 y.ma) |>.setCell (p := ⟨G, j * 5 + 3, none⟩) (Nat.le_refl _) (.int .i64 y.fe)
    refine ⟨h3.os.trans (hB4.os.trans h01.os), h3.tape.trans (hB4.tape.trans h01.tape), h3.output.trans (hB4.output.trans h01.output), by omega, fun k hk => ?_⟩
    have := (hx j hj).2.2.1
    exact sm k (by omega) (by omega) (by omega)
noncomputable def mkB (k : Nat) (f : Nat → BellV) : Nat → BellV := fun i =>
  let p := k + 4 * i + 2 * sumN (fun i => (f i).n) i
  ⟨mkT p, ((p + 1 : Nat) : Int), ((p + 2 : Nat) : Int), ((p + 3 : Nat) : Int), (f i).n, mkSs (p + 4), mkSm (p + 4)⟩
noncomputable def mkF (k j : Nat) (f : Nat → BellV) : Nat → BellV := fun i => if i < j then mkB k f i else f i
theorem mkF_next (k j : Nat) (f : Nat → BellV) (i : Nat) : (if i = j then mkB k f j else mkF k j f i) = mkF k (j + 1) f i := by
  unfold mkF
  by_cases h : i = j
  · subst h; rw [if_pos rfl, if_pos (by omega)]
  · rw [if_neg h]
    by_cases h2 : i < j
    · rw [if_pos h2, if_pos (by omega)]
    · rw [if_neg h2, if_neg (by omega)]
theorem mkF_n (k j : Nat) (f : Nat → BellV) (i : Nat) : (mkF k j f i).n = (f i).n := by
  unfold mkF
  split <;> rfl
set_option maxRecDepth 20000 in
set_option maxHeartbeats 4000000 in
theorem markBellS_calls (A : Option Addr) (n c G lo k : Nat) (f : Nat → BellV) (w : World) (h : BellOwnS w A n f G lo) (hpos : ∀ i, i < n → 0 < (f i).n) (hlo : lo ≤ w.heap.size) (hn : n + sumN (fun i => (f i).n) n ≤ 1048576) (h1 : 1 ≤ k) (hk : k ≤ 100000000) :
    Calls Try.prog 16 #[.slice A n c, .int .i64 k] w fun e w' => e = .returned (.int .i64 ((k + 4 * n + 2 * sumN (fun i => (f i).n) n : Nat) : Int)) ∧ BellOwnS w' A n (mkB k f) G lo ∧ Below lo w w' := by
  have H := Lib.hid h
  have HP := Lib.hid hpos
  obtain ⟨ns, hns⟩ : ∃ ns : Nat → Nat, ns = fun i => (f i).n := ⟨_, rfl⟩
  rw [← hns] at hn ⊢
  have HNS := Lib.hid hns
  clear h hpos hns
  go_enter Try.func16, Try.ntmps16
  go_wp2
  go_loopw [1, 5] (fun q i wr => ∃ j : Nat, j ≤ n ∧ q = .int .i64 ((k + 4 * j + 2 * sumN ns j : Nat) : Int) ∧ i = .int .i64 j ∧ Hid (BellOwnS wr A n (mkF k j f) G lo) ∧ Hid (Below lo w wr)) (fun _ i _ => n - (intOf i).toNat)
  case atStart => exact ⟨0, by omega, rfl, rfl, Lib.hid (H.out.congr (fun i _ => by unfold mkF; rw [if_neg (by omega)])), Lib.hid (Below.refl _ _)⟩
  case round =>
    obtain ⟨j, hj, rfl, rfl, ho, hg⟩ := hrel
    by_cases hlt : j < n
    · obtain ⟨rfl, hl, arr, hb, hs, gs, cs, hx, hap⟩ := ho.out (by omega)
      obtain ⟨⟨hx0, hx1, hx2, hx3⟩, hx4, hgl, hgt, hso⟩ := hx j hlt
      have hnj : (mkF k j f j).n = ns j := by rw [mkF_n, HNS.out]
      have HX0 := Lib.hid hx0
      have HX1 := Lib.hid hx1
      have HX2 := Lib.hid hx2
      have HX3 := Lib.hid hx3
      have HX4 := Lib.hid hx4
      have HB := Lib.hid hb
      have HS := Lib.hid hs
      have HXX := Lib.hid hx
      have HAP := Lib.hid hap
      have HSO := Lib.hid hso
      rw [hnj] at HX4 HSO
      have s1 := sumN_le ns (show j + 1 ≤ n by omega)
      have s2 : sumN ns (j + 1) = sumN ns j + ns j := rfl
      obtain ⟨M, hM⟩ : ∃ M : Nat, M = k + 4 * j + 2 * sumN ns j := ⟨_, rfl⟩
      rw [← hM]
      have hMb : M ≤ 900000000 := by omega
      have hM1 : 1 ≤ M := by omega
      have hnj2 : ns j ≤ 1048576 := by omega
      have HM := Lib.hid hM
      have HS2 := Lib.hid s2
      have HNJ := Lib.hid hnj
      have hgj : gs j ≠ G := shareOwn_ne HSO.out (by rw [HNS.out]; exact HP.out j hlt) hb
      obtain ⟨gj, hgje⟩ : ∃ gj, gj = gs j := ⟨_, rfl⟩
      rw [← hgje] at HX4 HSO hgj hgl hgt
      have HGJ := Lib.hid hgje
      clear hb hs hM hx0 hx1 hx2 hx3 hx4 hx hap hso s1 s2 hnj hgje
      go_wp2_with fail
      go_at_call 41
      refine (markTx_calls M _ hM1 (by omega)).mono ?_
      rintro e w1 ⟨rfl, hb⟩
      have hb1 := HB.out.keep hb
      have y0 := (hb1.cell (j * 5)).trans HX0.out
      have y1 := (hb1.cell (j * 5 + 1)).trans HX1.out
      have y2 := (hb1.cell (j * 5 + 2)).trans HX2.out
      have y3 := (hb1.cell (j * 5 + 3)).trans HX3.out
      have y4 := (hb1.cell (j * 5 + 4)).trans HX4.out
      have f0 := hb1.frozen
      have HB1 := Lib.hid hb
      have HSO1 := Lib.hid (HSO.out.keep hb)
      clear hb1 hb
      go_wp2_with fail
      go_at_call 43
      have e4 : ((M + 4 : Nat) : Int) = (M : Int) + 1 + 1 + 1 + 1 := by omega
      have HKS := Lib.hid (fun W q => markShareS_calls (some ⟨gj, 0, none⟩) (ns j) (cs j) gj (mkF k j f j).ss (mkF k j f j).ms (M + 4) W q hnj2 (by omega) (by omega))
      rw [e4] at HKS
      clear y0 y1 y2 y3 y4 f0
      have HS4 := Lib.hid (fun (W : World) (hW : W.heap[gj]? = w1.heap[gj]?) => HSO1.out.same hW)
      refine (HKS.out _ (HS4.out _ ((Below.heap_setCell _ _ _ _ hgj).trans ((Below.heap_setCell _ _ _ _ hgj).trans ((Below.heap_setCell _ _ _ _ hgj).trans (Below.heap_setCell _ _ _ _ hgj)))))).mono ?_
      rintro e w2 ⟨rfl, hso2, hg2⟩
      have HST : Hid (BellOwnS w2 (some ⟨G, 0, none⟩) n (mkF k (j + 1) f) G lo ∧ Below lo wr w2) := Lib.hid (by
        have ey : mkB k f j = ⟨mkT M, (M : Int) + 1, (M : Int) + 1 + 1, (M : Int) + 1 + 1 + 1, ns j, mkSs (M + 4), mkSm (M + 4)⟩ := by
          have h1 := HM.out
          have h2 := HNS.out
          subst h2
          unfold mkB
          simp only [← h1]
          congr 1
        have q := mark_step hl HB.out HS.out HXX.out HAP.out (fun i hi => by rw [mkF_n]; exact HP.out i hi) hlt (mkB k f j) (by rw [HNJ.out, ey]) HB1.out (by rw [ey, ← HGJ.out]; exact hg2) (by rw [ey, ← HGJ.out]; exact hso2)
        exact ⟨q.1.congr (fun i _ => mkF_next k j f i), q.2⟩)
      clear hso2 hg2 e4
      have HG2 := Lib.hid (hg.out.trans HST.out.2)
      go_wp2
      go_roundw
      case rel => exact ⟨j + 1, by omega, by have h1 := HM.out; have h2 := HS2.out; go_num, by go_num, Lib.hid HST.out.1, HG2⟩
      case measure => simp [intOf]; omega
    · obtain rfl : j = n := by omega
      have HF := Lib.hid (ho.out.congr (f' := mkB k f) (fun i hi => by unfold mkF; rw [if_pos hi]))
      clear ho
      go_wp2
      go_ret
      exact ⟨rfl, HF.out, hg.out⟩
set_option maxRecDepth 20000 in
set_option maxHeartbeats 4000000 in
theorem heldBellS_calls (A : Option Addr) (n c k : Nat) (f : Nat → BellV) (w : World) (h : BellRow w A n (mkB k f)) (hn : n + sumN (fun i => (f i).n) n ≤ 1048576) (h1 : 1 ≤ k) (hk : k ≤ 100000000) :
    Calls Try.prog 18 #[.slice A n c, .int .i64 k] w fun e w' => e = .returned (.int .i64 ((k + 4 * n + 2 * sumN (fun i => (f i).n) n : Nat) : Int)) ∧ Below w.heap.size w w' := by
  have H := Lib.hid h
  obtain ⟨ns, hns⟩ : ∃ ns : Nat → Nat, ns = fun i => (f i).n := ⟨_, rfl⟩
  rw [← hns] at hn ⊢
  have HNS := Lib.hid hns
  clear h hns
  go_enter Try.func18, Try.ntmps18
  go_wp2
  go_loopw [1, 5] (fun q i wr => ∃ j : Nat, j ≤ n ∧ q = .int .i64 ((k + 4 * j + 2 * sumN ns j : Nat) : Int) ∧ i = .int .i64 j ∧ Below w.heap.size w wr) (fun _ i _ => n - (intOf i).toNat)
  case atStart => exact ⟨0, by omega, rfl, rfl, Below.refl _ _⟩
  case round =>
    obtain ⟨j, hj, rfl, rfl, hbr⟩ := hrel
    by_cases hlt : j < n
    · obtain ⟨b, o, rfl, hrow⟩ := H.out (by omega)
      obtain ⟨AK, CK, c0, c1, c2, c3, c4, c5⟩ := (hrow j hlt).keep hbr
      have s1 := sumN_le ns (show j + 1 ≤ n by omega)
      have s2 : sumN ns (j + 1) = sumN ns j + ns j := rfl
      obtain ⟨M, hM⟩ : ∃ M : Nat, M = k + 4 * j + 2 * sumN ns j := ⟨_, rfl⟩
      have ey : mkB k f j = ⟨mkT M, (M : Int) + 1, (M : Int) + 1 + 1, (M : Int) + 1 + 1 + 1, ns j, mkSs (M + 4), mkSm (M + 4)⟩ := by
        have h2 := HNS.out
        subst h2
        unfold mkB
        simp only [← hM]
        congr 1
      rw [ey] at c0 c1 c2 c3 c4 c5
      rw [← hM]
      have hMb : M ≤ 900000000 := by omega
      have hM1 : 1 ≤ M := by omega
      have hnj2 : ns j ≤ 1048576 := by omega
      obtain ⟨T, hT⟩ : ∃ T, T = mkT M := ⟨_, rfl⟩
      have HTX := Lib.hid (fun W => markTx_calls M W hM1 (by omega))
      rw [← hT] at HTX c0
      have e4 : ((M + 4 : Nat) : Int) = (M : Int) + 1 + 1 + 1 + 1 := by omega
      have HKS := Lib.hid (fun W q => heldShareS_calls AK (ns j) CK (M + 4) W q hnj2 (by omega) (by omega))
      rw [e4] at HKS
      have hp4 : ¬ ((M + 4 + 2 * ns j : Nat) : Int) < 0 := by omega
      have HM := Lib.hid hM
      have HS2 := Lib.hid s2
      have HR := Lib.hid hrow
      clear hM hrow hT ey e4 s1 s2
      dsimp only at c0 c1 c2 c3 c4 c5
      go_wp2_with fail
      refine wp_gen (fun W0 hW0 => ?_)
      have s0_ : Below w.heap.size w W0 := by rw [hW0]; exact hbr
      have s1_ : W0.cell? ⟨b, o + j * 5, none⟩ = some (.string T) := by rw [hW0]; exact c0
      have s2_ : W0.cell? ⟨b, o + j * 5 + 1, none⟩ = some (.int .i64 ((M : Int) + 1)) := by rw [hW0]; exact c1
      have s3_ : W0.cell? ⟨b, o + j * 5 + 2, none⟩ = some (.int .i64 ((M : Int) + 1 + 1)) := by rw [hW0]; exact c2
      have s4_ : W0.cell? ⟨b, o + j * 5 + 3, none⟩ = some (.int .i64 ((M : Int) + 1 + 1 + 1)) := by rw [hW0]; exact c3
      have s5_ : W0.cell? ⟨b, o + j * 5 + 4, none⟩ = some (.slice AK (ns j) CK) := by rw [hW0]; exact c4
      have s6_ : ShareRow W0 AK (ns j) (mkSs (M + 4)) (mkSm (M + 4)) := by rw [hW0]; exact c5
      clear c0 c1 c2 c3 c4 c5
      clear hW0
      refine wp_region_held_drew (S := fun w' => Below w.heap.size w w' ∧ w'.cell? ⟨b, o + j * 5, none⟩ = some (.string T) ∧ w'.cell? ⟨b, o + j * 5 + 1, none⟩ = some (.int .i64 ((M : Int) + 1)) ∧ w'.cell? ⟨b, o + j * 5 + 2, none⟩ = some (.int .i64 ((M : Int) + 1 + 1)) ∧ w'.cell? ⟨b, o + j * 5 + 3, none⟩ = some (.int .i64 ((M : Int) + 1 + 1 + 1)) ∧ w'.cell? ⟨b, o + j * 5 + 4, none⟩ = some (.slice AK (ns j) CK) ∧ ShareRow w' AK (ns j) (mkSs (M + 4)) (mkSm (M + 4))) (by kernel_rfl) ?_ (fun hHeld => ?_)
      · exact ⟨s0_.drew, s1_, s2_, s3_, s4_, s5_, s6_⟩
      clear s0_ s1_ s2_ s3_ s4_ s5_ s6_
      refine take_yes (i := 0) (d := 12) (v := ?_) _ rfl rfl (by kernel_rfl) (by kernel_rfl) (by kernel_rfl) (fun _ _ _ _ h => h) (by rfl) ?_ (by assumption) ?_
      rotate_left 1
      · ((intro w hSw; (try dsimp only at hSw); go_simp) <;> (try with_reducible rfl))
      (try simp only [Act.put, List.setIfInBounds_toArray, List.set_cons_zero, List.set_cons_succ])
      refine take_yes (i := 1) (d := 13) (v := ?_) _ rfl rfl (by kernel_rfl) (by kernel_rfl) (by kernel_rfl) (fun _ _ _ _ h => h) (by rfl) ?_ (by assumption) ?_
      rotate_left 1
      · ((intro w hSw; (try dsimp only at hSw); go_simp) <;> (try with_reducible rfl))
      (try simp only [Act.put, List.setIfInBounds_toArray, List.set_cons_zero, List.set_cons_succ])
      refine take_yes (i := 2) (d := 14) (v := ?_) _ rfl rfl (by kernel_rfl) (by kernel_rfl) (by kernel_rfl) (fun _ _ _ _ h => h) (by rfl) ?_ (by assumption) ?_
      rotate_left 1
      · ((intro w hSw; (try dsimp only at hSw); go_simp) <;> (try with_reducible rfl))
      (try simp only [Act.put, List.setIfInBounds_toArray, List.set_cons_zero, List.set_cons_succ])
      refine take_yes (i := 3) (d := 15) (v := ?_) _ rfl rfl (by kernel_rfl) (by kernel_rfl) (by kernel_rfl) (fun _ _ _ _ h => h) (by rfl) ?_ (by assumption) ?_
      rotate_left 1
      · ((intro w hSw; (try dsimp only at hSw); go_simp) <;> (try with_reducible rfl))
      (try simp only [Act.put, List.setIfInBounds_toArray, List.set_cons_zero, List.set_cons_succ])
      refine take_yes (i := 4) (d := 16) (v := ?_) _ rfl rfl (by kernel_rfl) (by kernel_rfl) (by kernel_rfl) (fun _ _ _ _ h => h) (by rfl) ?_ (by assumption) ?_
      rotate_left 1
      · ((intro w hSw; (try dsimp only at hSw); go_simp) <;> (try with_reducible rfl))
      (try simp only [Act.put, List.setIfInBounds_toArray, List.set_cons_zero, List.set_cons_succ])
      refine take_yes (i := 5) (d := 17) (v := ?_) _ rfl rfl (by kernel_rfl) (by kernel_rfl) (by kernel_rfl) (fun _ _ _ _ h => h) (by rfl) ?_ (by assumption) ?_
      rotate_left 1
      · ((intro w hSw; (try dsimp only at hSw); go_simp) <;> (try with_reducible rfl))
      (try simp only [Act.put, List.setIfInBounds_toArray, List.set_cons_zero, List.set_cons_succ])
      (refine wpAnyH_ready (rs := [6]) (by kernel_rfl) (by simp) ?_; refine AllReadyH.cons rfl (fun K hK => ?_) AllReadyH.nil; go_simp; go_at_call 41; refine (HTX.out _).mono ?_; rintro e wd ⟨rfl, hb⟩; refine hK.out _ _ (by obtain ⟨x0_, x1_, x2_, x3_, x4_, x5_, x6_⟩ := hHeld; exact ⟨x0_.trans (hb.mono x0_.size), cell_keep hb x1_, cell_keep hb x2_, cell_keep hb x3_, cell_keep hb x4_, cell_keep hb x5_, x6_.keep hb⟩) (fun hHeld2 => ?_); clear hK K hHeld hb; have hHeld := hHeld2; clear hHeld2; (try simp only [Act.put, List.setIfInBounds_toArray, List.set_cons_zero, List.set_cons_succ]))
      refine take_yes (i := 7) (d := 19) (v := ?_) _ rfl rfl (by kernel_rfl) (by kernel_rfl) (by kernel_rfl) (fun _ _ _ _ h => h) (by rfl) ?_ (by assumption) ?_
      rotate_left 1
      · ((intro w hSw; (try dsimp only at hSw); go_simp) <;> (try with_reducible rfl))
      (try simp only [Act.put, List.setIfInBounds_toArray, List.set_cons_zero, List.set_cons_succ])
      refine wpAnyH_done (by kernel_rfl) ?_ _
      obtain ⟨z0, z1, z2, z3, z4, z5, z6⟩ := hHeld
      have HZ6 := Lib.hid z6
      clear z6 HTX
      go_wp2_with (go_at_call 44; refine (HKS.out _ HZ6.out).mono ?_; rintro e w2 ⟨rfl, hb⟩; have HB2 := Lib.hid (z0.trans (hb.mono z0.size)); clear hb z0 z1 z2 z3 z4 z5)
      go_roundw
      case rel => exact ⟨j + 1, by omega, by have h1 := HM.out; have h2 := HS2.out; go_num, by go_num, HB2.out⟩
      case measure => simp [intOf]; omega
    · obtain rfl : j = n := by omega
      go_wp2
      go_ret
      exact ⟨rfl, hbr⟩
end Go.Proofs.Yticnpibkpfpojaa
