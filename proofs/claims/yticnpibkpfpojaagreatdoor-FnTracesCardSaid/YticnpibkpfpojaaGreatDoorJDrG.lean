import Derived.Test.YticnpibkpfpojaaGreatDoorDrawC
import Derived.Test.YticnpibkpfpojaaGreatDoorAddS
import Derived.Test.YticnpibkpfpojaaGreatDoorJDrK
/- Drawn ingots, melts and bells: what the drawing function leaves, for every source. -/
namespace Go.Proofs.YticnpibkpfpojaaGreatDoor
set_option linter.unusedVariables false
open Go.RowKit

set_option maxRecDepth 20000 in
set_option maxHeartbeats 4000000 in
theorem l18DrawOk_calls (b m : Nat) (w : World) (h : Src w b m) (hm : m ≤ 1000000) :
    Calls Tryz.prog 39 #[.pointer (some ⟨b, 0, none⟩)] w fun e w' => ∃ A n c s0 a1 a2 a3 a4 B q d g C p e2 f G, e = .returned (.tuple #[.slice A n c, .slice B q d, .slice C p e2]) ∧ IngD w' A n c s0 a1 a2 a3 a4 ∧ MeltsD w' B q d g ∧ (0 < q → Loc w.heap.size B) ∧ BellOwn w' C p f G w.heap.size ∧ p ≤ e2 ∧ p ≤ 4 ∧ (∀ j, j < p → SmallB (f j)) ∧ Src w' b (m + 700) ∧ Only b w w' := by
  have hlt := h.lt
  go_enter Tryz.func39, Tryz.ntmps39
  go_wp2_with fail
  go_at_call 73
  refine (l14DrawOk_calls b m _ h (by omega)).mono ?_
  rintro e w1 ⟨A, n, c, s0, a1, a2, a3, a4, B, q, d, g, rfl, hD, hM, hloc, hs1, ho1⟩
  have HLC := Lib.hid hloc
  clear hloc
  have HD1 := Lib.hid hD
  have HM1 := Lib.hid hM
  have O1 := Lib.hid ho1
  have hz1 := ho1.size
  clear hD hM ho1 h
  go_wp2_with fail
  go_at_call 40
  refine (pick_calls _ _ _ _ (hs1.alloc _) (by omega) (by omega)).mono ?_
  rintro e w2 ⟨p, ⟨p0, p1⟩, rfl, hs2, ho2⟩
  obtain ⟨k0, rfl⟩ := Int.eq_ofNat_of_zero_le p0
  have hk0 : k0 ≤ 4 := by omega
  have S2 := Lib.hid hs2
  have O2 := Lib.hid ((O1.out.alloc _).trans ho2)
  have FX := Lib.hid ((Fix.alloc (S := NotT 80) (u := w1) (.cells #[] 28)).trans ((hs1.alloc _).fix ho2))
  have HD2 := Lib.hid (HD1.out.fix FX.out (by unfold NotT; decide))
  have HM2 := Lib.hid (HM1.out.fix FX.out (by unfold NotT; decide) (by unfold NotT; decide))
  clear hs1 hs2 ho2 O1 HD1 HM1 FX p0 p1
  go_wp2_with fail
  go_loopw [7, 8] (fun v i wr => ∃ (k p e2 G : Nat) (C : Option Addr) (f : Nat → BellV), k ≤ k0 ∧ i = .int .i64 k ∧ v = .slice C p e2 ∧ p ≤ e2 ∧ p + k ≤ 4 ∧ Hid (BellOwn wr C p f G w.heap.size) ∧ Hid (∀ j, j < p → SmallB (f j)) ∧ Hid (MeltsD wr B q d g) ∧ Hid (IngD wr A n c s0 a1 a2 a3 a4) ∧ Hid (Src wr b (m + 302 + 80 * (4 - k))) ∧ Hid (Only b w wr)) (fun _ i _ => (intOf i).toNat)
  case atStart => exact ⟨k0, 0, 0, 0, _, fun _ => ⟨⟨#[]⟩, 0, 0, 0, 0, fun _ => ⟨#[]⟩, fun _ => 0⟩, by omega, rfl, rfl, by omega, by omega, Lib.hid (fun h => by omega), Lib.hid (fun j hj => by omega), HM2, HD2, Lib.hid (S2.out.mono (by omega)), O2⟩
  case round =>
    clear S2 O2 HD2 HM2
    obtain ⟨k, p, e2, G, C, f, hk, rfl, rfl, hpe, hp4, hB, hsm, hM, hD, hs, ho⟩ := hrel
    by_cases hk1 : 0 < k
    · obtain ⟨j, rfl⟩ : ∃ j, k = j + 1 := ⟨k - 1, by omega⟩
      have hrz := ho.out.size
      go_wp2_with fail
      go_at_call 15
      refine (l18DrawOne_calls b _ B q d g wr hs.out (by omega) hM.out).mono ?_
      rintro e w3 ⟨s, no, ma, fe, kk, ss, ms, GX, cx, rfl, hfm, -, hst, hs3, ho3⟩
      have FX := Lib.hid (hs.out.fix ho3)
      have D3 := Lib.hid (hD.out.fix FX.out (by unfold NotT; decide))
      have M3 := Lib.hid (hM.out.fix FX.out (by unfold NotT; decide) (by unfold NotT; decide))
      have B3 := Lib.hid (hB.out.only ho3 hlt)
      have O3 := Lib.hid (ho.out.trans ho3)
      have S3 := Lib.hid hs3
      have hq := hM.out.2.1
      have HFM := Lib.hid hfm
      have hz3 := O3.out.size
      have HA := Lib.hid (sAddBell_cap B q d g C p e2 f ⟨s, no, ma, fe, kk, ss, ms⟩ (some ⟨GX, 0, none⟩) cx w3 M3.out.2.2.1.row (by omega) M3.out.2.2.2 B3.out.row (by omega) (fun i hi => (hsm.out i hi).1) hst.own.row hfm.1)
      clear FX hD hM hB ho ho3 hs hs3 hst hfm
      go_wp2_with fail
      go_at_call 74
      refine HA.out.mono ?_
      rintro e w4 ⟨⟨ho0, rfl, hb⟩ | ⟨-, A9, c9, G9, rfl, hb9, hg9, hb⟩, hcap⟩
      · have D4 := Lib.hid (D3.out.fix (S := fun _ => True) (Fix.below hb) trivial)
        have M4 := Lib.hid (M3.out.fix (S := fun _ => True) (Fix.below hb) trivial trivial)
        have B4 := Lib.hid (B3.out.keep hb)
        have O4 := Lib.hid (O3.out.trans (only_of hb))
        have S4 := Lib.hid (S3.out.below hb)
        clear D3 M3 O3 S3 B3 hb HA hcap HFM
        go_wp2
        go_roundw
        case rel => exact ⟨j, p, e2, G, C, f, by omega, by go_num, rfl, hpe, by omega, B4, hsm, M4, D4, Lib.hid (S4.out.mono (by omega)), O4⟩
        case measure => simp [intOf]
      · have D4 := Lib.hid (D3.out.fix (S := fun _ => True) (Fix.below hb) trivial)
        have M4 := Lib.hid (M3.out.fix (S := fun _ => True) (Fix.below hb) trivial trivial)
        have O4 := Lib.hid (O3.out.trans (only_of hb))
        have S4 := Lib.hid (S3.out.below hb)
        have B4 := Lib.hid (hb9.lower (lo2 := w.heap.size) hz3)
        have hcc : p + 1 ≤ c9 := hcap _ _ _ rfl
        have SM4 := Lib.hid (insF_all (C := SmallB) hsm.out HFM.out (posA_spec f ⟨s, no, ma, fe, kk, ss, ms⟩ p).1)
        clear D3 M3 O3 S3 B3 hb HA hcap HFM hb9 hsm
        go_wp2
        go_roundw
        case rel => exact ⟨j, p + 1, c9, G9, A9, _, by omega, by go_num, rfl, hcc, by omega, B4, SM4, M4, D4, Lib.hid (S4.out.mono (by omega)), O4⟩
        case measure => simp [intOf]
    · obtain rfl : k = 0 := by omega
      go_wp2
      refine bodyPost_ret (v := .tuple #[.slice A n c, .slice B q d, .slice C p e2]) (by simp [results, Tryz.results39, go_sem]) rfl ?_
      exact ⟨A, n, c, s0, a1, a2, a3, a4, B, q, d, g, C, p, e2, f, G, rfl, hD.out, hM.out, HLC.out, hB.out, hpe, by omega, hsm.out, hs.out.mono (by omega), ho.out⟩
end Go.Proofs.YticnpibkpfpojaaGreatDoor

/- A drawn bell bent: what the drawing function leaves, for every source. -/
namespace Go.Proofs.YticnpibkpfpojaaGreatDoor
set_option linter.unusedVariables false
set_option linter.unusedSimpArgs false
open Go.RowKit

theorem TRp.al2 {W a : World} {base X cnt b M G : Nat} {v : Value} {xs : List Value} {cs : Array Value} {o : Obj} {R : Prop} (h : TRp W base X cnt b M v xs cs) (k : Two b G a (W.alloc o) ∧ R) : TRp (W.alloc o) base X cnt b M v xs cs := ⟨h.1.alloc _, h.2.1.alloc _, h.2.2.alloc _⟩
theorem TRp.alD2 {W a : World} {base X cnt b M G : Nat} {v : Value} {xs : List Value} {cs : Array Value} {o : Obj} {R : Prop} (h : TRp W base X cnt b M v xs cs) (k : Two b G a (W.alloc o).drew ∧ R) : TRp (W.alloc o) base X cnt b M v xs cs := ⟨h.1.alloc _, h.2.1.alloc _, h.2.2.alloc _⟩
theorem TRp.alDD2 {W a : World} {base X cnt b M G : Nat} {v : Value} {xs : List Value} {cs : Array Value} {o : Obj} {R : Prop} (h : TRp W base X cnt b M v xs cs) (k : Two b G a (W.alloc o).drew.drew ∧ R) : TRp (W.alloc o) base X cnt b M v xs cs := ⟨h.1.alloc _, h.2.1.alloc _, h.2.2.alloc _⟩
theorem Two.drew {b G : Nat} {u v : World} (h : Two b G u v) : Two b G u v.drew := ⟨h.os, h.tape, h.output, h.size, h.block⟩
theorem Two.setNew {b G : Nat} {u v : World} (h : Two b G u v) {X : Nat} (hX : u.heap.size ≤ X) (o : Nat) (x : Value) : Two b G u (v.setCell ⟨X, o, none⟩ x) :=
  ⟨h.os, h.tape, h.output, by simpa using h.size, fun k hb hG hk => (Below.heap_setCell v ⟨X, o, none⟩ x k (by (try dsimp only); omega)).trans (h.block k hb hG hk)⟩
/-- what the call leaves -/
def BendOut (b M G : Nat) (w : World) (e : Ending) (w' : World) : Prop := ∃ y C2 c2, e = .returned (.agg #[.string y.id, .int .i64 y.no, .int .i64 y.ma, .int .i64 y.fe, .slice C2 y.n c2]) ∧ Fine y ∧ ShareT w' C2 y.n y.ss y.ms ∧ Src w' b M ∧ Two b G w w'
set_option maxRecDepth 20000 in
set_option maxHeartbeats 4000000 in
theorem l18Bend_calls (b m : Nat) (id : ByteArray) (no ma fe : Int) (n G c : Nat) (ss : Nat → ByteArray) (ms : Nat → Int) (w : World) (h : Src w b m) (hm : m ≤ 10000000) (hS : ShareOwnC w n ss ms G c) (hbG : b < G) (hx : SmallB ⟨id, no, ma, fe, n, ss, ms⟩) :
    Calls Tryz.prog 14 #[.pointer (some ⟨b, 0, none⟩), .agg #[.string id, .int .i64 no, .int .i64 ma, .int .i64 fe, .slice (some ⟨G, 0, none⟩) n c]] w (BendOut b (m + 10) G w) := by
  obtain ⟨i0, hi, hz0, hz1, hz2⟩ := info_parts ShareI_info
  obtain ⟨⟨hx1, hx2, -⟩, hma0, hma1, hn⟩ := hx
  have hma0 : 0 ≤ ma := hma0
  have hma1 : ma ≤ 100000000 := hma1
  have hn : n ≤ 1000 := hn
  have HX1 := Lib.hid (show id.size ≤ maxLen from hx1)
  have HX2 := Lib.hid (show ∀ i, i < n → (ss i).size ≤ maxLen from hx2)
  have hlt := h.lt
  have hGl : G < w.heap.size := by obtain ⟨arr, hb, -⟩ := hS; exact hb.lt
  have HS0 := Lib.hid hS
  have S0 := Lib.hid ((h.alloc (.cells #[.string id, .int .i64 no, .int .i64 ma, .int .i64 fe, .slice (some ⟨G, 0, none⟩) n c] 28)).alloc (.cells #[.string ⟨#[]⟩, .int .i64 0, .int .i64 0, .int .i64 0, .slice none 0 0] 28))
  clear hx1 hx2 hS h
  go_enter Tryz.func14, Tryz.ntmps14
  go_wp2_with fail
  go_at_call 40
  refine (pick_calls _ _ _ _ S0.out (by omega) (by omega)).mono ?_
  rintro e w1 ⟨p, ⟨p0, p1⟩, rfl, hs1, ho1⟩
  have hz1' := ho1.size
  simp at hz1'
  have B1 := ho1.blk (show w.heap.size ≠ b by omega) ((Blk.new w 28 #[.string id, .int .i64 no, .int .i64 ma, .int .i64 fe, .slice (some ⟨G, 0, none⟩) n c]).alloc (.cells #[.string ⟨#[]⟩, .int .i64 0, .int .i64 0, .int .i64 0, .slice none 0 0] 28))
  have R1 := ho1.blk (show w.heap.size + 1 ≠ b by omega) (Blk.new2 w (.cells #[.string id, .int .i64 no, .int .i64 ma, .int .i64 fe, .slice (some ⟨G, 0, none⟩) n c] 28) 28 #[.string ⟨#[]⟩, .int .i64 0, .int .i64 0, .int .i64 0, .slice none 0 0])
  have HB1 := Lib.hid B1
  have HR1 := Lib.hid R1
  have S1 := Lib.hid hs1
  have T1 := Lib.hid ((((Only.refl b w).alloc (.cells #[.string id, .int .i64 no, .int .i64 ma, .int .i64 fe, .slice (some ⟨G, 0, none⟩) n c] 28)).alloc (.cells #[.string ⟨#[]⟩, .int .i64 0, .int .i64 0, .int .i64 0, .slice none 0 0] 28)).trans ho1)
  have SH1 := Lib.hid (show ShareOwnC w1 n ss ms G c from by
    refine ShareOwnC.only ?_ ho1 (by omega)
    obtain ⟨arr, hbA, r⟩ := HS0.out
    exact ⟨arr, (hbA.alloc _).alloc _, r⟩)
  have hne : w.heap.size + 1 ≠ w.heap.size := by omega
  clear hs1 ho1 S0 HS0
  by_cases z0 : p = 0
  · subst z0
    clear B1 R1
    go_wp2_with fail
    go_at_call 42
    refine (text_calls (fun s => decide (s.size ≤ 2)) _ _ _ _ _ _ _ _ (by exact S1.out.alloc _) (by omega) (by exact Blk.new _ _ _) (by omega) (by decide +kernel) (by rfl) (by omega) (by omega)).mono ?_
    rintro e w2 ⟨nn, hnn, rfl, hs2, ho2⟩
    have hns : nn.size ≤ 2 := of_decide_eq_true hnn
    clear hnn
    have B9 := Lib.hid (ho2.blk (show w.heap.size ≠ b by omega) (HB1.out.alloc _))
    have R9 := Lib.hid (ho2.blk (show w.heap.size + 1 ≠ b by omega) (HR1.out.alloc _))
    have SF := Lib.hid hs2
    have OF := Lib.hid ((T1.out.alloc _).trans ho2)
    have SHF := Lib.hid (show ShareOwnC w2 n ss ms G c from by
      refine ShareOwnC.only ?_ ho2 (by omega)
      obtain ⟨arr, hbA, r⟩ := SH1.out
      exact ⟨arr, hbA.alloc _, r⟩)
    have x0 := (B9.out.cell 0).trans rfl
    have x1 := (B9.out.cell 1).trans rfl
    have x2 := (B9.out.cell 2).trans rfl
    have x3 := (B9.out.cell 3).trans rfl
    have x4 := (B9.out.cell 4).trans rfl
    have y0 := (R9.out.cell 0).trans rfl
    have y1 := (R9.out.cell 1).trans rfl
    have y2 := (R9.out.cell 2).trans rfl
    have y3 := (R9.out.cell 3).trans rfl
    have y4 := (R9.out.cell 4).trans rfl
    have gf := B9.out.frozen
    have rf := R9.out.frozen
    clear hs2 ho2 HB1 HR1 S1 T1 SH1
    go_wp2
    refine bodyPost_ret (v := .agg #[.string nn, .int .i64 no, .int .i64 ma, .int .i64 fe, .slice (some ⟨G, 0, none⟩) n c]) (by simp [results, Tryz.results14, go_sem, y0, y1, y2, y3, y4]) rfl ?_
    refine ⟨⟨nn, no, ma, fe, n, ss, ms⟩, _, c, rfl, ⟨by show nn.size ≤ maxLen; unfold maxLen; omega, HX2.out, by show n ≤ 1048576; omega⟩, ShareOwnC.typ (c := c) ?_, ?_, Only.two ?_⟩
    · repeat (refine ShareOwnC.far ?_ (by omega))
      exact SHF.out
    · repeat (refine Src.far ?_ (by omega) _ _)
      exact SF.out.mono (by omega)
    · repeat (refine Only.setNew ?_ (by omega) _ _)
      exact OF.out
  · by_cases z1 : p = 1
    · subst z1
      clear B1 R1
      go_wp2_with fail
      go_at_call 41
      refine (among_calls (okI (-1) 128) _ _ _ _ _ _ _ _ (by exact S1.out.alloc _) (by omega) (by exact Blk.new _ _ _) (by omega) (by rfl) (by rfl) (by omega) (by omega)).mono ?_
      rintro e w2 ⟨t, ht, rfl, hs2, ho2⟩
      clear ht
      have B9 := Lib.hid (ho2.blk (show w.heap.size ≠ b by omega) (HB1.out.alloc _))
      have R9 := Lib.hid (ho2.blk (show w.heap.size + 1 ≠ b by omega) (HR1.out.alloc _))
      have SF := Lib.hid hs2
      have OF := Lib.hid ((T1.out.alloc _).trans ho2)
      have SHF := Lib.hid (show ShareOwnC w2 n ss ms G c from by
        refine ShareOwnC.only ?_ ho2 (by omega)
        obtain ⟨arr, hbA, r⟩ := SH1.out
        exact ⟨arr, hbA.alloc _, r⟩)
      have x0 := (B9.out.cell 0).trans rfl
      have x1 := (B9.out.cell 1).trans rfl
      have x2 := (B9.out.cell 2).trans rfl
      have x3 := (B9.out.cell 3).trans rfl
      have x4 := (B9.out.cell 4).trans rfl
      have y0 := (R9.out.cell 0).trans rfl
      have y1 := (R9.out.cell 1).trans rfl
      have y2 := (R9.out.cell 2).trans rfl
      have y3 := (R9.out.cell 3).trans rfl
      have y4 := (R9.out.cell 4).trans rfl
      have gf := B9.out.frozen
      have rf := R9.out.frozen
      clear hs2 ho2 HB1 HR1 S1 T1 SH1
      go_wp2
      refine bodyPost_ret (v := .agg #[.string id, .int .i64 t, .int .i64 ma, .int .i64 fe, .slice (some ⟨G, 0, none⟩) n c]) (by simp [results, Tryz.results14, go_sem, y0, y1, y2, y3, y4]) rfl ?_
      refine ⟨⟨id, t, ma, fe, n, ss, ms⟩, _, c, rfl, ⟨HX1.out, HX2.out, by show n ≤ 1048576; omega⟩, ShareOwnC.typ (c := c) ?_, ?_, Only.two ?_⟩
      · repeat (refine ShareOwnC.far ?_ (by omega))
        exact SHF.out
      · repeat (refine Src.far ?_ (by omega) _ _)
        exact SF.out.mono (by omega)
      · repeat (refine Only.setNew ?_ (by omega) _ _)
        exact OF.out
    · by_cases z2 : p = 2
      · subst z2
        have x2 := (B1.cell 2).trans rfl
        have gf := B1.frozen
        have e1 : IntKind.i64.wrap (ma + 1) = ma + 1 := IntWalk.i64_in _ ⟨by omega, by omega⟩
        clear B1 R1
        go_wp2_with fail
        go_at_call 41
        refine (among_calls (fun _ => true) _ _ _ _ _ _ _ _ (by exact S1.out.alloc _) (by omega) (by exact Blk.new _ _ _) (by omega) (by rfl) (by rfl) (by omega) (by omega)).mono ?_
        rintro e w2 ⟨t, ht, rfl, hs2, ho2⟩
        clear ht x2 gf
        have B9 := Lib.hid (ho2.blk (show w.heap.size ≠ b by omega) (HB1.out.alloc _))
        have R9 := Lib.hid (ho2.blk (show w.heap.size + 1 ≠ b by omega) (HR1.out.alloc _))
        have SF := Lib.hid hs2
        have OF := Lib.hid ((T1.out.alloc _).trans ho2)
        have SHF := Lib.hid (show ShareOwnC w2 n ss ms G c from by
          refine ShareOwnC.only ?_ ho2 (by omega)
          obtain ⟨arr, hbA, r⟩ := SH1.out
          exact ⟨arr, hbA.alloc _, r⟩)
        have x0 := (B9.out.cell 0).trans rfl
        have x1 := (B9.out.cell 1).trans rfl
        have x2 := (B9.out.cell 2).trans rfl
        have x3 := (B9.out.cell 3).trans rfl
        have x4 := (B9.out.cell 4).trans rfl
        have y0 := (R9.out.cell 0).trans rfl
        have y1 := (R9.out.cell 1).trans rfl
        have y2 := (R9.out.cell 2).trans rfl
        have y3 := (R9.out.cell 3).trans rfl
        have y4 := (R9.out.cell 4).trans rfl
        have gf := B9.out.frozen
        have rf := R9.out.frozen
        clear hs2 ho2 HB1 HR1 S1 T1 SH1
        go_wp2
        refine bodyPost_ret (v := .agg #[.string id, .int .i64 no, .int .i64 t, .int .i64 fe, .slice (some ⟨G, 0, none⟩) n c]) (by simp [results, Tryz.results14, go_sem, y0, y1, y2, y3, y4]) rfl ?_
        refine ⟨⟨id, no, t, fe, n, ss, ms⟩, _, c, rfl, ⟨HX1.out, HX2.out, by show n ≤ 1048576; omega⟩, ShareOwnC.typ (c := c) ?_, ?_, Only.two ?_⟩
        · repeat (refine ShareOwnC.far ?_ (by omega))
          exact SHF.out
        · repeat (refine Src.far ?_ (by omega) _ _)
          exact SF.out.mono (by omega)
        · repeat (refine Only.setNew ?_ (by omega) _ _)
          exact OF.out
      · by_cases z3 : p = 3
        · subst z3
          have hgz := HB1.out.lt
          have hgr := HR1.out.lt
          have hG1 : G < w1.heap.size := by omega
          clear B1 R1
          · skip
            go_wp2_with fail
            refine wp_gen (fun W0 hW0 => ?_)
            have s0_ : Two b G w W0 := by rw [hW0]; exact T1.out.two
            have s1_ : w.heap.size + 1 < W0.heap.size := by rw [hW0]; exact hgr
            have s2_ : Blk W0 (w.heap.size + 1) 28 #[.string ⟨#[]⟩, .int .i64 0, .int .i64 0, .int .i64 0, .slice none 0 0] := by rw [hW0]; exact HR1.out
            have TR := Lib.hid (show TRp W0 G w.heap.size n b (m + 2) (.slice (some ⟨G, 0, none⟩) n c) (shW ss ms n) #[.string id, .int .i64 no, .int .i64 ma, .int .i64 fe, .slice (some ⟨G, 0, none⟩) n c] from by rw [hW0]; exact ⟨SH1.out.row2, HB1.out, S1.out⟩)
            have hgw : w.heap.size + 1 < W0.heap.size := (by rw [hW0]; exact hgr)
            have o1 := (TR.out.2.1.cell 4).trans rfl
            clear hW0
            refine wp_region_held_drew (S := fun w' => Two b G w w' ∧ w.heap.size + 1 < w'.heap.size ∧ Blk w' (w.heap.size + 1) 28 #[.string ⟨#[]⟩, .int .i64 0, .int .i64 0, .int .i64 0, .slice none 0 0]) (by kernel_rfl) ?_ (fun hHeld => ?_)
            · exact ⟨s0_.drew, s1_, s2_⟩
            clear s0_ s1_ s2_
            refine take_yes (i := 0) (d := 30) (v := ?_) _ rfl rfl (by kernel_rfl) (by kernel_rfl) (by kernel_rfl) (fun _ _ _ _ h => h) (by rfl) ?_ (by assumption) ?_
            rotate_left 1
            · ((intro w hSw; (try dsimp only at hSw); go_simp) <;> (try with_reducible rfl))
            (try simp only [Act.put, List.setIfInBounds_toArray, List.set_cons_zero, List.set_cons_succ])
            refine take_yes (i := 2) (d := 32) (v := ?_) _ rfl rfl (by kernel_rfl) (by kernel_rfl) (by kernel_rfl) (fun _ _ _ _ h => h) (by rfl) ?_ (by assumption) ?_
            rotate_left 1
            · ((intro w hSw; (try dsimp only at hSw); go_simp) <;> (try with_reducible rfl))
            (try simp only [Act.put, List.setIfInBounds_toArray, List.set_cons_zero, List.set_cons_succ])
            refine wpAnyH_ready (rs := [1, 3]) (by kernel_rfl) (by simp) ?_; refine AllReadyH.cons rfl (fun K hK => ?_) (AllReadyH.cons rfl (fun K hK => ?_) AllReadyH.nil)
            · go_simp; refine hK.out _ _ (by assumption) (fun hHeld2 => ?_); clear hK K hHeld; have hHeld := hHeld2; clear hHeld2; (try simp only [Act.put, List.setIfInBounds_toArray, List.set_cons_zero, List.set_cons_succ])
              (refine wpAnyH_ready (rs := [3]) (by kernel_rfl) (by simp) ?_; refine AllReadyH.cons rfl (fun K hK => ?_) AllReadyH.nil; go_simp; refine hK.out _ _ (by obtain ⟨x0_, x1_, x2_⟩ := hHeld; exact ⟨x0_.trans (only_of ((Below.refl _ _).alloc (Nat.le_refl _) _)).two, Nat.lt_of_lt_of_le x1_ ((Below.refl _ _).alloc (Nat.le_refl _) _).size, x2_.keep ((Below.refl _ _).alloc (Nat.le_refl _) _)⟩) (fun hHeld2 => ?_); clear hK K; have hOld := hHeld; clear hHeld; have hHeld := hHeld2; clear hHeld2; (first | have TR2 := Lib.hid (TR.out.al2 hHeld) | have TR2 := Lib.hid (TR.out.alD2 hHeld) | have TR2 := Lib.hid (TR.out.alDD2 hHeld)); clear TR o1; have TR := TR2; clear TR2; have o1 := (TR.out.2.1.cell 4).trans rfl; (try simp only [Act.put, List.setIfInBounds_toArray, List.set_cons_zero, List.set_cons_succ]))
              (refine wpAnyH_ready (rs := [4]) (by kernel_rfl) (by simp) ?_; refine AllReadyH.cons rfl (fun K hK => ?_) AllReadyH.nil; go_simp; go_at_call 41; refine (among_calls (okI 0 20000001) b (m + 2) _ _ _ _ _ _ (by exact TR.out.2.2) (by omega) (by first | with_reducible exact Blk.new _ _ _ | exact (Blk.new _ _ _).drew) (by omega) (by rfl) (by rfl) (by omega) (by omega)).mono ?_; rintro e wd ⟨t, ht, rfl, hs2, hb⟩; clear ht; refine hK.out _ _ (by obtain ⟨x0_, x1_, x2_⟩ := hHeld; exact ⟨x0_.trans hb.two, Nat.lt_of_lt_of_le x1_ hb.size, hb.blk (show w.heap.size + 1 ≠ b by omega) x2_⟩) (fun hHeld2 => ?_); (first | have TR2 := Lib.hid (TR.out.only hb (by omega) (by omega) hs2) | have TR2 := Lib.hid (TR.out.only hb.undrew (by omega) (by omega) hs2) | have TR2 := Lib.hid (TR.out.only hb.undrew.undrew (by omega) (by omega) hs2)); clear TR o1; have TR := TR2; clear TR2; have o1 := (TR.out.2.1.cell 4).trans rfl; clear hK K hHeld hb; have hHeld := hHeld2; clear hHeld2; (try simp only [Act.put, List.setIfInBounds_toArray, List.set_cons_zero, List.set_cons_succ]))
              refine take_yes (i := 5) (d := 35) (v := ?_) _ rfl rfl (by kernel_rfl) (by kernel_rfl) (by kernel_rfl) (fun _ _ _ _ h => h) (by rfl) ?_ (by assumption) ?_
              rotate_left 1
              · ((intro w hSw; (try dsimp only at hSw); go_simp) <;> (try with_reducible rfl))
              (try simp only [Act.put, List.setIfInBounds_toArray, List.set_cons_zero, List.set_cons_succ])
              (refine wpAnyH_ready (rs := [6]) (by kernel_rfl) (by simp) ?_; refine AllReadyH.cons rfl (fun K hK => ?_) AllReadyH.nil; go_simp; refine hK.out _ _ (by obtain ⟨x0_, x1_, x2_⟩ := hHeld; exact ⟨x0_.trans (only_of ((Below.refl _ _).alloc (Nat.le_refl _) _)).two, Nat.lt_of_lt_of_le x1_ ((Below.refl _ _).alloc (Nat.le_refl _) _).size, x2_.keep ((Below.refl _ _).alloc (Nat.le_refl _) _)⟩) (fun hHeld2 => ?_); clear hK K; have hOld := hHeld; clear hHeld; have hHeld := hHeld2; clear hHeld2; (first | have TR2 := Lib.hid (TR.out.al2 hHeld) | have TR2 := Lib.hid (TR.out.alD2 hHeld) | have TR2 := Lib.hid (TR.out.alDD2 hHeld)); clear TR o1; have TR := TR2; clear TR2; have o1 := (TR.out.2.1.cell 4).trans rfl; (try simp only [Act.put, List.setIfInBounds_toArray, List.set_cons_zero, List.set_cons_succ]))
              (refine wpAnyH_ready (rs := [7]) (by kernel_rfl) (by simp) ?_; refine AllReadyH.cons rfl (fun K hK => ?_) AllReadyH.nil; refine step_append_own _ rfl (.tmp 31) (.tmp 36) _ rfl G 41 i0 (.agg #[.string ⟨#[]⟩, .int .i64 0]) 2 24 Tryz.underlying26 hi hz0 hz1 hz2 rfl (by decide) _ _ _ rfl (TR.out.1) ⟨_, 0, none⟩ 1 1 [.string ⟨#[122, 122]⟩, .int .i64 t] rfl rfl (fun j u hj => by match j, hj with | 0, hj => simp at hj; subst hj; simp [Addr.add] | 1, hj => simp at hj; subst hj; simp [Addr.add]) (fun u hu => by simp at hu; rcases hu with rfl | rfl <;> rfl) (by unfold maxLen; omega) (by omega) (by have := hHeld.2.1; omega) ?_; intro v_ wa_ hown_ hgrow_ hat_; replace hgrow_ : World.grownBy _ wa_ (some G) := hgrow_; obtain ⟨g_, cap_, cur_, rfl, hgG_, -⟩ := own_blk hown_ (by omega); have HB2 := Lib.hid (show Blk wa_ w.heap.size 28 #[.string id, .int .i64 no, .int .i64 ma, .int .i64 fe, .slice (some ⟨G, 0, none⟩) n c] from by first | exact TR.out.2.1.grow hgrow_ (fun e => absurd (Option.some.inj e) (by omega)) | exact TR.out.2.1.grow (gb_undrew hgrow_) (fun e => absurd (Option.some.inj e) (by omega)) | exact TR.out.2.1.grow (gb_undrew (gb_undrew hgrow_)) (fun e => absurd (Option.some.inj e) (by omega))); have o3 := (HB2.out.cell 4).trans rfl; have f3 := HB2.out.frozen; have HS2 := Lib.hid (show Src wa_ b (m + 2 + 2) from by first | exact TR.out.2.2.grow hgrow_ (fun k hk => by have := Option.some.inj hk; omega) | exact TR.out.2.2.grow (gb_undrew hgrow_) (fun k hk => by have := Option.some.inj hk; omega) | exact TR.out.2.2.grow (gb_undrew (gb_undrew hgrow_)) (fun k hk => by have := Option.some.inj hk; omega)); rw [shW_upd] at hown_; obtain ⟨gs_, hga_, -, hso_⟩ := shareRow_own hown_ (by omega); have HSO := Lib.hid hso_.typ; have HGA := Lib.hid hga_; clear hown_ hso_ hga_; refine hK.out _ _ (by obtain ⟨x0_, x1_, x2_⟩ := hHeld; exact ⟨x0_.grow hgrow_ (fun k hk => .inl (Option.some.inj hk).symm), Nat.lt_of_lt_of_le x1_ hgrow_.size, x2_.grow hgrow_ (fun e => absurd (Option.some.inj e) (by omega))⟩) (fun hHeld2 => ?_); clear hK K hHeld; (try clear hOld); have hHeld := hHeld2; clear hHeld2; (try simp only [Act.put, List.setIfInBounds_toArray, List.set_cons_zero, List.set_cons_succ]))
              refine take_yes (i := 8) (d := 38) (v := ?_) _ rfl rfl (by kernel_rfl) (by kernel_rfl) (by kernel_rfl) (fun _ _ _ _ h => h) (by rfl) ?_ (by assumption) ?_
              rotate_left 1
              · ((intro w hSw; (try dsimp only at hSw); go_simp) <;> (try with_reducible rfl))
              (try simp only [Act.put, List.setIfInBounds_toArray, List.set_cons_zero, List.set_cons_succ])
              (refine wpAnyH_ready (rs := [9]) (by kernel_rfl) (by simp) ?_; refine AllReadyH.cons rfl (fun K hK => ?_) AllReadyH.nil; go_simp; refine hK.out _ _ (by obtain ⟨x0_, x1_, x2_⟩ := hHeld; exact ⟨x0_.setNew (by omega) _ (.slice (some ⟨g_, 0, none⟩) (n + 1) cap_), by simpa using x1_, x2_.far (p := ⟨w.heap.size, 4, none⟩) (by (try dsimp only); omega) (.slice (some ⟨g_, 0, none⟩) (n + 1) cap_)⟩) (fun hHeld2 => ?_); clear hK K hHeld; (try clear hOld); have hHeld := hHeld2; clear hHeld2; (try simp only [Act.put, List.setIfInBounds_toArray, List.set_cons_zero, List.set_cons_succ]))
              refine wpAnyH_done (by kernel_rfl) ?_ _
              obtain ⟨z0, z1, z2⟩ := hHeld
              have HB3 := Lib.hid (Blk.set_ HB2.out 4 (.slice (some ⟨g_, 0, none⟩) (n + 1) cap_))
              have HS3 := Lib.hid (HS2.out.far (show b < w.heap.size by omega) 4 (.slice (some ⟨g_, 0, none⟩) (n + 1) cap_))
              have HT3 := Lib.hid (HSO.out.fix (Fix.set_ HB2.out 4 (.slice (some ⟨g_, 0, none⟩) (n + 1) cap_)) (by unfold NotT; decide))
              rw [← HGA.out] at HT3
              clear hgrow_ hat_ HB2 o3 f3 HS2 TR o1 HSO
              have B9 := HB3
              have R9 := Lib.hid z2
              have OF := Lib.hid z0
              have SF := HS3
              have HT9 := HT3
              clear z0 z1 z2 HB3 HS3 HT3 HB1 HR1 S1 T1 SH1
              have x0 := (B9.out.cell 0).trans rfl
              have x1 := (B9.out.cell 1).trans rfl
              have x2 := (B9.out.cell 2).trans rfl
              have x3 := (B9.out.cell 3).trans rfl
              have x4 := (B9.out.cell 4).trans rfl
              have y0 := (R9.out.cell 0).trans rfl
              have y1 := (R9.out.cell 1).trans rfl
              have y2 := (R9.out.cell 2).trans rfl
              have y3 := (R9.out.cell 3).trans rfl
              have y4 := (R9.out.cell 4).trans rfl
              have gf := B9.out.frozen
              have rf := R9.out.frozen
              go_wp2
              refine bodyPost_ret (v := .agg #[.string id, .int .i64 no, .int .i64 ma, .int .i64 fe, .slice (some ⟨g_, 0, none⟩) (n + 1) cap_]) (by simp [results, Tryz.results14, go_sem, y0, y1, y2, y3, y4]) rfl ?_
              refine ⟨⟨id, no, ma, fe, n + 1, updS ss n ⟨#[122, 122]⟩, updI ms n t⟩, some ⟨g_, 0, none⟩, cap_, rfl, ⟨HX1.out, updS_all (C := fun s => s.size ≤ maxLen) HX2.out (by show (2 : Nat) ≤ maxLen; unfold maxLen; omega), by show n + 1 ≤ 1048576; omega⟩, HT9.out.fix (S := NotT 28) ((Fix.set_ R9.out 0 _).trans ((Fix.set_ (R9.out.set_ 0 _) 1 _).trans ((Fix.set_ ((R9.out.set_ 0 _).set_ 1 _) 2 _).trans ((Fix.set_ (((R9.out.set_ 0 _).set_ 1 _).set_ 2 _) 3 _).trans (Fix.set_ ((((R9.out.set_ 0 _).set_ 1 _).set_ 2 _).set_ 3 _) 4 _))))) (by unfold NotT; decide), (((((SF.out.far (by omega) _ _).far (by omega) _ _).far (by omega) _ _).far (by omega) _ _).far (by omega) _ _).mono (by omega), ((((OF.out.setNew (by omega) _ _).setNew (by omega) _ _).setNew (by omega) _ _).setNew (by omega) _ _).setNew (by omega) _ _⟩
            · go_simp; refine hK.out _ _ (by obtain ⟨x0_, x1_, x2_⟩ := hHeld; exact ⟨x0_.trans (only_of ((Below.refl _ _).alloc (Nat.le_refl _) _)).two, Nat.lt_of_lt_of_le x1_ ((Below.refl _ _).alloc (Nat.le_refl _) _).size, x2_.keep ((Below.refl _ _).alloc (Nat.le_refl _) _)⟩) (fun hHeld2 => ?_); clear hK K; have hOld := hHeld; clear hHeld; have hHeld := hHeld2; clear hHeld2; (first | have TR2 := Lib.hid (TR.out.al2 hHeld) | have TR2 := Lib.hid (TR.out.alD2 hHeld) | have TR2 := Lib.hid (TR.out.alDD2 hHeld)); clear TR o1; have TR := TR2; clear TR2; have o1 := (TR.out.2.1.cell 4).trans rfl; (try simp only [Act.put, List.setIfInBounds_toArray, List.set_cons_zero, List.set_cons_succ])
              refine wpAnyH_ready (rs := [1, 4]) (by kernel_rfl) (by simp) ?_; refine AllReadyH.cons rfl (fun K hK => ?_) (AllReadyH.cons rfl (fun K hK => ?_) AllReadyH.nil)
              · go_simp; refine hK.out _ _ (by assumption) (fun hHeld2 => ?_); clear hK K hHeld; have hHeld := hHeld2; clear hHeld2; (try simp only [Act.put, List.setIfInBounds_toArray, List.set_cons_zero, List.set_cons_succ])
                (refine wpAnyH_ready (rs := [4]) (by kernel_rfl) (by simp) ?_; refine AllReadyH.cons rfl (fun K hK => ?_) AllReadyH.nil; go_simp; go_at_call 41; refine (among_calls (okI 0 20000001) b (m + 2) _ _ _ _ _ _ (by exact TR.out.2.2) (by omega) (by first | with_reducible exact Blk.new _ _ _ | exact (Blk.new _ _ _).drew) (by omega) (by rfl) (by rfl) (by omega) (by omega)).mono ?_; rintro e wd ⟨t, ht, rfl, hs2, hb⟩; clear ht; refine hK.out _ _ (by obtain ⟨x0_, x1_, x2_⟩ := hHeld; exact ⟨x0_.trans hb.two, Nat.lt_of_lt_of_le x1_ hb.size, hb.blk (show w.heap.size + 1 ≠ b by omega) x2_⟩) (fun hHeld2 => ?_); (first | have TR2 := Lib.hid (TR.out.only hb (by omega) (by omega) hs2) | have TR2 := Lib.hid (TR.out.only hb.undrew (by omega) (by omega) hs2) | have TR2 := Lib.hid (TR.out.only hb.undrew.undrew (by omega) (by omega) hs2)); clear TR o1; have TR := TR2; clear TR2; have o1 := (TR.out.2.1.cell 4).trans rfl; clear hK K hHeld hb; have hHeld := hHeld2; clear hHeld2; (try simp only [Act.put, List.setIfInBounds_toArray, List.set_cons_zero, List.set_cons_succ]))
                refine take_yes (i := 5) (d := 35) (v := ?_) _ rfl rfl (by kernel_rfl) (by kernel_rfl) (by kernel_rfl) (fun _ _ _ _ h => h) (by rfl) ?_ (by assumption) ?_
                rotate_left 1
                · ((intro w hSw; (try dsimp only at hSw); go_simp) <;> (try with_reducible rfl))
                (try simp only [Act.put, List.setIfInBounds_toArray, List.set_cons_zero, List.set_cons_succ])
                (refine wpAnyH_ready (rs := [6]) (by kernel_rfl) (by simp) ?_; refine AllReadyH.cons rfl (fun K hK => ?_) AllReadyH.nil; go_simp; refine hK.out _ _ (by obtain ⟨x0_, x1_, x2_⟩ := hHeld; exact ⟨x0_.trans (only_of ((Below.refl _ _).alloc (Nat.le_refl _) _)).two, Nat.lt_of_lt_of_le x1_ ((Below.refl _ _).alloc (Nat.le_refl _) _).size, x2_.keep ((Below.refl _ _).alloc (Nat.le_refl _) _)⟩) (fun hHeld2 => ?_); clear hK K; have hOld := hHeld; clear hHeld; have hHeld := hHeld2; clear hHeld2; (first | have TR2 := Lib.hid (TR.out.al2 hHeld) | have TR2 := Lib.hid (TR.out.alD2 hHeld) | have TR2 := Lib.hid (TR.out.alDD2 hHeld)); clear TR o1; have TR := TR2; clear TR2; have o1 := (TR.out.2.1.cell 4).trans rfl; (try simp only [Act.put, List.setIfInBounds_toArray, List.set_cons_zero, List.set_cons_succ]))
                (refine wpAnyH_ready (rs := [7]) (by kernel_rfl) (by simp) ?_; refine AllReadyH.cons rfl (fun K hK => ?_) AllReadyH.nil; refine step_append_own _ rfl (.tmp 31) (.tmp 36) _ rfl G 41 i0 (.agg #[.string ⟨#[]⟩, .int .i64 0]) 2 24 Tryz.underlying26 hi hz0 hz1 hz2 rfl (by decide) _ _ _ rfl (TR.out.1) ⟨_, 0, none⟩ 1 1 [.string ⟨#[122, 122]⟩, .int .i64 t] rfl rfl (fun j u hj => by match j, hj with | 0, hj => simp at hj; subst hj; simp [Addr.add] | 1, hj => simp at hj; subst hj; simp [Addr.add]) (fun u hu => by simp at hu; rcases hu with rfl | rfl <;> rfl) (by unfold maxLen; omega) (by omega) (by have := hHeld.2.1; omega) ?_; intro v_ wa_ hown_ hgrow_ hat_; replace hgrow_ : World.grownBy _ wa_ (some G) := hgrow_; obtain ⟨g_, cap_, cur_, rfl, hgG_, -⟩ := own_blk hown_ (by omega); have HB2 := Lib.hid (show Blk wa_ w.heap.size 28 #[.string id, .int .i64 no, .int .i64 ma, .int .i64 fe, .slice (some ⟨G, 0, none⟩) n c] from by first | exact TR.out.2.1.grow hgrow_ (fun e => absurd (Option.some.inj e) (by omega)) | exact TR.out.2.1.grow (gb_undrew hgrow_) (fun e => absurd (Option.some.inj e) (by omega)) | exact TR.out.2.1.grow (gb_undrew (gb_undrew hgrow_)) (fun e => absurd (Option.some.inj e) (by omega))); have o3 := (HB2.out.cell 4).trans rfl; have f3 := HB2.out.frozen; have HS2 := Lib.hid (show Src wa_ b (m + 2 + 2) from by first | exact TR.out.2.2.grow hgrow_ (fun k hk => by have := Option.some.inj hk; omega) | exact TR.out.2.2.grow (gb_undrew hgrow_) (fun k hk => by have := Option.some.inj hk; omega) | exact TR.out.2.2.grow (gb_undrew (gb_undrew hgrow_)) (fun k hk => by have := Option.some.inj hk; omega)); rw [shW_upd] at hown_; obtain ⟨gs_, hga_, -, hso_⟩ := shareRow_own hown_ (by omega); have HSO := Lib.hid hso_.typ; have HGA := Lib.hid hga_; clear hown_ hso_ hga_; refine hK.out _ _ (by obtain ⟨x0_, x1_, x2_⟩ := hHeld; exact ⟨x0_.grow hgrow_ (fun k hk => .inl (Option.some.inj hk).symm), Nat.lt_of_lt_of_le x1_ hgrow_.size, x2_.grow hgrow_ (fun e => absurd (Option.some.inj e) (by omega))⟩) (fun hHeld2 => ?_); clear hK K hHeld; (try clear hOld); have hHeld := hHeld2; clear hHeld2; (try simp only [Act.put, List.setIfInBounds_toArray, List.set_cons_zero, List.set_cons_succ]))
                refine take_yes (i := 8) (d := 38) (v := ?_) _ rfl rfl (by kernel_rfl) (by kernel_rfl) (by kernel_rfl) (fun _ _ _ _ h => h) (by rfl) ?_ (by assumption) ?_
                rotate_left 1
                · ((intro w hSw; (try dsimp only at hSw); go_simp) <;> (try with_reducible rfl))
                (try simp only [Act.put, List.setIfInBounds_toArray, List.set_cons_zero, List.set_cons_succ])
                (refine wpAnyH_ready (rs := [9]) (by kernel_rfl) (by simp) ?_; refine AllReadyH.cons rfl (fun K hK => ?_) AllReadyH.nil; go_simp; refine hK.out _ _ (by obtain ⟨x0_, x1_, x2_⟩ := hHeld; exact ⟨x0_.setNew (by omega) _ (.slice (some ⟨g_, 0, none⟩) (n + 1) cap_), by simpa using x1_, x2_.far (p := ⟨w.heap.size, 4, none⟩) (by (try dsimp only); omega) (.slice (some ⟨g_, 0, none⟩) (n + 1) cap_)⟩) (fun hHeld2 => ?_); clear hK K hHeld; (try clear hOld); have hHeld := hHeld2; clear hHeld2; (try simp only [Act.put, List.setIfInBounds_toArray, List.set_cons_zero, List.set_cons_succ]))
                refine wpAnyH_done (by kernel_rfl) ?_ _
                obtain ⟨z0, z1, z2⟩ := hHeld
                have HB3 := Lib.hid (Blk.set_ HB2.out 4 (.slice (some ⟨g_, 0, none⟩) (n + 1) cap_))
                have HS3 := Lib.hid (HS2.out.far (show b < w.heap.size by omega) 4 (.slice (some ⟨g_, 0, none⟩) (n + 1) cap_))
                have HT3 := Lib.hid (HSO.out.fix (Fix.set_ HB2.out 4 (.slice (some ⟨g_, 0, none⟩) (n + 1) cap_)) (by unfold NotT; decide))
                rw [← HGA.out] at HT3
                clear hgrow_ hat_ HB2 o3 f3 HS2 TR o1 HSO
                have B9 := HB3
                have R9 := Lib.hid z2
                have OF := Lib.hid z0
                have SF := HS3
                have HT9 := HT3
                clear z0 z1 z2 HB3 HS3 HT3 HB1 HR1 S1 T1 SH1
                have x0 := (B9.out.cell 0).trans rfl
                have x1 := (B9.out.cell 1).trans rfl
                have x2 := (B9.out.cell 2).trans rfl
                have x3 := (B9.out.cell 3).trans rfl
                have x4 := (B9.out.cell 4).trans rfl
                have y0 := (R9.out.cell 0).trans rfl
                have y1 := (R9.out.cell 1).trans rfl
                have y2 := (R9.out.cell 2).trans rfl
                have y3 := (R9.out.cell 3).trans rfl
                have y4 := (R9.out.cell 4).trans rfl
                have gf := B9.out.frozen
                have rf := R9.out.frozen
                go_wp2
                refine bodyPost_ret (v := .agg #[.string id, .int .i64 no, .int .i64 ma, .int .i64 fe, .slice (some ⟨g_, 0, none⟩) (n + 1) cap_]) (by simp [results, Tryz.results14, go_sem, y0, y1, y2, y3, y4]) rfl ?_
                refine ⟨⟨id, no, ma, fe, n + 1, updS ss n ⟨#[122, 122]⟩, updI ms n t⟩, some ⟨g_, 0, none⟩, cap_, rfl, ⟨HX1.out, updS_all (C := fun s => s.size ≤ maxLen) HX2.out (by show (2 : Nat) ≤ maxLen; unfold maxLen; omega), by show n + 1 ≤ 1048576; omega⟩, HT9.out.fix (S := NotT 28) ((Fix.set_ R9.out 0 _).trans ((Fix.set_ (R9.out.set_ 0 _) 1 _).trans ((Fix.set_ ((R9.out.set_ 0 _).set_ 1 _) 2 _).trans ((Fix.set_ (((R9.out.set_ 0 _).set_ 1 _).set_ 2 _) 3 _).trans (Fix.set_ ((((R9.out.set_ 0 _).set_ 1 _).set_ 2 _).set_ 3 _) 4 _))))) (by unfold NotT; decide), (((((SF.out.far (by omega) _ _).far (by omega) _ _).far (by omega) _ _).far (by omega) _ _).far (by omega) _ _).mono (by omega), ((((OF.out.setNew (by omega) _ _).setNew (by omega) _ _).setNew (by omega) _ _).setNew (by omega) _ _).setNew (by omega) _ _⟩
              · go_simp; go_at_call 41; refine (among_calls (okI 0 20000001) b (m + 2) _ _ _ _ _ _ (by exact TR.out.2.2) (by omega) (by first | with_reducible exact Blk.new _ _ _ | exact (Blk.new _ _ _).drew) (by omega) (by rfl) (by rfl) (by omega) (by omega)).mono ?_; rintro e wd ⟨t, ht, rfl, hs2, hb⟩; clear ht; refine hK.out _ _ (by obtain ⟨x0_, x1_, x2_⟩ := hHeld; exact ⟨x0_.trans hb.two, Nat.lt_of_lt_of_le x1_ hb.size, hb.blk (show w.heap.size + 1 ≠ b by omega) x2_⟩) (fun hHeld2 => ?_); (first | have TR2 := Lib.hid (TR.out.only hb (by omega) (by omega) hs2) | have TR2 := Lib.hid (TR.out.only hb.undrew (by omega) (by omega) hs2) | have TR2 := Lib.hid (TR.out.only hb.undrew.undrew (by omega) (by omega) hs2)); clear TR o1; have TR := TR2; clear TR2; have o1 := (TR.out.2.1.cell 4).trans rfl; clear hK K hHeld hb; have hHeld := hHeld2; clear hHeld2; (try simp only [Act.put, List.setIfInBounds_toArray, List.set_cons_zero, List.set_cons_succ])
                refine take_yes (i := 5) (d := 35) (v := ?_) _ rfl rfl (by kernel_rfl) (by kernel_rfl) (by kernel_rfl) (fun _ _ _ _ h => h) (by rfl) ?_ (by assumption) ?_
                rotate_left 1
                · ((intro w hSw; (try dsimp only at hSw); go_simp) <;> (try with_reducible rfl))
                (try simp only [Act.put, List.setIfInBounds_toArray, List.set_cons_zero, List.set_cons_succ])
                refine wpAnyH_ready (rs := [1, 6]) (by kernel_rfl) (by simp) ?_; refine AllReadyH.cons rfl (fun K hK => ?_) (AllReadyH.cons rfl (fun K hK => ?_) AllReadyH.nil)
                · go_simp; refine hK.out _ _ (by assumption) (fun hHeld2 => ?_); clear hK K hHeld; have hHeld := hHeld2; clear hHeld2; (try simp only [Act.put, List.setIfInBounds_toArray, List.set_cons_zero, List.set_cons_succ])
                  (refine wpAnyH_ready (rs := [6]) (by kernel_rfl) (by simp) ?_; refine AllReadyH.cons rfl (fun K hK => ?_) AllReadyH.nil; go_simp; refine hK.out _ _ (by obtain ⟨x0_, x1_, x2_⟩ := hHeld; exact ⟨x0_.trans (only_of ((Below.refl _ _).alloc (Nat.le_refl _) _)).two, Nat.lt_of_lt_of_le x1_ ((Below.refl _ _).alloc (Nat.le_refl _) _).size, x2_.keep ((Below.refl _ _).alloc (Nat.le_refl _) _)⟩) (fun hHeld2 => ?_); clear hK K; have hOld := hHeld; clear hHeld; have hHeld := hHeld2; clear hHeld2; (first | have TR2 := Lib.hid (TR.out.al2 hHeld) | have TR2 := Lib.hid (TR.out.alD2 hHeld) | have TR2 := Lib.hid (TR.out.alDD2 hHeld)); clear TR o1; have TR := TR2; clear TR2; have o1 := (TR.out.2.1.cell 4).trans rfl; (try simp only [Act.put, List.setIfInBounds_toArray, List.set_cons_zero, List.set_cons_succ]))
                  (refine wpAnyH_ready (rs := [7]) (by kernel_rfl) (by simp) ?_; refine AllReadyH.cons rfl (fun K hK => ?_) AllReadyH.nil; refine step_append_own _ rfl (.tmp 31) (.tmp 36) _ rfl G 41 i0 (.agg #[.string ⟨#[]⟩, .int .i64 0]) 2 24 Tryz.underlying26 hi hz0 hz1 hz2 rfl (by decide) _ _ _ rfl (TR.out.1) ⟨_, 0, none⟩ 1 1 [.string ⟨#[122, 122]⟩, .int .i64 t] rfl rfl (fun j u hj => by match j, hj with | 0, hj => simp at hj; subst hj; simp [Addr.add] | 1, hj => simp at hj; subst hj; simp [Addr.add]) (fun u hu => by simp at hu; rcases hu with rfl | rfl <;> rfl) (by unfold maxLen; omega) (by omega) (by have := hHeld.2.1; omega) ?_; intro v_ wa_ hown_ hgrow_ hat_; replace hgrow_ : World.grownBy _ wa_ (some G) := hgrow_; obtain ⟨g_, cap_, cur_, rfl, hgG_, -⟩ := own_blk hown_ (by omega); have HB2 := Lib.hid (show Blk wa_ w.heap.size 28 #[.string id, .int .i64 no, .int .i64 ma, .int .i64 fe, .slice (some ⟨G, 0, none⟩) n c] from by first | exact TR.out.2.1.grow hgrow_ (fun e => absurd (Option.some.inj e) (by omega)) | exact TR.out.2.1.grow (gb_undrew hgrow_) (fun e => absurd (Option.some.inj e) (by omega)) | exact TR.out.2.1.grow (gb_undrew (gb_undrew hgrow_)) (fun e => absurd (Option.some.inj e) (by omega))); have o3 := (HB2.out.cell 4).trans rfl; have f3 := HB2.out.frozen; have HS2 := Lib.hid (show Src wa_ b (m + 2 + 2) from by first | exact TR.out.2.2.grow hgrow_ (fun k hk => by have := Option.some.inj hk; omega) | exact TR.out.2.2.grow (gb_undrew hgrow_) (fun k hk => by have := Option.some.inj hk; omega) | exact TR.out.2.2.grow (gb_undrew (gb_undrew hgrow_)) (fun k hk => by have := Option.some.inj hk; omega)); rw [shW_upd] at hown_; obtain ⟨gs_, hga_, -, hso_⟩ := shareRow_own hown_ (by omega); have HSO := Lib.hid hso_.typ; have HGA := Lib.hid hga_; clear hown_ hso_ hga_; refine hK.out _ _ (by obtain ⟨x0_, x1_, x2_⟩ := hHeld; exact ⟨x0_.grow hgrow_ (fun k hk => .inl (Option.some.inj hk).symm), Nat.lt_of_lt_of_le x1_ hgrow_.size, x2_.grow hgrow_ (fun e => absurd (Option.some.inj e) (by omega))⟩) (fun hHeld2 => ?_); clear hK K hHeld; (try clear hOld); have hHeld := hHeld2; clear hHeld2; (try simp only [Act.put, List.setIfInBounds_toArray, List.set_cons_zero, List.set_cons_succ]))
                  refine take_yes (i := 8) (d := 38) (v := ?_) _ rfl rfl (by kernel_rfl) (by kernel_rfl) (by kernel_rfl) (fun _ _ _ _ h => h) (by rfl) ?_ (by assumption) ?_
                  rotate_left 1
                  · ((intro w hSw; (try dsimp only at hSw); go_simp) <;> (try with_reducible rfl))
                  (try simp only [Act.put, List.setIfInBounds_toArray, List.set_cons_zero, List.set_cons_succ])
                  (refine wpAnyH_ready (rs := [9]) (by kernel_rfl) (by simp) ?_; refine AllReadyH.cons rfl (fun K hK => ?_) AllReadyH.nil; go_simp; refine hK.out _ _ (by obtain ⟨x0_, x1_, x2_⟩ := hHeld; exact ⟨x0_.setNew (by omega) _ (.slice (some ⟨g_, 0, none⟩) (n + 1) cap_), by simpa using x1_, x2_.far (p := ⟨w.heap.size, 4, none⟩) (by (try dsimp only); omega) (.slice (some ⟨g_, 0, none⟩) (n + 1) cap_)⟩) (fun hHeld2 => ?_); clear hK K hHeld; (try clear hOld); have hHeld := hHeld2; clear hHeld2; (try simp only [Act.put, List.setIfInBounds_toArray, List.set_cons_zero, List.set_cons_succ]))
                  refine wpAnyH_done (by kernel_rfl) ?_ _
                  obtain ⟨z0, z1, z2⟩ := hHeld
                  have HB3 := Lib.hid (Blk.set_ HB2.out 4 (.slice (some ⟨g_, 0, none⟩) (n + 1) cap_))
                  have HS3 := Lib.hid (HS2.out.far (show b < w.heap.size by omega) 4 (.slice (some ⟨g_, 0, none⟩) (n + 1) cap_))
                  have HT3 := Lib.hid (HSO.out.fix (Fix.set_ HB2.out 4 (.slice (some ⟨g_, 0, none⟩) (n + 1) cap_)) (by unfold NotT; decide))
                  rw [← HGA.out] at HT3
                  clear hgrow_ hat_ HB2 o3 f3 HS2 TR o1 HSO
                  have B9 := HB3
                  have R9 := Lib.hid z2
                  have OF := Lib.hid z0
                  have SF := HS3
                  have HT9 := HT3
                  clear z0 z1 z2 HB3 HS3 HT3 HB1 HR1 S1 T1 SH1
                  have x0 := (B9.out.cell 0).trans rfl
                  have x1 := (B9.out.cell 1).trans rfl
                  have x2 := (B9.out.cell 2).trans rfl
                  have x3 := (B9.out.cell 3).trans rfl
                  have x4 := (B9.out.cell 4).trans rfl
                  have y0 := (R9.out.cell 0).trans rfl
                  have y1 := (R9.out.cell 1).trans rfl
                  have y2 := (R9.out.cell 2).trans rfl
                  have y3 := (R9.out.cell 3).trans rfl
                  have y4 := (R9.out.cell 4).trans rfl
                  have gf := B9.out.frozen
                  have rf := R9.out.frozen
                  go_wp2
                  refine bodyPost_ret (v := .agg #[.string id, .int .i64 no, .int .i64 ma, .int .i64 fe, .slice (some ⟨g_, 0, none⟩) (n + 1) cap_]) (by simp [results, Tryz.results14, go_sem, y0, y1, y2, y3, y4]) rfl ?_
                  refine ⟨⟨id, no, ma, fe, n + 1, updS ss n ⟨#[122, 122]⟩, updI ms n t⟩, some ⟨g_, 0, none⟩, cap_, rfl, ⟨HX1.out, updS_all (C := fun s => s.size ≤ maxLen) HX2.out (by show (2 : Nat) ≤ maxLen; unfold maxLen; omega), by show n + 1 ≤ 1048576; omega⟩, HT9.out.fix (S := NotT 28) ((Fix.set_ R9.out 0 _).trans ((Fix.set_ (R9.out.set_ 0 _) 1 _).trans ((Fix.set_ ((R9.out.set_ 0 _).set_ 1 _) 2 _).trans ((Fix.set_ (((R9.out.set_ 0 _).set_ 1 _).set_ 2 _) 3 _).trans (Fix.set_ ((((R9.out.set_ 0 _).set_ 1 _).set_ 2 _).set_ 3 _) 4 _))))) (by unfold NotT; decide), (((((SF.out.far (by omega) _ _).far (by omega) _ _).far (by omega) _ _).far (by omega) _ _).far (by omega) _ _).mono (by omega), ((((OF.out.setNew (by omega) _ _).setNew (by omega) _ _).setNew (by omega) _ _).setNew (by omega) _ _).setNew (by omega) _ _⟩
                · go_simp; refine hK.out _ _ (by obtain ⟨x0_, x1_, x2_⟩ := hHeld; exact ⟨x0_.trans (only_of ((Below.refl _ _).alloc (Nat.le_refl _) _)).two, Nat.lt_of_lt_of_le x1_ ((Below.refl _ _).alloc (Nat.le_refl _) _).size, x2_.keep ((Below.refl _ _).alloc (Nat.le_refl _) _)⟩) (fun hHeld2 => ?_); clear hK K; have hOld := hHeld; clear hHeld; have hHeld := hHeld2; clear hHeld2; (first | have TR2 := Lib.hid (TR.out.al2 hHeld) | have TR2 := Lib.hid (TR.out.alD2 hHeld) | have TR2 := Lib.hid (TR.out.alDD2 hHeld)); clear TR o1; have TR := TR2; clear TR2; have o1 := (TR.out.2.1.cell 4).trans rfl; (try simp only [Act.put, List.setIfInBounds_toArray, List.set_cons_zero, List.set_cons_succ])
                  (refine wpAnyH_ready (rs := [1]) (by kernel_rfl) (by simp) ?_; refine AllReadyH.cons rfl (fun K hK => ?_) AllReadyH.nil; go_simp; refine hK.out _ _ (by assumption) (fun hHeld2 => ?_); clear hK K hHeld; have hHeld := hHeld2; clear hHeld2; (try simp only [Act.put, List.setIfInBounds_toArray, List.set_cons_zero, List.set_cons_succ]))
                  (refine wpAnyH_ready (rs := [7]) (by kernel_rfl) (by simp) ?_; refine AllReadyH.cons rfl (fun K hK => ?_) AllReadyH.nil; refine step_append_own _ rfl (.tmp 31) (.tmp 36) _ rfl G 41 i0 (.agg #[.string ⟨#[]⟩, .int .i64 0]) 2 24 Tryz.underlying26 hi hz0 hz1 hz2 rfl (by decide) _ _ _ rfl (TR.out.1) ⟨_, 0, none⟩ 1 1 [.string ⟨#[122, 122]⟩, .int .i64 t] rfl rfl (fun j u hj => by match j, hj with | 0, hj => simp at hj; subst hj; simp [Addr.add] | 1, hj => simp at hj; subst hj; simp [Addr.add]) (fun u hu => by simp at hu; rcases hu with rfl | rfl <;> rfl) (by unfold maxLen; omega) (by omega) (by have := hHeld.2.1; omega) ?_; intro v_ wa_ hown_ hgrow_ hat_; replace hgrow_ : World.grownBy _ wa_ (some G) := hgrow_; obtain ⟨g_, cap_, cur_, rfl, hgG_, -⟩ := own_blk hown_ (by omega); have HB2 := Lib.hid (show Blk wa_ w.heap.size 28 #[.string id, .int .i64 no, .int .i64 ma, .int .i64 fe, .slice (some ⟨G, 0, none⟩) n c] from by first | exact TR.out.2.1.grow hgrow_ (fun e => absurd (Option.some.inj e) (by omega)) | exact TR.out.2.1.grow (gb_undrew hgrow_) (fun e => absurd (Option.some.inj e) (by omega)) | exact TR.out.2.1.grow (gb_undrew (gb_undrew hgrow_)) (fun e => absurd (Option.some.inj e) (by omega))); have o3 := (HB2.out.cell 4).trans rfl; have f3 := HB2.out.frozen; have HS2 := Lib.hid (show Src wa_ b (m + 2 + 2) from by first | exact TR.out.2.2.grow hgrow_ (fun k hk => by have := Option.some.inj hk; omega) | exact TR.out.2.2.grow (gb_undrew hgrow_) (fun k hk => by have := Option.some.inj hk; omega) | exact TR.out.2.2.grow (gb_undrew (gb_undrew hgrow_)) (fun k hk => by have := Option.some.inj hk; omega)); rw [shW_upd] at hown_; obtain ⟨gs_, hga_, -, hso_⟩ := shareRow_own hown_ (by omega); have HSO := Lib.hid hso_.typ; have HGA := Lib.hid hga_; clear hown_ hso_ hga_; refine hK.out _ _ (by obtain ⟨x0_, x1_, x2_⟩ := hHeld; exact ⟨x0_.grow hgrow_ (fun k hk => .inl (Option.some.inj hk).symm), Nat.lt_of_lt_of_le x1_ hgrow_.size, x2_.grow hgrow_ (fun e => absurd (Option.some.inj e) (by omega))⟩) (fun hHeld2 => ?_); clear hK K hHeld; (try clear hOld); have hHeld := hHeld2; clear hHeld2; (try simp only [Act.put, List.setIfInBounds_toArray, List.set_cons_zero, List.set_cons_succ]))
                  refine take_yes (i := 8) (d := 38) (v := ?_) _ rfl rfl (by kernel_rfl) (by kernel_rfl) (by kernel_rfl) (fun _ _ _ _ h => h) (by rfl) ?_ (by assumption) ?_
                  rotate_left 1
                  · ((intro w hSw; (try dsimp only at hSw); go_simp) <;> (try with_reducible rfl))
                  (try simp only [Act.put, List.setIfInBounds_toArray, List.set_cons_zero, List.set_cons_succ])
                  (refine wpAnyH_ready (rs := [9]) (by kernel_rfl) (by simp) ?_; refine AllReadyH.cons rfl (fun K hK => ?_) AllReadyH.nil; go_simp; refine hK.out _ _ (by obtain ⟨x0_, x1_, x2_⟩ := hHeld; exact ⟨x0_.setNew (by omega) _ (.slice (some ⟨g_, 0, none⟩) (n + 1) cap_), by simpa using x1_, x2_.far (p := ⟨w.heap.size, 4, none⟩) (by (try dsimp only); omega) (.slice (some ⟨g_, 0, none⟩) (n + 1) cap_)⟩) (fun hHeld2 => ?_); clear hK K hHeld; (try clear hOld); have hHeld := hHeld2; clear hHeld2; (try simp only [Act.put, List.setIfInBounds_toArray, List.set_cons_zero, List.set_cons_succ]))
                  refine wpAnyH_done (by kernel_rfl) ?_ _
                  obtain ⟨z0, z1, z2⟩ := hHeld
                  have HB3 := Lib.hid (Blk.set_ HB2.out 4 (.slice (some ⟨g_, 0, none⟩) (n + 1) cap_))
                  have HS3 := Lib.hid (HS2.out.far (show b < w.heap.size by omega) 4 (.slice (some ⟨g_, 0, none⟩) (n + 1) cap_))
                  have HT3 := Lib.hid (HSO.out.fix (Fix.set_ HB2.out 4 (.slice (some ⟨g_, 0, none⟩) (n + 1) cap_)) (by unfold NotT; decide))
                  rw [← HGA.out] at HT3
                  clear hgrow_ hat_ HB2 o3 f3 HS2 TR o1 HSO
                  have B9 := HB3
                  have R9 := Lib.hid z2
                  have OF := Lib.hid z0
                  have SF := HS3
                  have HT9 := HT3
                  clear z0 z1 z2 HB3 HS3 HT3 HB1 HR1 S1 T1 SH1
                  have x0 := (B9.out.cell 0).trans rfl
                  have x1 := (B9.out.cell 1).trans rfl
                  have x2 := (B9.out.cell 2).trans rfl
                  have x3 := (B9.out.cell 3).trans rfl
                  have x4 := (B9.out.cell 4).trans rfl
                  have y0 := (R9.out.cell 0).trans rfl
                  have y1 := (R9.out.cell 1).trans rfl
                  have y2 := (R9.out.cell 2).trans rfl
                  have y3 := (R9.out.cell 3).trans rfl
                  have y4 := (R9.out.cell 4).trans rfl
                  have gf := B9.out.frozen
                  have rf := R9.out.frozen
                  go_wp2
                  refine bodyPost_ret (v := .agg #[.string id, .int .i64 no, .int .i64 ma, .int .i64 fe, .slice (some ⟨g_, 0, none⟩) (n + 1) cap_]) (by simp [results, Tryz.results14, go_sem, y0, y1, y2, y3, y4]) rfl ?_
                  refine ⟨⟨id, no, ma, fe, n + 1, updS ss n ⟨#[122, 122]⟩, updI ms n t⟩, some ⟨g_, 0, none⟩, cap_, rfl, ⟨HX1.out, updS_all (C := fun s => s.size ≤ maxLen) HX2.out (by show (2 : Nat) ≤ maxLen; unfold maxLen; omega), by show n + 1 ≤ 1048576; omega⟩, HT9.out.fix (S := NotT 28) ((Fix.set_ R9.out 0 _).trans ((Fix.set_ (R9.out.set_ 0 _) 1 _).trans ((Fix.set_ ((R9.out.set_ 0 _).set_ 1 _) 2 _).trans ((Fix.set_ (((R9.out.set_ 0 _).set_ 1 _).set_ 2 _) 3 _).trans (Fix.set_ ((((R9.out.set_ 0 _).set_ 1 _).set_ 2 _).set_ 3 _) 4 _))))) (by unfold NotT; decide), (((((SF.out.far (by omega) _ _).far (by omega) _ _).far (by omega) _ _).far (by omega) _ _).far (by omega) _ _).mono (by omega), ((((OF.out.setNew (by omega) _ _).setNew (by omega) _ _).setNew (by omega) _ _).setNew (by omega) _ _).setNew (by omega) _ _⟩
        · by_cases z4 : p = 4
          · subst z4
            have z4 := (B1.cell 4).trans rfl
            have zf := B1.frozen
            have hgz := HB1.out.lt
            clear B1 R1
            have B9 := Lib.hid ((HB1.out.set_ 4 (.slice (some ⟨w1.heap.size, 0, none⟩) 0 0)).alloc (.cells #[] 41))
            have R9 := Lib.hid ((HR1.out.far (p := ⟨w.heap.size, 4, none⟩) hne (.slice (some ⟨w1.heap.size, 0, none⟩) 0 0)).alloc (.cells #[] 41))
            have SF := Lib.hid ((S1.out.far hlt 4 (.slice (some ⟨w1.heap.size, 0, none⟩) 0 0)).alloc (.cells #[] 41))
            have OF := Lib.hid ((T1.out.setNew (Nat.le_refl _) 4 (.slice (some ⟨w1.heap.size, 0, none⟩) 0 0)).alloc (.cells #[] 41))
            have x0 := (B9.out.cell 0).trans rfl
            have x1 := (B9.out.cell 1).trans rfl
            have x2 := (B9.out.cell 2).trans rfl
            have x3 := (B9.out.cell 3).trans rfl
            have x4 := (B9.out.cell 4).trans rfl
            have y0 := (R9.out.cell 0).trans rfl
            have y1 := (R9.out.cell 1).trans rfl
            have y2 := (R9.out.cell 2).trans rfl
            have y3 := (R9.out.cell 3).trans rfl
            have y4 := (R9.out.cell 4).trans rfl
            have gf := B9.out.frozen
            have rf := R9.out.frozen
            go_wp2
            refine bodyPost_ret (v := .agg #[.string id, .int .i64 no, .int .i64 ma, .int .i64 fe, .slice (some ⟨w1.heap.size, 0, none⟩) 0 0]) (by simp [results, Tryz.results14, go_sem, y0, y1, y2, y3, y4]) rfl ?_
            refine ⟨⟨id, no, ma, fe, 0, ss, ms⟩, _, 0, rfl, ⟨HX1.out, fun i hi => absurd hi (Nat.not_lt_zero i), by show 0 ≤ 1048576; omega⟩, fun h => absurd h (Nat.lt_irrefl 0), ?_, Only.two ?_⟩
            · repeat (refine Src.far ?_ (by omega) _ _)
              exact SF.out.mono (by omega)
            · repeat (refine Only.setNew ?_ (by omega) _ _)
              exact OF.out
          · by_cases z5 : p = 5
            · subst z5
              have B9 := Lib.hid B1
              have R9 := Lib.hid R1
              have SF := Lib.hid S1.out
              have OF := Lib.hid T1.out
              have SHF := Lib.hid SH1.out
              have e1 : IntKind.i64.wrap (ma + 1) = ma + 1 := IntWalk.i64_in _ ⟨by omega, by omega⟩
              clear B1 R1
              have x0 := (B9.out.cell 0).trans rfl
              have x1 := (B9.out.cell 1).trans rfl
              have x2 := (B9.out.cell 2).trans rfl
              have x3 := (B9.out.cell 3).trans rfl
              have x4 := (B9.out.cell 4).trans rfl
              have y0 := (R9.out.cell 0).trans rfl
              have y1 := (R9.out.cell 1).trans rfl
              have y2 := (R9.out.cell 2).trans rfl
              have y3 := (R9.out.cell 3).trans rfl
              have y4 := (R9.out.cell 4).trans rfl
              have gf := B9.out.frozen
              have rf := R9.out.frozen
              go_wp2
              refine bodyPost_ret (v := .agg #[.string id, .int .i64 no, .int .i64 (ma + 1), .int .i64 (-1), .slice (some ⟨G, 0, none⟩) n c]) (by simp [results, Tryz.results14, go_sem, y0, y1, y2, y3, y4]) rfl ?_
              refine ⟨⟨id, no, (ma + 1), (-1), n, ss, ms⟩, _, c, rfl, ⟨HX1.out, HX2.out, by show n ≤ 1048576; omega⟩, ShareOwnC.typ (c := c) ?_, ?_, Only.two ?_⟩
              · repeat (refine ShareOwnC.far ?_ (by omega))
                exact SHF.out
              · repeat (refine Src.far ?_ (by omega) _ _)
                exact SF.out.mono (by omega)
              · repeat (refine Only.setNew ?_ (by omega) _ _)
                exact OF.out
            · have B9 := Lib.hid B1
              have R9 := Lib.hid R1
              have SF := Lib.hid S1.out
              have OF := Lib.hid T1.out
              have SHF := Lib.hid SH1.out
              clear B1 R1
              have x0 := (B9.out.cell 0).trans rfl
              have x1 := (B9.out.cell 1).trans rfl
              have x2 := (B9.out.cell 2).trans rfl
              have x3 := (B9.out.cell 3).trans rfl
              have x4 := (B9.out.cell 4).trans rfl
              have y0 := (R9.out.cell 0).trans rfl
              have y1 := (R9.out.cell 1).trans rfl
              have y2 := (R9.out.cell 2).trans rfl
              have y3 := (R9.out.cell 3).trans rfl
              have y4 := (R9.out.cell 4).trans rfl
              have gf := B9.out.frozen
              have rf := R9.out.frozen
              go_wp2
              refine bodyPost_ret (v := .agg #[.string id, .int .i64 no, .int .i64 ma, .int .i64 fe, .slice (some ⟨G, 0, none⟩) n c]) (by simp [results, Tryz.results14, go_sem, y0, y1, y2, y3, y4]) rfl ?_
              refine ⟨⟨id, no, ma, fe, n, ss, ms⟩, _, c, rfl, ⟨HX1.out, HX2.out, by show n ≤ 1048576; omega⟩, ShareOwnC.typ (c := c) ?_, ?_, Only.two ?_⟩
              · repeat (refine ShareOwnC.far ?_ (by omega))
                exact SHF.out
              · repeat (refine Src.far ?_ (by omega) _ _)
                exact SF.out.mono (by omega)
              · repeat (refine Only.setNew ?_ (by omega) _ _)
                exact OF.out
end Go.Proofs.YticnpibkpfpojaaGreatDoor

/- Drawn ingots, melts and bells, seldom bent: what the drawing function leaves, for every source. -/
namespace Go.Proofs.YticnpibkpfpojaaGreatDoor
set_option linter.unusedVariables false
open Go.RowKit

/-- what the call leaves -/
def DrawOut (b M : Nat) (w : World) (e : Ending) (w' : World) : Prop := ∃ A n c s0 a1 a2 a3 a4 B q d g C p e2 f, e = .returned (.tuple #[.slice A n c, .slice B q d, .slice C p e2]) ∧ IngE w' A n c s0 a1 a2 a3 a4 ∧ MeltsD w' B q d g ∧ BellsD w' C p e2 f ∧ (0 < p → Loc w.heap.size C) ∧ Src w' b M ∧ Only b w w'
theorem IngD.e {w : World} {A : Option Addr} {n c : Nat} {s0 : Nat → ByteArray} {a1 a2 a3 a4 : Nat → Int} (h : IngD w A n c s0 a1 a2 a3 a4) : IngE w A n c s0 a1 a2 a3 a4 := ⟨h.1, h.2.1, h.2.2.1, ingD_sz h⟩
theorem IngE.fix {S : TypeId → Prop} {w w' : World} {A : Option Addr} {n c : Nat} {s0 : Nat → ByteArray} {a1 a2 a3 a4 : Nat → Int} (h : IngE w A n c s0 a1 a2 a3 a4) (hf : Fix S w w') (hs : S 163) : IngE w' A n c s0 a1 a2 a3 a4 := ⟨h.1, h.2.1, h.2.2.1.fix hf hs, h.2.2.2⟩
theorem IngE.tail {w : World} {g o n c : Nat} {s0 : Nat → ByteArray} {a1 a2 a3 a4 : Nat → Int} (h : IngE w (some ⟨g, o, none⟩) n c s0 a1 a2 a3 a4) : IngE w (some ⟨g, o + 5, none⟩) (n - 1) (c - 1) (fun i => s0 (i + 1)) (fun i => a1 (i + 1)) (fun i => a2 (i + 1)) (fun i => a3 (i + 1)) (fun i => a4 (i + 1)) :=
  ⟨by have := h.1; omega, by have := h.2.1; omega, h.2.2.1.tail, fun i hi => h.2.2.2 (i + 1) (by omega)⟩
theorem MeltsD.tail {w : World} {g o n c : Nat} {f : Nat → MeltV} (h : MeltsD w (some ⟨g, o, none⟩) n c f) : MeltsD w (some ⟨g, o + 3, none⟩) (n - 1) (c - 1) (fun i => f (i + 1)) :=
  ⟨by have := h.1; omega, by have := h.2.1; omega, h.2.2.1.tail, fun i hi => h.2.2.2 (i + 1) (by omega)⟩
theorem bellsD_own {w : World} {C : Option Addr} {p e2 G lo : Nat} {f : Nat → BellV} (h : BellOwn w C p f G lo) (h1 : p ≤ e2) (h2 : p ≤ 4) (h3 : ∀ j, j < p → SmallB (f j)) : BellsD w C p e2 f := ⟨h1, by omega, h.typ, fun j hj => (h3 j hj).1⟩
theorem BellOwn.loc {w : World} {C : Option Addr} {p G lo : Nat} {f : Nat → BellV} (h : BellOwn w C p f G lo) : 0 < p → Loc lo C := fun hp g o e => by
  obtain ⟨hA, hl, -⟩ := h hp
  rw [hA] at e
  simp only [Option.some.injEq, Addr.mk.injEq, and_true] at e
  omega
/-- the first bell of a list written over -/
theorem bells_first {w w1 : World} {b G lo n : Nat} {f : Nat → BellV} {arr : Array Value} {gs cs : Nat → Nat} {y : BellV} {C2 : Option Addr} {c2 : Nat} (hb : Blk w G 28 arr) (hs : n * 5 ≤ arr.size) (hx : ∀ i, i < n → BellX w lo w.heap.size (fun j => arr[j]?) i (f i) (gs i) (cs i)) (hap : ∀ i j, i < j → j < n → gs i ≠ gs j) (hn : 0 < n) (h2 : Two b (gs 0) w w1) (hbl : b < lo) (hGl : lo ≤ G) (hy : ShareT w1 C2 y.n y.ss y.ms) :
    BellT (((((w1.setCell ⟨G, 0, none⟩ (.string y.id)).setCell ⟨G, 1, none⟩ (.int .i64 y.no)).setCell ⟨G, 2, none⟩ (.int .i64 y.ma)).setCell ⟨G, 3, none⟩ (.int .i64 y.fe)).setCell ⟨G, 4, none⟩ (.slice C2 y.n c2)) (some ⟨G, 0, none⟩) n (fun i => if i = 0 then y else f i) := fun _ => by
  have hG0 : G ≠ gs 0 := fun e => by
    obtain ⟨-, -, -, -, arr2, hb2, -⟩ := hx 0 hn
    rw [← e] at hb2
    exact absurd (hb.type hb2) (by decide)
  have hb1 : Blk w1 G 28 arr := (h2.block G (by omega) hG0 hb.lt).trans hb
  have HB := ((((hb1.set_ 0 (.string y.id)).set_ 1 (.int .i64 y.no)).set_ 2 (.int .i64 y.ma)).set_ 3 (.int .i64 y.fe)).set_ 4 (.slice C2 y.n c2)
  have HF : Fix (NotT 28) w1 _ := (Fix.set_ hb1 0 (.string y.id)).trans ((Fix.set_ (hb1.set_ 0 _) 1 (.int .i64 y.no)).trans ((Fix.set_ ((hb1.set_ 0 _).set_ 1 _) 2 (.int .i64 y.ma)).trans ((Fix.set_ (((hb1.set_ 0 _).set_ 1 _).set_ 2 _) 3 (.int .i64 y.fe)).trans (Fix.set_ ((((hb1.set_ 0 _).set_ 1 _).set_ 2 _).set_ 3 _) 4 (.slice C2 y.n c2)))))
  have hsz : 5 ≤ arr.size := by omega
  refine ⟨G, 0, _, rfl, HB, fun i hi => ?_⟩
  rcases Nat.eq_zero_or_pos i with z | z
  · subst z
    show BellL _ _ (if 0 = 0 then y else f 0)
    rw [if_pos rfl]
    refine ⟨C2, c2, ?_, ?_, ?_, ?_, ?_, hy.fix HF (by unfold NotT; decide)⟩
    all_goals show (Array.setIfInBounds _ _ _)[_]? = _
    · rw [Array.getElem?_setIfInBounds_ne (by omega), Array.getElem?_setIfInBounds_ne (by omega), Array.getElem?_setIfInBounds_ne (by omega), Array.getElem?_setIfInBounds_ne (by omega), Array.getElem?_setIfInBounds_self_of_lt (by omega)]
    · rw [Array.getElem?_setIfInBounds_ne (by omega), Array.getElem?_setIfInBounds_ne (by omega), Array.getElem?_setIfInBounds_ne (by omega), Array.getElem?_setIfInBounds_self_of_lt (by simp; omega)]
    · rw [Array.getElem?_setIfInBounds_ne (by omega), Array.getElem?_setIfInBounds_ne (by omega), Array.getElem?_setIfInBounds_self_of_lt (by simp; omega)]
    · rw [Array.getElem?_setIfInBounds_ne (by omega), Array.getElem?_setIfInBounds_self_of_lt (by simp; omega)]
    · rw [Array.getElem?_setIfInBounds_self_of_lt (by simp; omega)]
  · show BellL _ _ (if i = 0 then y else f i)
    rw [if_neg (by omega)]
    obtain ⟨⟨a0, a1, a2, a3⟩, a4, h5, h6, h7⟩ := hx i hi
    have hne := hap 0 i z hi
    have h8 : ShareOwnC w1 (f i).n (f i).ss (f i).ms (gs i) (cs i) := h7.same (h2.block _ (by omega) (fun e => hne e.symm) h6)
    refine ⟨_, cs i, ?_, ?_, ?_, ?_, ?_, (h8.typ).fix HF (by unfold NotT; decide)⟩
    all_goals show (Array.setIfInBounds _ _ _)[_]? = _
    all_goals rw [Array.getElem?_setIfInBounds_ne (by omega), Array.getElem?_setIfInBounds_ne (by omega), Array.getElem?_setIfInBounds_ne (by omega), Array.getElem?_setIfInBounds_ne (by omega), Array.getElem?_setIfInBounds_ne (by omega), Nat.zero_add]
    · exact a0
    · exact a1
    · exact a2
    · exact a3
    · exact a4
end Go.Proofs.YticnpibkpfpojaaGreatDoor

/- Drawn ingots, melts and bells, seldom bent: what the drawing function leaves, for every source. -/
namespace Go.Proofs.YticnpibkpfpojaaGreatDoor
set_option linter.unusedVariables false
open Go.RowKit

theorem bells_sets {w1 : World} {G : Nat} {arr : Array Value} (hb1 : Blk w1 G 28 arr) (u0 u1 u2 u3 u4 : Value) : Fix (NotT 28) w1 (((((w1.setCell ⟨G, 0, none⟩ u0).setCell ⟨G, 1, none⟩ u1).setCell ⟨G, 2, none⟩ u2).setCell ⟨G, 3, none⟩ u3).setCell ⟨G, 4, none⟩ u4) :=
  (Fix.set_ hb1 0 u0).trans ((Fix.set_ (hb1.set_ 0 _) 1 u1).trans ((Fix.set_ ((hb1.set_ 0 _).set_ 1 _) 2 u2).trans ((Fix.set_ (((hb1.set_ 0 _).set_ 1 _).set_ 2 _) 3 u3).trans (Fix.set_ ((((hb1.set_ 0 _).set_ 1 _).set_ 2 _).set_ 3 _) 4 u4))))
set_option maxRecDepth 20000 in
set_option maxHeartbeats 8000000 in
theorem l18Draw_calls (b m : Nat) (w : World) (h : Src w b m) (hm : m ≤ 100000) :
    Calls Tryz.prog 13 #[.pointer (some ⟨b, 0, none⟩)] w (DrawOut b (m + 720) w) := by
  obtain ⟨i0, hi, iz0, iz1, iz2⟩ := info_parts BellI_info
  have hlt := h.lt
  go_enter Tryz.func13, Tryz.ntmps13
  go_wp2_with fail
  go_at_call 39
  refine (l18DrawOk_calls b m _ h (by omega)).mono ?_
  rintro e w1 ⟨A, n, c, s0, a1, a2, a3, a4, B, q, d, g, C, p, e2, f, G, rfl, hD, hM, hloc, hB, hpe, hp4, hsm, hs1, ho1⟩
  have HLC := Lib.hid hloc
  clear hloc
  have HB := Lib.hid hB
  have HD := Lib.hid hD
  have HM := Lib.hid hM
  have HSM := Lib.hid hsm
  have HO := Lib.hid ho1
  have hqd := hM.1
  have hq13 := hM.2.1
  have hnc := hD.1
  have hn7 := hD.2.1
  clear hB hD hM hsm ho1 h
  go_wp2_with fail
  go_at_call 40
  refine (pick_calls _ _ _ _ hs1 (by omega) (by omega)).mono ?_
  rintro e w2 ⟨r, ⟨r0, r1⟩, rfl, hs2, ho2⟩
  have FX := Lib.hid (hs1.fix ho2)
  have D2 := Lib.hid (HD.out.fix FX.out (by unfold NotT; decide))
  have M2 := Lib.hid (HM.out.fix FX.out (by unfold NotT; decide) (by unfold NotT; decide))
  have B2 := Lib.hid (HB.out.only ho2 hlt)
  have O2 := Lib.hid (HO.out.trans ho2)
  have S2 := Lib.hid hs2
  have hz2 := O2.out.size
  clear hs1 hs2 ho2 FX HD HM HB HO
  by_cases z0 : r = 0
  · subst z0
    clear r0 r1
    by_cases hp : 0 < p
    · obtain ⟨rfl, hl, arr, hb, hs, gs, cs, hx, hap⟩ := B2.out hp
      obtain ⟨⟨b0, b1, b2, b3⟩, b4, hg1, hg2, hsh⟩ := hx 0 hp
      have x0 := (hb.cell 0).trans b0
      have x1 := (hb.cell 1).trans b1
      have x2 := (hb.cell 2).trans b2
      have x3 := (hb.cell 3).trans b3
      have x4 := (hb.cell 4).trans b4
      have xf := hb.frozen
      have HBK := Lib.hid hb
      have HSZ := Lib.hid hs
      have HX := Lib.hid hx
      have HAP := Lib.hid hap
      have HSH := Lib.hid hsh
      obtain ⟨F0, hF0⟩ : ∃ F0, F0 = f 0 := ⟨_, rfl⟩
      rw [← hF0] at x0 x1 x2 x3 x4 HSH
      have HSMF := Lib.hid (show SmallB F0 from hF0 ▸ HSM.out 0 hp)
      have hgl := hb.lt
      clear hb hs hx hap hsh b0 b1 b2 b3 b4 hF0
      go_wp2_with fail
      go_at_call 14
      refine (l18Bend_calls b _ F0.id F0.no F0.ma F0.fe F0.n (gs 0) (cs 0) F0.ss F0.ms w2 S2.out (by omega) HSH.out (by omega) HSMF.out).mono ?_
      rintro e w3 ⟨y, C2, c2, rfl, hfy, hty, hs3, h23⟩
      have hG0 : G ≠ gs 0 := fun e => by
        obtain ⟨arr2, hb2, -⟩ := HSH.out
        rw [← e] at hb2
        exact absurd (HBK.out.type hb2) (by decide)
      have hb3 : Blk w3 G 28 arr := (h23.block G (by omega) hG0 HBK.out.lt).trans HBK.out
      have HB3 := Lib.hid hb3
      have hf3 := hb3.frozen
      have H23 := Lib.hid h23
      have S3 := Lib.hid hs3
      have HTY := Lib.hid hty
      have HFY := Lib.hid hfy
      clear x0 x1 x2 x3 x4 xf hb3 h23 hs3 hty hfy
      have SS := Lib.hid (show Fix (fun t => t ≠ 80 ∧ t ≠ 41 ∧ t ≠ 28) w2 w3 from by
        obtain ⟨_, _, _, _, _, hbS, -⟩ := S2.out
        obtain ⟨arr2, hbH, -⟩ := HSH.out
        exact H23.out.fix hbS (fun h => h.1 rfl) hbH (fun h => h.2.1 rfl))
      have FB := Lib.hid (bells_sets HB3.out (.string y.id) (.int .i64 y.no) (.int .i64 y.ma) (.int .i64 y.fe) (.slice C2 y.n c2))
      have FF := Lib.hid (SS.out.trans (FB.out.mono (fun t h => h.2.2)))
      have BT := Lib.hid (bells_first (c2 := c2) HBK.out HSZ.out HX.out HAP.out hp H23.out hlt hl HTY.out)
      obtain ⟨⟨b0, b1, b2, b3⟩, b4, -⟩ := HX.out 0 hp
      have x0 := (HB3.out.cell 0).trans b0
      have x1 := (HB3.out.cell 1).trans b1
      have x2 := (HB3.out.cell 2).trans b2
      have x3 := (HB3.out.cell 3).trans b3
      have x4 := (HB3.out.cell 4).trans b4
      clear b0 b1 b2 b3 b4
      have hz3 := H23.out.size
      go_wp2
      refine bodyPost_ret (v := .tuple #[.slice A n c, .slice B q d, .slice (some ⟨G, 0, none⟩) p e2]) (by simp [results, Tryz.results13, go_sem]) rfl ?_
      exact ⟨A, n, c, s0, a1, a2, a3, a4, B, q, d, g, some ⟨G, 0, none⟩, p, e2, _, rfl, D2.out.e.fix FF.out (by decide), M2.out.fix FF.out (by decide) (by decide), ⟨hpe, by omega, BT.out, fun j hj => by
        show Fine (if j = 0 then y else f j)
        split
        · exact HFY.out
        · exact (HSM.out j hj).1⟩, (fun _ g9 o9 e9 => by simp only [Option.some.injEq, Addr.mk.injEq, and_true] at e9; omega), (((((S3.out.far (by omega) _ _).far (by omega) _ _).far (by omega) _ _).far (by omega) _ _).far (by omega) _ _).mono (by omega), (((((H23.out.only O2.out (by omega)).setNew (by omega) _ _).setNew (by omega) _ _).setNew (by omega) _ _).setNew (by omega) _ _).setNew (by omega) _ _⟩
    · obtain rfl : p = 0 := by omega
      go_wp2
      refine bodyPost_ret (v := .tuple #[.slice A n c, .slice B q d, .slice C 0 e2]) (by simp [results, Tryz.results13, go_sem]) rfl ?_
      exact ⟨A, n, c, s0, a1, a2, a3, a4, B, q, d, g, C, 0, e2, f, rfl, D2.out.e, M2.out, bellsD_own B2.out hpe hp4 HSM.out, B2.out.loc, S2.out.mono (by omega), O2.out⟩
  · by_cases z1 : r = 1
    · subst z1
      clear r0 r1
      by_cases hq : 0 < q
      · obtain ⟨gM, oM, arrM, rfl, hbM, hxM⟩ := M2.out.2.2.1 hq
        clear hbM hxM
        by_cases hd1 : d = 1
        · obtain rfl : q = 1 := by omega
          subst hd1
          go_wp2
          refine bodyPost_ret (v := .tuple #[.slice A n c, .slice (some ⟨gM, oM, none⟩) 0 0, .slice C p e2]) (by simp [results, Tryz.results13, go_sem]) rfl ?_
          exact ⟨A, n, c, s0, a1, a2, a3, a4, _, 0, 0, g, C, p, e2, f, rfl, D2.out.e, ⟨by omega, by omega, fun h => by omega, fun j hj => by omega⟩, bellsD_own B2.out hpe hp4 HSM.out, B2.out.loc, S2.out.mono (by omega), O2.out⟩
        · have MT := Lib.hid M2.out.tail
          go_wp2
          refine bodyPost_ret (v := .tuple #[.slice A n c, .slice (some ⟨gM, oM + 3, none⟩) (q - 1) (d - 1), .slice C p e2]) (by simp [results, Tryz.results13, go_sem]) rfl ?_
          exact ⟨A, n, c, s0, a1, a2, a3, a4, _, q - 1, d - 1, _, C, p, e2, f, rfl, D2.out.e, MT.out, bellsD_own B2.out hpe hp4 HSM.out, B2.out.loc, S2.out.mono (by omega), O2.out⟩
      · obtain rfl : q = 0 := by omega
        go_wp2
        refine bodyPost_ret (v := .tuple #[.slice A n c, .slice B 0 d, .slice C p e2]) (by simp [results, Tryz.results13, go_sem]) rfl ?_
        exact ⟨A, n, c, s0, a1, a2, a3, a4, B, 0, d, g, C, p, e2, f, rfl, D2.out.e, M2.out, bellsD_own B2.out hpe hp4 HSM.out, B2.out.loc, S2.out.mono (by omega), O2.out⟩
    · by_cases z2 : r = 2
      · subst z2
        clear r0 r1
        by_cases hq : 0 < q
        · obtain ⟨gM, oM, arrM, rfl, hbM, hxM⟩ := M2.out.2.2.1 hq
          obtain ⟨AM, cM, h0, h1, h2, h3⟩ := hxM 0 hq
          have x2 := (hbM.cell (oM + 2)).trans (by simpa using h2)
          have xf := hbM.frozen
          have hgl := hbM.lt
          have hgm : w.heap.size ≤ gM := HLC.out hq gM oM rfl
          have FM := Lib.hid (Fix.set_ hbM (oM + 2) (.int .i64 1))
          have MT := Lib.hid (M2.out.2.2.1.mass (v := 1) hq)
          have HFM := Lib.hid M2.out.2.2.2
          clear hbM hxM h0 h1 h2 h3
          go_wp2
          refine bodyPost_ret (v := .tuple #[.slice A n c, .slice (some ⟨gM, oM, none⟩) q d, .slice C p e2]) (by simp [results, Tryz.results13, go_sem]) rfl ?_
          exact ⟨A, n, c, s0, a1, a2, a3, a4, _, q, d, _, C, p, e2, f, rfl, D2.out.e.fix FM.out (by unfold NotT; decide), ⟨hqd, hq13, MT.out, fun j hj => by
            show FineM (if j = 0 then _ else g j)
            split
            · exact HFM.out 0 hq
            · exact HFM.out j hj⟩, (bellsD_own B2.out hpe hp4 HSM.out).fix FM.out (by unfold NotT; decide) (by unfold NotT; decide), B2.out.loc, (S2.out.far (by omega) _ _).mono (by omega), O2.out.setNew hgm _ _⟩
        · obtain rfl : q = 0 := by omega
          go_wp2
          refine bodyPost_ret (v := .tuple #[.slice A n c, .slice B 0 d, .slice C p e2]) (by simp [results, Tryz.results13, go_sem]) rfl ?_
          exact ⟨A, n, c, s0, a1, a2, a3, a4, B, 0, d, g, C, p, e2, f, rfl, D2.out.e, M2.out, bellsD_own B2.out hpe hp4 HSM.out, B2.out.loc, S2.out.mono (by omega), O2.out⟩
      · by_cases z3 : r = 3
        · subst z3
          clear r0 r1
          go_wp2_with fail
          go_at_call 41
          refine (among_calls (okI 24 25) _ _ _ _ _ _ _ _ (by exact S2.out.alloc _) (by omega) (by exact Blk.new _ _ _) (by omega) (by rfl) (by rfl) (by omega) (by omega)).mono ?_
          rintro e w3 ⟨t, ht, rfl, hs3, ho3⟩
          obtain ⟨t0, t1⟩ := okI_iff.1 ht
          obtain ⟨T, rfl⟩ := Int.eq_ofNat_of_zero_le (show 0 ≤ t by omega)
          have FX := Lib.hid ((Fix.alloc (S := NotT 80) (u := w2) (.cells #[.int .i64 24, .int .i64 25] 2)).trans ((S2.out.alloc _).fix ho3))
          have D3 := Lib.hid (D2.out.fix FX.out (by unfold NotT; decide))
          have M3 := Lib.hid (M2.out.fix FX.out (by unfold NotT; decide) (by unfold NotT; decide))
          have O3 := Lib.hid ((O2.out.alloc (.cells #[.int .i64 24, .int .i64 25] 2)).trans ho3)
          have S3 := Lib.hid hs3
          have hz3 := O3.out.size
          have HL0 := Lib.hid (World.ownsRow_lit (base := w3.heap.size) (e := 28) (size := 5) w3 #[] 0 (Nat.le_refl _) (by unfold maxLen; omega) rfl)
          clear hs3 ho3 FX D2 M2 O2 S2 B2 ht
          go_wp2_with fail
          go_loopw [7, 9] (fun v i wr => ∃ (k : Nat) (xs : List Value), k ≤ T ∧ i = .int .i64 k ∧ w3.heap.size ≤ wr.heap.size ∧ Hid (wr.ownsRow w3.heap.size 28 5 v k xs) ∧ Hid (BellsP wr xs k) ∧ Hid (IngD wr A n c s0 a1 a2 a3 a4) ∧ Hid (MeltsD wr B q d g) ∧ Hid (Src wr b (m + 710)) ∧ Hid (Only b w wr)) (fun _ i _ => T - (intOf i).toNat)
          case atStart => exact ⟨0, [], by omega, rfl, by simp, HL0, Lib.hid (BellsP.nil _), Lib.hid (D3.out.fix (S := fun _ => True) (Fix.alloc _) trivial), Lib.hid (M3.out.fix (S := fun _ => True) (Fix.alloc _) trivial trivial), Lib.hid ((S3.out.alloc _).mono (by omega)), Lib.hid (O3.out.alloc _)⟩
          case round =>
            clear HL0 D3 M3 S3 O3
            obtain ⟨k, xs, hk, rfl, hz3r, hown, hbx, hD, hM, hs, ho⟩ := hrel
            by_cases hlt2 : k < T
            · have e1 : IntKind.i64.wrap (97 + (k : Int)) = 97 + k := IntWalk.i64_in _ ⟨by omega, by omega⟩
              have hconv := run_convert_bytes_back (P := Tryz.prog) (wr.alloc (.cells #[.int .u8 (97 + (k : Int))] 5)) 22 9 5 ⟨wr.heap.size, 0, none⟩ 1 [UInt8.ofNat (97 + k)] Tryz.underlying22 Tryz.underlying5 Tryz.underlying9 (fun i hi => by
                obtain rfl : i = 0 := by simpa using hi
                rw [show (⟨wr.heap.size, 0, none⟩ : Addr).add 0 = ⟨wr.heap.size, 0, none⟩ by simp [Addr.add]]
                refine ((Blk.new wr 5 _).cell 0).trans ?_
                have h1 : (UInt8.ofNat (97 + k)).toNat = 97 + k := by simp; omega
                show some (Value.int .u8 (97 + (k : Int))) = some (Value.int .u8 ((UInt8.ofNat (97 + k)).toNat : Int))
                rw [h1]
                congr 2)
              simp only [List.length_cons, List.length_nil, Nat.zero_add] at hconv
              obtain ⟨dd, hdd⟩ : ∃ dd : ByteArray, dd = ⟨[UInt8.ofNat (97 + k)].toArray⟩ := ⟨_, rfl⟩
              have hd1 : dd.size = 1 := by rw [hdd]; rfl
              rw [← hdd] at hconv
              have g2 : ¬ 9223372036854775807 < 1 + dd.size := by omega
              obtain ⟨nm, hnm⟩ : ∃ nm : ByteArray, nm = ⟨#[107]⟩ ++ dd := ⟨_, rfl⟩
              have hns : Hid (nm.size = 2) := Lib.hid (by rw [hnm, ByteArray.size_append, hd1]; rfl)
              have HNM := Lib.hid hnm
              obtain ⟨x, hx⟩ : ∃ x : BellV, x = ⟨nm, 0, 1, 0, 1, fun _ => ⟨#[109, 49]⟩, fun _ => 1⟩ := ⟨_, rfl⟩
              have HX := Lib.hid hx
              have hlt9 := hown.out.lt
              have hzr := ho.out.size
              obtain ⟨WA, hWA⟩ : ∃ WA, WA = ((wr.alloc (.cells #[.int .u8 (97 + (k : Int))] 5)).alloc (.cells #[.string ⟨#[109, 49]⟩, .int .i64 1] 41)).alloc (.cells #[.string nm, .int .i64 0, .int .i64 1, .int .i64 0, .slice (some ⟨wr.heap.size + 1, 0, none⟩) 1 1] 28) := ⟨_, rfl⟩
              have OWA := Lib.hid (show WA.ownsRow w3.heap.size 28 5 u7 k xs from by rw [hWA]; exact ((hown.out.alloc _).alloc _).alloc _)
              have FA := Lib.hid (show Fix (fun _ => True) wr WA from by rw [hWA]; exact (Fix.alloc _).trans ((Fix.alloc _).trans (Fix.alloc _)))
              have SHA := Lib.hid (show ShareT WA (some ⟨wr.heap.size + 1, 0, none⟩) x.n x.ss x.ms from fun _ => ⟨wr.heap.size + 1, 0, #[.string ⟨#[109, 49]⟩, .int .i64 1], rfl, by rw [hWA]; exact (Blk.new2 wr _ _ _).alloc _, fun i hi => by have hi1 : i < 1 := (by rw [hx] at hi; exact hi); obtain rfl : i = 0 := (by omega); rw [hx]; exact ⟨rfl, rfl⟩⟩)
              have SA := Lib.hid (show Src WA b (m + 710) from by rw [hWA]; exact ((hs.out.alloc _).alloc _).alloc _)
              have OA := Lib.hid (show Only b w WA from by rw [hWA]; exact ((ho.out.alloc _).alloc _).alloc _)
              have NEWS : Hid (∀ (j : Nat) u, ([.string nm, .int .i64 0, .int .i64 1, .int .i64 0, .slice (some ⟨wr.heap.size + 1, 0, none⟩) 1 1] : List Value)[j]? = some u → WA.cell? ((⟨wr.heap.size + 1 + 1, 0, none⟩ : Addr).add j) = some u) := Lib.hid (by
                have q9 := World.news_of_block (Blk.new ((wr.alloc (.cells #[.int .u8 (97 + (k : Int))] 5)).alloc (.cells #[.string ⟨#[109, 49]⟩, .int .i64 1] 41)) 28 #[.string nm, .int .i64 0, .int .i64 1, .int .i64 0, .slice (some ⟨wr.heap.size + 1, 0, none⟩) 1 1])
                rw [hWA]
                simpa using q9)
              have hzA : w3.heap.size ≤ WA.heap.size := by rw [hWA]; simp; omega
              rw [hnm] at hWA
              have WAH := Lib.hid hWA
              have DA := Lib.hid (hD.out.fix FA.out trivial)
              have MA := Lib.hid (hM.out.fix FA.out trivial trivial)
              have BA := Lib.hid (hbx.out.fix FA.out trivial)
              clear hWA hdd hnm hx hown hbx hD hM hs ho FA
              go_wp2_with (at_builtin; rw [← WAH.out]; refine wpList_append_own _ rfl _ _ 25 rfl w3.heap.size 28 i0 (.agg #[.string ⟨#[]⟩, .int .i64 0, .int .i64 0, .int .i64 0, .slice none 0 0]) 5 64 Tryz.underlying25 hi iz0 iz1 iz2 rfl (by decide) _ _ _ rfl OWA.out ⟨wr.heap.size + 1 + 1, 0, none⟩ 1 1 [.string nm, .int .i64 0, .int .i64 1, .int .i64 0, .slice (some ⟨wr.heap.size + 1, 0, none⟩) 1 1] rfl rfl NEWS.out (fun u hu => by simp at hu; rcases hu with rfl | rfl | rfl | rfl | rfl <;> rfl) (by unfold maxLen; omega) (by omega) hzA ?_; intro v9 w9 hown' hgrow _; refine Hid.out ?_)
              refine Lib.hid ?_
              have hz9 : w3.heap.size ≤ w9.heap.size := Nat.le_trans hzA hgrow.size
              have FG := Fix.grow OWA.out hgrow
              have OW9 := Lib.hid hown'
              have BX9 := Lib.hid (show BellsP w9 (xs ++ bellC x (.slice (some ⟨wr.heap.size + 1, 0, none⟩) x.n 1)) (k + 1) from (BA.out.fix FG (by unfold NotT; decide)).snoc (SHA.out.fix FG (by unfold NotT; decide)) (by rw [HX.out]; exact ⟨by show nm.size ≤ maxLen; have := hns.out; unfold maxLen; omega, fun i _ => by show (2 : Nat) ≤ maxLen; unfold maxLen; omega, by show 1 ≤ 1048576; omega⟩))
              rw [HX.out] at BX9
              have D9 := Lib.hid (DA.out.fix FG (by unfold NotT; decide))
              have M9 := Lib.hid (MA.out.fix FG (by unfold NotT; decide) (by unfold NotT; decide))
              have S9 := Lib.hid (SA.out.grow hgrow (fun z hz => by have := (OWA.out.lt z hz).1; omega))
              have O9 := Lib.hid (OA.out.grow hgrow (fun z hz => by have := (OWA.out.lt z hz).1; omega))
              clear FG hown' hgrow OWA SHA BA DA MA SA OA NEWS WAH HX HNM
              go_wp2
              go_roundw
              case rel => exact ⟨k + 1, _, by omega, by go_num, hz9, OW9, BX9, D9, M9, S9, O9⟩
              case measure => simp [intOf]; omega
            · obtain rfl : k = T := by omega
              obtain ⟨A9, c9, F9, hv9, hc9, hT9, hF9⟩ := bellP_of hown.out hbx.out
              subst hv9
              have HLO := Lib.hid ((own_loc hown.out).lower hz3)
              have HT9 := Lib.hid hT9
              have HF9 := Lib.hid hF9
              clear hT9 hF9 hown hbx
              go_wp2
              refine bodyPost_ret (v := .tuple #[.slice A n c, .slice B q d, .slice A9 k c9]) (by simp [results, Tryz.results13, go_sem]) rfl ?_
              exact ⟨A, n, c, s0, a1, a2, a3, a4, B, q, d, g, A9, k, c9, F9, rfl, hD.out.e, hM.out, ⟨hc9, by omega, HT9.out, HF9.out⟩, (fun _ => HLO.out), hs.out.mono (by omega), ho.out⟩
        · by_cases z4 : r = 4
          · subst z4
            clear r0 r1
            by_cases hn : 0 < n
            · have hDE := D2.out.e
              obtain ⟨gI, oI, arrI, rfl, hbI, hxI⟩ := D2.out.2.2.1 hn
              clear hbI hxI
              by_cases hc1 : c = 1
              · obtain rfl : n = 1 := by omega
                subst hc1
                go_wp2
                refine bodyPost_ret (v := .tuple #[.slice (some ⟨gI, oI, none⟩) 0 0, .slice B q d, .slice C p e2]) (by simp [results, Tryz.results13, go_sem]) rfl ?_
                exact ⟨_, 0, 0, s0, a1, a2, a3, a4, B, q, d, g, C, p, e2, f, rfl, ⟨by omega, by omega, fun h => by omega, fun j hj => by omega⟩, M2.out, bellsD_own B2.out hpe hp4 HSM.out, B2.out.loc, S2.out.mono (by omega), O2.out⟩
              · have IT := Lib.hid hDE.tail
                clear hDE
                go_wp2
                refine bodyPost_ret (v := .tuple #[.slice (some ⟨gI, oI + 5, none⟩) (n - 1) (c - 1), .slice B q d, .slice C p e2]) (by simp [results, Tryz.results13, go_sem]) rfl ?_
                exact ⟨_, n - 1, c - 1, _, _, _, _, _, B, q, d, g, C, p, e2, f, rfl, IT.out, M2.out, bellsD_own B2.out hpe hp4 HSM.out, B2.out.loc, S2.out.mono (by omega), O2.out⟩
            · obtain rfl : n = 0 := by omega
              go_wp2
              refine bodyPost_ret (v := .tuple #[.slice A 0 c, .slice B q d, .slice C p e2]) (by simp [results, Tryz.results13, go_sem]) rfl ?_
              exact ⟨A, 0, c, s0, a1, a2, a3, a4, B, q, d, g, C, p, e2, f, rfl, D2.out.e, M2.out, bellsD_own B2.out hpe hp4 HSM.out, B2.out.loc, S2.out.mono (by omega), O2.out⟩
          · skip
            go_wp2
            refine bodyPost_ret (v := .tuple #[.slice A n c, .slice B q d, .slice C p e2]) (by simp [results, Tryz.results13, go_sem]) rfl ?_
            exact ⟨A, n, c, s0, a1, a2, a3, a4, B, q, d, g, C, p, e2, f, rfl, D2.out.e, M2.out, bellsD_own B2.out hpe hp4 HSM.out, B2.out.loc, S2.out.mono (by omega), O2.out⟩
end Go.Proofs.YticnpibkpfpojaaGreatDoor

/- What the laws on traces draw: for every code. -/
namespace Go.Proofs.YticnpibkpfpojaaGreatDoor
set_option linter.unusedVariables false
open Go.RowKit

/-- the cells of one block written: rows that lie elsewhere stay -/
theorem BellT.sets {w : World} {A : Option Addr} {n R : Nat} {f : Nat → BellV} {cs : Array Value} (h : BellT w A n f) (hb : Blk w R 28 cs) (hl : 0 < n → Loc (R + 1) A) (u0 u1 u2 u3 u4 : Value) : BellT (((((w.setCell ⟨R, 0, none⟩ u0).setCell ⟨R, 1, none⟩ u1).setCell ⟨R, 2, none⟩ u2).setCell ⟨R, 3, none⟩ u3).setCell ⟨R, 4, none⟩ u4) A n f := fun hn => by
  obtain ⟨g, o, arr, rfl, hk, hx⟩ := h hn
  have hg := hl hn g o rfl
  have hF := bells_sets hb u0 u1 u2 u3 u4
  refine ⟨g, o, arr, rfl, ?_, fun i hi => (hx i hi).fix hF (by unfold NotT; decide)⟩
  exact ((((hk.far (p := ⟨R, 0, none⟩) (by (try dsimp only); omega) u0).far (p := ⟨R, 1, none⟩) (by (try dsimp only); omega) u1).far (p := ⟨R, 2, none⟩) (by (try dsimp only); omega) u2).far (p := ⟨R, 3, none⟩) (by (try dsimp only); omega) u3).far (p := ⟨R, 4, none⟩) (by (try dsimp only); omega) u4
set_option maxHeartbeats 2000000 in
theorem drawAddBell_calls (A : Option Addr) (n c : Nat) (w : World) (hA : Code8 w A n) (hn : n ≤ maxLen) :
    Calls Tryz.prog 5 #[.slice A n c] w fun e w' => (∃ B q d g C p e2 f x X e3, e = .returned (.tuple #[.slice B q d, .slice C p e2, .agg #[.string x.id, .int .i64 x.no, .int .i64 x.ma, .int .i64 x.fe, .slice X x.n e3]]) ∧ MeltsD w' B q d g ∧ BellsD w' C p e2 f ∧ ShareT w' X x.n x.ss x.ms ∧ Fine x) ∧ Below w.heap.size w w' := by
  have hA2 : Code8 (w.alloc (.cells #[.string ⟨#[]⟩, .int .i64 0, .int .i64 0, .int .i64 0, .slice none 0 0] 28)) A n := hA.below ((Below.refl _ _).alloc (Nat.le_refl _) _) (Nat.le_refl _)
  have hs0 := src_new c hA2 hn
  go_enter Tryz.func5, Tryz.ntmps5
  go_wp2_with (go_at_call 12; refine (from_calls _ _ _ _).mono ?_; rintro e w1 ⟨rfl, rfl⟩)
  rw [show (w.alloc (.cells #[.string ⟨#[]⟩, .int .i64 0, .int .i64 0, .int .i64 0, .slice none 0 0] 28)).heap.size = w.heap.size + 1 by simp] at hs0
  go_at_call 13
  refine (l18Draw_calls _ _ _ hs0 (by omega)).mono ?_
  rintro e w1 ⟨I, ni, ci, s0, a1, a2, a3, a4, B, q, d, g, C, p, e2, f, rfl, -, hM, hC, hlc, hs1, ho1⟩
  have M1 := Lib.hid hM
  have C1 := Lib.hid hC
  have S1 := Lib.hid hs1
  have O1 := Lib.hid ho1
  have HLC := Lib.hid (show 0 < p → Loc (w.heap.size + 1) C from fun h => (hlc h).lower (by simp))
  have R1 := Lib.hid (ho1.blk (show w.heap.size ≠ w.heap.size + 1 by omega) ((Blk.new w 28 #[.string ⟨#[]⟩, .int .i64 0, .int .i64 0, .int .i64 0, .slice none 0 0]).alloc _))
  have hb1 := Lib.hid ((((Below.refl w.heap.size w).alloc (Nat.le_refl _) (.cells #[.string ⟨#[]⟩, .int .i64 0, .int .i64 0, .int .i64 0, .slice none 0 0] 28)).alloc (by simp) (.cells #[.slice A n c, .int .i64 0, .int .u64 0] 80)).trans (ho1.below (by omega) (by simp <;> omega)))
  have hz1 := hb1.out.size
  have hb1z := S1.out.lt
  clear hM hC hlc hs1 ho1
  go_wp2_with fail
  go_at_call 15
  refine (l18DrawOne_calls (w.heap.size + 1) _ B q d g w1 S1.out (by omega) M1.out).mono ?_
  rintro e w2 ⟨s, no, ma, fe, k, ss, ms, G, cx, rfl, hsm, hG, hso, hs2, ho2⟩
  have SO2 := Lib.hid hso
  have SM2 := Lib.hid hsm
  have S2 := Lib.hid hs2
  have O2 := Lib.hid ho2
  clear hso hsm hs2 ho2
  go_wp2_with fail
  go_at_call 14
  refine (l18Bend_calls (w.heap.size + 1) _ s no ma fe k G cx ss ms w2 S2.out (by omega) SO2.out (by omega) SM2.out).mono ?_
  rintro e w3 ⟨y, C2, c2, rfl, hfy, hty, hs3, h23⟩
  have O3 := Lib.hid (h23.only O2.out hG)
  have FX := Lib.hid (S1.out.fix O3.out)
  have M3 := Lib.hid (M1.out.fix FX.out (by unfold NotT; decide) (by unfold NotT; decide))
  have C3 := Lib.hid (C1.out.fix FX.out (by unfold NotT; decide) (by unfold NotT; decide))
  have R3 := Lib.hid (O3.out.blk (show w.heap.size ≠ w.heap.size + 1 by omega) R1.out)
  have HTY := Lib.hid hty
  have HFY := Lib.hid hfy
  have hb3 := Lib.hid (hb1.out.trans (O3.out.below (by omega) (by omega)))
  have FB := Lib.hid (bells_sets R3.out (.string y.id) (.int .i64 y.no) (.int .i64 y.ma) (.int .i64 y.fe) (.slice C2 y.n c2))
  have x0 := (R3.out.cell 0).trans rfl
  have x1 := (R3.out.cell 1).trans rfl
  have x2 := (R3.out.cell 2).trans rfl
  have x3 := (R3.out.cell 3).trans rfl
  have x4 := (R3.out.cell 4).trans rfl
  have rf := R3.out.frozen
  clear hs3 h23 hty hfy S2 SO2 SM2 O2 O1 S1 M1 C1 R1 FX
  go_wp2
  refine bodyPost_ret (v := .tuple #[.slice B q d, .slice C p e2, .agg #[.string y.id, .int .i64 y.no, .int .i64 y.ma, .int .i64 y.fe, .slice C2 y.n c2]]) (by simp [results, Tryz.results5, go_sem, x0, x1, x2, x3, x4]) rfl ?_
  refine ⟨⟨B, q, d, g, C, p, e2, f, y, C2, c2, rfl, M3.out.fix FB.out (by unfold NotT; decide) (by unfold NotT; decide), ⟨C3.out.1, C3.out.2.1, C3.out.2.2.1.sets R3.out HLC.out _ _ _ _ _, C3.out.2.2.2⟩, HTY.out.fix FB.out (by unfold NotT; decide), HFY.out⟩, ?_⟩
  exact (((((hb3.out.setCell (by simp) _).setCell (by simp) _).setCell (by simp) _).setCell (by simp) _).setCell (by simp) _)
end Go.Proofs.YticnpibkpfpojaaGreatDoor
