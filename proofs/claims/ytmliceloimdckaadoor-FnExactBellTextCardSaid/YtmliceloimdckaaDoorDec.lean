/- A number in decimal, as the reference writes it: digit by digit, turned round. For every int64. -/
import Derived.Test.YtmliceloimdckaaDoorOwn
import Derived.Lib.ItoaLen
import Derived.Lib.UnsafeStr
import Derived.Laws.IdiomStrings
namespace Go.Proofs.YtmliceloimdckaaDoor
set_option linter.unusedVariables false
open Go.RowKit
def dgs (v : Nat) : List UInt8 := if v = 0 then [] else Lib.decDigits v
theorem dgs_step {v : Nat} (h : v ≠ 0) : dgs v = dgs (v / 10) ++ [UInt8.ofNat (48 + v % 10)] := by
  unfold dgs
  rw [if_neg h]
  by_cases h1 : v < 10
  · rw [if_pos (by omega), Lib.decDigits, dif_pos h1, Nat.mod_eq_of_lt h1]; rfl
  · rw [if_neg (by omega), Lib.decDigits, dif_neg h1]
theorem dgs_len {v : Nat} {ds : List UInt8} {u : Nat} (h : dgs v ++ ds.reverse = Lib.decDigits u) (hu : u ≤ 9223372036854775808) : ds.length ≤ 21 := by
  have h1 := congrArg List.length h
  rw [List.length_append, List.length_reverse, Lib.decDigits_length] at h1
  have := Lib.nDigits_le20 u (by omega)
  omega
theorem byte_one (l : List UInt8) (c : Nat) (h : c < 256) : Lib.byteCells l ++ [.int .u8 (c : Int)] = Lib.byteCells (l ++ [UInt8.ofNat c]) := by
  simp [Lib.byteCells, UInt8.toNat_ofNat', Nat.mod_eq_of_lt h]
theorem u8_info : (Tryd.prog.info? 5).map (fun i => (i.zero, i.size, i.bytes)) = some (some (.int .u8 0), 1, 1) := by kernel_rfl

set_option maxRecDepth 20000 in
set_option maxHeartbeats 4000000 in
theorem l01Dec_pos (u : Nat) (w : World) (h1 : 1 ≤ u) (h2 : u ≤ 9223372036854775807) :
    Calls Tryd.prog 84 #[.int .i64 ((u : Int))] w fun e w' => e = .returned (.string ⟨(Lib.itoa ((u : Int))).toArray⟩) ∧ Below w.heap.size w w' := by
  obtain ⟨i0, hi, hz0, hz1, hz2⟩ := info_parts u8_info
  have hne0 : ((u : Int) == 0) = false := by simp; omega
  have hne1 : ¬ (u : Int) = 0 := by omega
  have hlt0 : decide ((u : Int) < 0) = false := decide_eq_false (by omega)
  have HS := Lib.hid (World.ownsRow_lit (base := w.heap.size) (e := 5) (size := 1) w #[] 0 (Nat.le_refl _) (by unfold maxLen; omega) rfl)
  generalize hT : Lib.itoa ((u : Int)) = T
  have HT : Hid (T = Lib.decDigits u) := Lib.hid (hT.symm.trans (Lib.itoa_nonneg u))
  clear hT
  go_enter Tryd.func84, Tryd.ntmps84
  go_wp2
  go_loopw [3, 4] (fun x m wr => ∃ (v : Nat) (ds : List UInt8), m = .int .i64 ((v : Int)) ∧ v ≤ u ∧ Hid (wr.ownsRow w.heap.size 5 1 x ds.length (Lib.byteCells ds)) ∧ Hid (dgs v ++ ds.reverse = Lib.decDigits u) ∧ Below w.heap.size w wr) (fun _ m _ => (intOf m).natAbs)
  case atStart => exact ⟨u, [], rfl, Nat.le_refl _, HS, Lib.hid (by simp [dgs]; omega), (Below.refl _ _).alloc (Nat.le_refl _) _⟩
  case round =>
    obtain ⟨v, ds, rfl, hv, hown, heq, hbr⟩ := hrel
    have hbs := hbr.size
    have hlen := dgs_len heq.out (by omega)
    by_cases hv0 : v = 0
    · subst hv0
      have HDS : Hid (ds.reverse = Lib.decDigits u) := Lib.hid (by have := heq.out; simpa [dgs] using this)
      clear heq
      obtain ⟨D, hDd⟩ : ∃ D, D = ds := ⟨_, rfl⟩
      have HD : Hid (D.reverse = T) := Lib.hid (by rw [hDd, HT.out, HDS.out])
      have HOD := Lib.hid (show wr.ownsRow w.heap.size 5 1 _ D.length (Lib.byteCells D) from hDd ▸ hown.out)
      have HLB : Hid (D.length ≤ 22) := Lib.hid (by rw [hDd]; omega)
      obtain ⟨w2, hw2⟩ : ∃ w2, w2 = wr := ⟨_, rfl⟩
      rw [← hw2] at HOD hbr ⊢
      have HB2 := Lib.hid hbr
      clear hDd hown hbr hbs hlen hw2 HDS
      -- the digits lie in block g: turned round
      have hL0 : 0 < D.length := by have := HD.out; have hh := congrArg List.length this; rw [List.length_reverse] at hh; rw [hh]; exact by rw [HT.out, Lib.decDigits_length]; exact Lib.nDigits_pos _
      obtain ⟨g, cap, cur, rfl, hg0, hblk, hcap, hcm, hcs, hcur⟩ := own_blk HOD.out hL0
      have hgl := hblk.lt
      have HCU : Hid (∀ i, i < D.length → ∃ b : UInt8, D[i]? = some b ∧ w2.cell? ⟨g, i, none⟩ = some (.int .u8 (b.toNat : Int))) := Lib.hid fun i hi => ⟨D[i], List.getElem?_eq_getElem hi, by rw [hblk.cell, hcur i (by omega)]; simp [Lib.byteCells, hi]⟩
      generalize hL : D.length = L at *
      have HL := Lib.hid hL
      have HTL : Hid (T.length = L) := Lib.hid (by rw [← HD.out, List.length_reverse]; exact hL)
      have hLb : L ≤ 22 := HLB.out
      clear hL hblk hcur hcs
      have HS2 := Lib.hid (World.ownsRow_lit (base := w2.heap.size) (e := 5) (size := 1) w2 #[] 0 (Nat.le_refl _) (by unfold maxLen; omega) rfl)
      have el : IntKind.i64.wrap ((L : Int) - 1) = (L : Int) - 1 := IntWalk.i64_in _ ⟨by omega, by omega⟩
      go_wp2
      go_loopw [6, 7] (fun x i wr => ∃ k : Nat, k ≤ L ∧ i = .int .i64 ((k : Int) - 1) ∧ Hid (wr.ownsRow w2.heap.size 5 1 x (L - k) (Lib.byteCells (T.take (L - k)))) ∧ Below w2.heap.size w2 wr) (fun _ i _ => (intOf i + 1).toNat)
      case atStart => exact ⟨L, Nat.le_refl _, rfl, Lib.hid (by simpa [Lib.byteCells] using HS2.out), (Below.refl _ _).alloc (Nat.le_refl _) _⟩
      case round =>
        obtain ⟨k, hk, rfl, hown2, hbr2⟩ := hrel
        have hbs2 := hbr2.size
        cases k with
        | zero =>
          obtain ⟨g2, cap2, cur2, rfl, hg2, hblk2, hcap2, hcm2, hcs2, hcur2⟩ := own_blk hown2.out (by omega)
          have hconv := run_convert_bytes_back (P := Tryd.prog) wr 124 9 5 ⟨g2, 0, none⟩ cap2 T Tryd.underlying124 Tryd.underlying5 Tryd.underlying9 (fun j hj => by
            have h1 := hblk2.cell j
            rw [hcur2 j (by have := HTL.out; omega)] at h1
            rw [show (⟨g2, 0, none⟩ : Addr).add j = ⟨g2, j, none⟩ by simp [Addr.add] <;> omega, h1]
            have := HTL.out
            rw [show L - 0 = T.length by omega, List.take_length]
            simp [Lib.byteCells, hj])
          rw [HTL.out] at hconv
          rw [Nat.sub_zero]
          clear hblk2 hcur2 hcs2
          go_wp2
          go_ret
          exact ⟨rfl, HB2.out.trans (hbr2.mono HB2.out.size)⟩
        | succ j =>
          have e0 : (((j + 1 : Nat) : Int) - 1) = (j : Int) := by omega
          rw [e0]
          have ej : IntKind.i64.wrap ((j : Int) - 1) = (j : Int) - 1 := IntWalk.i64_in _ ⟨by omega, by omega⟩
          have hjL : j < L := by omega
          obtain ⟨b, hb, hcb⟩ := HCU.out j (by omega)
          have c0 : wr.cell? ⟨g, j, none⟩ = some (.int .u8 (b.toNat : Int)) := (hbr2.cell (p := ⟨g, j, none⟩) hgl).trans hcb
          have HBT : Hid (Lib.byteCells (T.take (L - (j + 1))) ++ [.int .u8 (b.toNat : Int)] = Lib.byteCells (T.take (L - j))) := Lib.hid (by
            have hq : T[L - (j + 1)]? = some b := by
              rw [← HD.out, List.getElem?_reverse (by have := HL.out; omega), ← hb]
              congr 1
              have := HL.out
              omega
            rw [show L - j = (L - (j + 1)) + 1 by omega, List.take_add_one, hq]
            simp [Lib.byteCells])
          clear hb hcb
          go_wp2_with (at_builtin; refine wpList_append_own _ rfl _ _ 124 rfl w2.heap.size 5 i0 (.int .u8 0) 1 1 Tryd.underlying124 hi hz0 hz1 hz2 rfl (by decide) _ _ _ rfl (hown2.out.alloc _) ⟨wr.heap.size, 0, none⟩ 1 1 [.int .u8 (b.toNat : Int)] rfl rfl (fun j u hj => by match j, hj with | 0, hj => simp at hj; subst hj; simp [Addr.add]) (fun u hu => by simp at hu; subst hu; rfl) (by unfold maxLen; omega) (by omega) (by simp; omega) ?_; intro v' w3 hown' hgrow _; have hb3 := below_append hbr2 hbs2 hown2.out hgrow; rw [HBT.out] at hown'; have HOWN2 := Lib.hid hown'; clear hown' hgrow)
          go_roundw
          case rel => exact ⟨j, by omega, by go_num, Lib.hid (by have := HOWN2.out; rwa [show L - (j + 1) + 1 = L - j by omega] at this), hb3⟩
          case measure => simp [intOf] <;> omega
    · have hnv0 : ((v : Int) == 0) = false := by simp; omega
      have hnv1 : ¬ (v : Int) = 0 := by omega
      have hnv2 : ((v : Int) != 0) = true := by simp [bne, hnv0]
      have hnv3 : ¬ v = 0 := hv0
      obtain ⟨c, hc⟩ : ∃ c, c = v % 10 := ⟨_, rfl⟩
      obtain ⟨v2, hv2⟩ : ∃ v2, v2 = v / 10 := ⟨_, rfl⟩
      have hc10 : c < 10 := by omega
      have hv2l : v2 < v := by omega
      have er : ((v : Int)).tmod 10 = (c : Int) := by rw [hc]; rfl
      have eq : IntKind.i64.wrap (((v : Int)).tdiv 10) = (v2 : Int) := by
        have e0 : ((v : Int)).tdiv 10 = (v2 : Int) := by rw [hv2]; rfl
        rw [e0]; exact IntWalk.i64_in _ ⟨by omega, by omega⟩
      have er2 : ((v : Int)) % 10 = (c : Int) := by omega
      have eq2 : ((v : Int)) / 10 = (v2 : Int) := by omega
      have e2 : IntKind.i64.wrap (48 + (c : Int)) = 48 + (c : Int) := IntWalk.i64_in _ ⟨by omega, by omega⟩
      have e3 : IntKind.u8.wrap (48 + (c : Int)) = ((48 + c : Nat) : Int) := by
        have : (48 + (c : Int)) = ((48 + c : Nat) : Int) := by omega
        rw [this]; exact IntWalk.u8_in _ ⟨by omega, by omega⟩
      have hst : Hid (dgs v = dgs v2 ++ [UInt8.ofNat (48 + c)]) := Lib.hid (by rw [hc, hv2]; exact dgs_step hv0)
      clear hc hv2 hv0
      have hDn : decide ((c : Int) < 0) = false := decide_eq_false (by omega)
      go_wp2_with (at_builtin; refine wpList_append_own _ rfl _ _ 124 rfl w.heap.size 5 i0 (.int .u8 0) 1 1 Tryd.underlying124 hi hz0 hz1 hz2 rfl (by decide) _ _ _ rfl (hown.out.alloc _) ⟨wr.heap.size, 0, none⟩ 1 1 [.int .u8 ((48 + c : Nat) : Int)] rfl rfl (fun j u hj => by match j, hj with | 0, hj => simp at hj; subst hj; simp [Addr.add]) (fun u hu => by simp at hu; subst hu; rfl) (by unfold maxLen; omega) (by omega) (by simp; omega) ?_; intro v' w1 hown' hgrow _; have hb2 := below_append hbr hbs hown.out hgrow; rw [byte_one _ _ (by omega)] at hown'; have HOWN := Lib.hid hown'; clear hown' hgrow)
      go_roundw
      case rel => exact ⟨v2, ds ++ [UInt8.ofNat (48 + c)], rfl, by omega, Lib.hid (by simpa using HOWN.out), Lib.hid (by rw [← heq.out, hst.out]; simp), hb2⟩
      case measure => simp [intOf]; omega
set_option maxRecDepth 20000 in
set_option maxHeartbeats 4000000 in
theorem l01Dec_neg (u : Nat) (w : World) (h1 : 1 ≤ u) (h2 : u ≤ 9223372036854775808) :
    Calls Tryd.prog 84 #[.int .i64 (-(u : Int))] w fun e w' => e = .returned (.string ⟨(Lib.itoa (-(u : Int))).toArray⟩) ∧ Below w.heap.size w w' := by
  obtain ⟨i0, hi, hz0, hz1, hz2⟩ := info_parts u8_info
  have hne0 : (-(u : Int) == 0) = false := by simp; omega
  have hne1 : ¬ -(u : Int) = 0 := by omega
  have hlt0 : decide (-(u : Int) < 0) = true := decide_eq_true (by omega)
  have HS := Lib.hid (World.ownsRow_lit (base := w.heap.size) (e := 5) (size := 1) w #[] 0 (Nat.le_refl _) (by unfold maxLen; omega) rfl)
  generalize hT : Lib.itoa (-(u : Int)) = T
  have HT : Hid (T = 45 ::Lib.decDigits u) := Lib.hid (hT.symm.trans (Lib.itoa_neg u h1))
  clear hT
  go_enter Tryd.func84, Tryd.ntmps84
  go_wp2
  go_loopw [3, 4] (fun x m wr => ∃ (v : Nat) (ds : List UInt8), m = .int .i64 (-(v : Int)) ∧ v ≤ u ∧ Hid (wr.ownsRow w.heap.size 5 1 x ds.length (Lib.byteCells ds)) ∧ Hid (dgs v ++ ds.reverse = Lib.decDigits u) ∧ Below w.heap.size w wr) (fun _ m _ => (intOf m).natAbs)
  case atStart => exact ⟨u, [], rfl, Nat.le_refl _, HS, Lib.hid (by simp [dgs]; omega), (Below.refl _ _).alloc (Nat.le_refl _) _⟩
  case round =>
    obtain ⟨v, ds, rfl, hv, hown, heq, hbr⟩ := hrel
    have hbs := hbr.size
    have hlen := dgs_len heq.out (by omega)
    by_cases hv0 : v = 0
    · subst hv0
      have HDS : Hid (ds.reverse = Lib.decDigits u) := Lib.hid (by have := heq.out; simpa [dgs] using this)
      clear heq
      go_wp2_with (at_builtin; refine wpList_append_own _ rfl _ _ 124 rfl w.heap.size 5 i0 (.int .u8 0) 1 1 Tryd.underlying124 hi hz0 hz1 hz2 rfl (by decide) _ _ _ rfl (hown.out.alloc _) ⟨wr.heap.size, 0, none⟩ 1 1 [.int .u8 45] rfl rfl (fun j u hj => by match j, hj with | 0, hj => simp at hj; subst hj; simp [Addr.add]) (fun u hu => by simp at hu; subst hu; rfl) (by unfold maxLen; omega) (by omega) (by simp; omega) ?_; intro v' w2 hown' hgrow _; have hb2 := below_append hbr hbs hown.out hgrow; have HOWN := Lib.hid hown'; clear hown' hgrow; refine Hid.out ?_)
      refine Lib.hid ?_
      obtain ⟨D, hDd⟩ : ∃ D, D = ds ++ [(45 : UInt8)] := ⟨_, rfl⟩
      have HD : Hid (D.reverse = T) := Lib.hid (by rw [hDd, HT.out, ← HDS.out]; simp)
      have HOD := Lib.hid (show w2.ownsRow w.heap.size 5 1 v' D.length (Lib.byteCells D) from by
        have h := HOWN.out
        rw [show Lib.byteCells ds ++ [Value.int .u8 45] = Lib.byteCells D by rw [hDd]; simp [Lib.byteCells]] at h
        rwa [show D.length = ds.length + 1 by rw [hDd]; simp])
      have HLB : Hid (D.length ≤ 22) := Lib.hid (by rw [hDd]; simp; omega)
      have HB2 := Lib.hid hb2
      clear hDd HOWN hown hbr hbs hlen HDS hb2
      -- the digits lie in block g: turned round
      have hL0 : 0 < D.length := by have := HD.out; have hh := congrArg List.length this; rw [List.length_reverse] at hh; rw [hh]; exact by rw [HT.out]; simp
      obtain ⟨g, cap, cur, rfl, hg0, hblk, hcap, hcm, hcs, hcur⟩ := own_blk HOD.out hL0
      have hgl := hblk.lt
      have HCU : Hid (∀ i, i < D.length → ∃ b : UInt8, D[i]? = some b ∧ w2.cell? ⟨g, i, none⟩ = some (.int .u8 (b.toNat : Int))) := Lib.hid fun i hi => ⟨D[i], List.getElem?_eq_getElem hi, by rw [hblk.cell, hcur i (by omega)]; simp [Lib.byteCells, hi]⟩
      generalize hL : D.length = L at *
      have HL := Lib.hid hL
      have HTL : Hid (T.length = L) := Lib.hid (by rw [← HD.out, List.length_reverse]; exact hL)
      have hLb : L ≤ 22 := HLB.out
      clear hL hblk hcur hcs
      have HS2 := Lib.hid (World.ownsRow_lit (base := w2.heap.size) (e := 5) (size := 1) w2 #[] 0 (Nat.le_refl _) (by unfold maxLen; omega) rfl)
      have el : IntKind.i64.wrap ((L : Int) - 1) = (L : Int) - 1 := IntWalk.i64_in _ ⟨by omega, by omega⟩
      go_wp2
      go_loopw [6, 7] (fun x i wr => ∃ k : Nat, k ≤ L ∧ i = .int .i64 ((k : Int) - 1) ∧ Hid (wr.ownsRow w2.heap.size 5 1 x (L - k) (Lib.byteCells (T.take (L - k)))) ∧ Below w2.heap.size w2 wr) (fun _ i _ => (intOf i + 1).toNat)
      case atStart => exact ⟨L, Nat.le_refl _, rfl, Lib.hid (by simpa [Lib.byteCells] using HS2.out), (Below.refl _ _).alloc (Nat.le_refl _) _⟩
      case round =>
        obtain ⟨k, hk, rfl, hown2, hbr2⟩ := hrel
        have hbs2 := hbr2.size
        cases k with
        | zero =>
          obtain ⟨g2, cap2, cur2, rfl, hg2, hblk2, hcap2, hcm2, hcs2, hcur2⟩ := own_blk hown2.out (by omega)
          have hconv := run_convert_bytes_back (P := Tryd.prog) wr 124 9 5 ⟨g2, 0, none⟩ cap2 T Tryd.underlying124 Tryd.underlying5 Tryd.underlying9 (fun j hj => by
            have h1 := hblk2.cell j
            rw [hcur2 j (by have := HTL.out; omega)] at h1
            rw [show (⟨g2, 0, none⟩ : Addr).add j = ⟨g2, j, none⟩ by simp [Addr.add] <;> omega, h1]
            have := HTL.out
            rw [show L - 0 = T.length by omega, List.take_length]
            simp [Lib.byteCells, hj])
          rw [HTL.out] at hconv
          rw [Nat.sub_zero]
          clear hblk2 hcur2 hcs2
          go_wp2
          go_ret
          exact ⟨rfl, HB2.out.trans (hbr2.mono HB2.out.size)⟩
        | succ j =>
          have e0 : (((j + 1 : Nat) : Int) - 1) = (j : Int) := by omega
          rw [e0]
          have ej : IntKind.i64.wrap ((j : Int) - 1) = (j : Int) - 1 := IntWalk.i64_in _ ⟨by omega, by omega⟩
          have hjL : j < L := by omega
          obtain ⟨b, hb, hcb⟩ := HCU.out j (by omega)
          have c0 : wr.cell? ⟨g, j, none⟩ = some (.int .u8 (b.toNat : Int)) := (hbr2.cell (p := ⟨g, j, none⟩) hgl).trans hcb
          have HBT : Hid (Lib.byteCells (T.take (L - (j + 1))) ++ [.int .u8 (b.toNat : Int)] = Lib.byteCells (T.take (L - j))) := Lib.hid (by
            have hq : T[L - (j + 1)]? = some b := by
              rw [← HD.out, List.getElem?_reverse (by have := HL.out; omega), ← hb]
              congr 1
              have := HL.out
              omega
            rw [show L - j = (L - (j + 1)) + 1 by omega, List.take_add_one, hq]
            simp [Lib.byteCells])
          clear hb hcb
          go_wp2_with (at_builtin; refine wpList_append_own _ rfl _ _ 124 rfl w2.heap.size 5 i0 (.int .u8 0) 1 1 Tryd.underlying124 hi hz0 hz1 hz2 rfl (by decide) _ _ _ rfl (hown2.out.alloc _) ⟨wr.heap.size, 0, none⟩ 1 1 [.int .u8 (b.toNat : Int)] rfl rfl (fun j u hj => by match j, hj with | 0, hj => simp at hj; subst hj; simp [Addr.add]) (fun u hu => by simp at hu; subst hu; rfl) (by unfold maxLen; omega) (by omega) (by simp; omega) ?_; intro v' w3 hown' hgrow _; have hb3 := below_append hbr2 hbs2 hown2.out hgrow; rw [HBT.out] at hown'; have HOWN2 := Lib.hid hown'; clear hown' hgrow)
          go_roundw
          case rel => exact ⟨j, by omega, by go_num, Lib.hid (by have := HOWN2.out; rwa [show L - (j + 1) + 1 = L - j by omega] at this), hb3⟩
          case measure => simp [intOf] <;> omega
    · have hnv0 : (-(v : Int) == 0) = false := by simp; omega
      have hnv1 : ¬ -(v : Int) = 0 := by omega
      have hnv2 : (-(v : Int) != 0) = true := by simp [bne, hnv0]
      have hnv3 : ¬ v = 0 := hv0
      obtain ⟨c, hc⟩ : ∃ c, c = v % 10 := ⟨_, rfl⟩
      obtain ⟨v2, hv2⟩ : ∃ v2, v2 = v / 10 := ⟨_, rfl⟩
      have hc10 : c < 10 := by omega
      have hv2l : v2 < v := by omega
      have er : (-(v : Int)).tmod 10 = -(c : Int) := by rw [hc]; rw [Int.neg_tmod]; rfl
      have eq : IntKind.i64.wrap ((-(v : Int)).tdiv 10) = -(v2 : Int) := by
        have e0 : (-(v : Int)).tdiv 10 = -(v2 : Int) := by rw [hv2]; rw [Int.neg_tdiv]; rfl
        rw [e0]; exact IntWalk.i64_in _ ⟨by omega, by omega⟩
      have er2 : ((v : Int)) % 10 = (c : Int) := by omega
      have eq2 : ((v : Int)) / 10 = (v2 : Int) := by omega
      have e2 : IntKind.i64.wrap (48 + (c : Int)) = 48 + (c : Int) := IntWalk.i64_in _ ⟨by omega, by omega⟩
      have e3 : IntKind.u8.wrap (48 + (c : Int)) = ((48 + c : Nat) : Int) := by
        have : (48 + (c : Int)) = ((48 + c : Nat) : Int) := by omega
        rw [this]; exact IntWalk.u8_in _ ⟨by omega, by omega⟩
      have hst : Hid (dgs v = dgs v2 ++ [UInt8.ofNat (48 + c)]) := Lib.hid (by rw [hc, hv2]; exact dgs_step hv0)
      clear hc hv2 hv0
      by_cases hc0 : c = 0
      · subst hc0
        have hDn : decide (-((0 : Nat) : Int) < 0) = false := by decide
        go_wp2_with (at_builtin; refine wpList_append_own _ rfl _ _ 124 rfl w.heap.size 5 i0 (.int .u8 0) 1 1 Tryd.underlying124 hi hz0 hz1 hz2 rfl (by decide) _ _ _ rfl (hown.out.alloc _) ⟨wr.heap.size, 0, none⟩ 1 1 [.int .u8 48] rfl rfl (fun j u hj => by match j, hj with | 0, hj => simp at hj; subst hj; simp [Addr.add]) (fun u hu => by simp at hu; subst hu; rfl) (by unfold maxLen; omega) (by omega) (by simp; omega) ?_; intro v' w1 hown' hgrow _; have hb2 := below_append hbr hbs hown.out hgrow; rw [show Value.int .u8 48 = Value.int .u8 ((48 : Nat) : Int) from rfl, byte_one _ _ (by omega)] at hown'; have HOWN := Lib.hid hown'; clear hown' hgrow)
        go_roundw
        case rel => exact ⟨v2, ds ++ [UInt8.ofNat (48 + 0)], rfl, by omega, Lib.hid (by simpa using HOWN.out), Lib.hid (by rw [← heq.out, hst.out]; simp), hb2⟩
        case measure => simp [intOf]; omega
      · have hDn : decide (-(c : Int) < 0) = true := decide_eq_true (by omega)
        have hDp : -(c : Int) < 0 := by omega
        have hn1 : IntKind.i64.wrap (c : Int) = (c : Int) := IntWalk.i64_in _ ⟨by omega, by omega⟩
        have hn2 : IntKind.i64.wrap (- -(c : Int)) = (c : Int) := by rw [Int.neg_neg]; exact hn1
        go_wp2_with (at_builtin; refine wpList_append_own _ rfl _ _ 124 rfl w.heap.size 5 i0 (.int .u8 0) 1 1 Tryd.underlying124 hi hz0 hz1 hz2 rfl (by decide) _ _ _ rfl (hown.out.alloc _) ⟨wr.heap.size, 0, none⟩ 1 1 [.int .u8 ((48 + c : Nat) : Int)] rfl rfl (fun j u hj => by match j, hj with | 0, hj => simp at hj; subst hj; simp [Addr.add]) (fun u hu => by simp at hu; subst hu; rfl) (by unfold maxLen; omega) (by omega) (by simp; omega) ?_; intro v' w1 hown' hgrow _; have hb2 := below_append hbr hbs hown.out hgrow; rw [byte_one _ _ (by omega)] at hown'; have HOWN := Lib.hid hown'; clear hown' hgrow)
        go_roundw
        case rel => exact ⟨v2, ds ++ [UInt8.ofNat (48 + c)], rfl, by omega, Lib.hid (by simpa using HOWN.out), Lib.hid (by rw [← heq.out, hst.out]; simp), hb2⟩
        case measure => simp [intOf]; omega
set_option maxHeartbeats 400000 in
theorem l01Dec_zero (w : World) :
    Calls Tryd.prog 84 #[.int .i64 0] w fun e w' => e = .returned (.string ⟨(Lib.itoa 0).toArray⟩) ∧ Below w.heap.size w w' := by
  have h0 : Lib.itoa 0 = [48] := by
    rw [show (0 : Int) = ((0 : Nat) : Int) from rfl, Lib.itoa_nonneg, Lib.decDigits, dif_pos (by omega)]; rfl
  rw [h0]
  go_enter Tryd.func84, Tryd.ntmps84
  go_wp2
  go_ret
  exact ⟨rfl, Below.refl _ _⟩
theorem l01Dec_calls (n : Int) (w : World) (h1 : -9223372036854775808 ≤ n) (h2 : n ≤ 9223372036854775807) :
    Calls Tryd.prog 84 #[.int .i64 n] w fun e w' => e = .returned (.string ⟨(Lib.itoa n).toArray⟩) ∧ Below w.heap.size w w' := by
  rcases Int.lt_trichotomy n 0 with h | rfl | h
  · obtain ⟨u, rfl⟩ : ∃ u : Nat, n = -(u : Int) := ⟨n.natAbs, by omega⟩
    exact l01Dec_neg u w (by omega) (by omega)
  · exact l01Dec_zero w
  · obtain ⟨u, rfl⟩ : ∃ u : Nat, n = (u : Int) := ⟨n.toNat, by omega⟩
    exact l01Dec_pos u w (by omega) (by omega)
end Go.Proofs.YtmliceloimdckaaDoor
