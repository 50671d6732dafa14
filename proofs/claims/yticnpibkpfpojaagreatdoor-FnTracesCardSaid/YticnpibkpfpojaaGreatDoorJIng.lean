import Derived.Test.YticnpibkpfpojaaGreatDoorRowBase
import Derived.Test.YticnpibkpfpojaaGreatDoorFrame
import Derived.Handy
import Derived.KernelRfl
import Derived.ChangeShapes
import Derived.Test.YticnpibkpfpojaaGreatDoorOwn
import Derived.Test.YticnpibkpfpojaaGreatDoorIngot
import Derived.Test.YticnpibkpfpojaaGreatDoorLeft2
/- A slice of numbers: how it reads. No program in sight. -/
namespace Go.Proofs.YticnpibkpfpojaaGreatDoor
set_option linter.unusedVariables false
open Go.RowKit
def IntRow (w : World) (A : Option Addr) (n : Nat) (p : Nat → Int) : Prop := 0 < n → ∃ b o, A = some ⟨b, o, none⟩ ∧ ∀ i, i < n → w.cell? ⟨b, o + i, none⟩ = some (.int .i64 (p i))
theorem IntRow.keep {w w' : World} {A : Option Addr} {n : Nat} {p : Nat → Int} (h : IntRow w A n p) (hb : Below w.heap.size w w') : IntRow w' A n p := fun hn => by
  obtain ⟨b, o, hA, hall⟩ := h hn
  exact ⟨b, o, hA, fun i hi => cell_keep hb (hall i hi)⟩
theorem IntRow.below {w w' : World} {A : Option Addr} {n B : Nat} {p : Nat → Int} (h : IntRow w A n p) (hb : Below B w w') (hB : w.heap.size ≤ B) : IntRow w' A n p := h.keep (hb.mono hB)
theorem IntRow.take {w : World} {A : Option Addr} {n m : Nat} {p : Nat → Int} (h : IntRow w A n p) (hm : m ≤ n) : IntRow w A m p := fun h0 => by
  obtain ⟨b, o, hA, hall⟩ := h (by omega)
  exact ⟨b, o, hA, fun i hi => hall i (by omega)⟩
/-- the row of a literal of three or four numbers -/
def l3 (a b c : Int) : Nat → Int := fun i => match i with | 0 => a | 1 => b | _ => c
def l4 (a b c d : Int) : Nat → Int := fun i => match i with | 0 => a | 1 => b | 2 => c | _ => d
theorem row_l3 {w : World} {g : Nat} {t : TypeId} {a b c : Int} (h : Blk w g t #[.int .i64 a, .int .i64 b, .int .i64 c]) : IntRow w (some ⟨g, 0, none⟩) 3 (l3 a b c) := fun _ => ⟨g, 0, rfl, fun i hi => by
  rw [Nat.zero_add, h.cell]
  match i, hi with
  | 0, _ => rfl
  | 1, _ => rfl
  | 2, _ => rfl⟩
theorem row_l4 {w : World} {g : Nat} {t : TypeId} {a b c d : Int} (h : Blk w g t #[.int .i64 a, .int .i64 b, .int .i64 c, .int .i64 d]) : IntRow w (some ⟨g, 0, none⟩) 4 (l4 a b c d) := fun _ => ⟨g, 0, rfl, fun i hi => by
  rw [Nat.zero_add, h.cell]
  match i, hi with
  | 0, _ => rfl
  | 1, _ => rfl
  | 2, _ => rfl
  | 3, _ => rfl⟩
end Go.Proofs.YticnpibkpfpojaaGreatDoor

/- Lists of numbers: how they read, their copy and comparison. -/
namespace Go.Proofs.YticnpibkpfpojaaGreatDoor
set_option linter.unusedVariables false
open Go.RowKit
def IntArr (arr : Array Value) (m : Nat) (p : Nat → Int) : Prop := ∀ i, i < m → arr[i]? = some (.int .i64 (p i))
theorem IntArr.next {arr : Array Value} {n k : Nat} {p : Nat → Int} (h : IntArr arr k p) (hs : arr.size = n) (hk : k < n) : IntArr (arr.setIfInBounds k (.int .i64 (p k))) (k + 1) p := by
  intro i hi
  rcases Nat.lt_or_ge i k with h1 | h1
  · rw [Array.getElem?_setIfInBounds_ne (by omega)]
    exact h i h1
  · obtain rfl : i = k := by omega
    rw [Array.getElem?_setIfInBounds_self_of_lt (by omega)]
theorem IntArr.row {w : World} {g T n : Nat} {arr : Array Value} {p : Nat → Int} (h : IntArr arr n p) (hb : Blk w g T arr) : IntRow w (some ⟨g, 0, none⟩) n p := fun _ =>
  ⟨g, 0, rfl, fun i hi => by rw [Nat.zero_add]; exact (hb.cell _).trans (h i hi)⟩
theorem Int64_info : (Tryz.prog.info? 2).map (fun i => (i.zero, i.size, i.bytes)) = some (some (.int .i64 0), 1, 8) := by kernel_rfl
open Go.ChangeShapes Go.WideShapes Go.Deep in
theorem openInts {H : Type} {enc : TypeId × Value → H} {w : World} {base : Nat} {spare : Nat → Bool} {held : Bool} {fuel : Nat} {A : Option Addr} {n c : Nat} {x : DataW H × List MemPlace} (h : DataW.trod enc Tryz.prog w base spare held fuel 61 [.slice A n c] = some x) :
    ∃ p, IntRow w A n p ∧ n ≤ maxLen ∧ ∀ i, i < n → (Lit.int .i64 (p i)).wf = true := by
  rcases open_slice1 Tryz.underlying61 (by kernel_rfl) h with ⟨hcs, hx⟩ | ⟨a, len, cap, m, fu, V, D, Pl, hcs, hb, hl, hm, hmm, hx, hi⟩
  · simp only [List.cons.injEq, Value.slice.injEq, and_true] at hcs
    obtain ⟨rfl, rfl, rfl⟩ := hcs
    exact ⟨fun _ => 0, fun h0 => by omega, by unfold maxLen; omega, fun i h0 => by omega⟩
  · simp only [List.cons.injEq, Value.slice.injEq, and_true] at hcs
    obtain ⟨rfl, rfl, rfl⟩ := hcs
    have hlm : n ≤ m := by rw [hmm]; split <;> omega
    have hall : ∀ i, ∃ v : Int, i < n → w.cell? (a.add i) = some (.int .i64 v) ∧ (Lit.int .i64 v).wf = true := by
      intro i
      by_cases hin : i < n
      · obtain ⟨hc, ht⟩ := hi i (by omega)
        obtain ⟨v, e, _, q⟩ := DataW.trod_int Tryz.underlying2 ht
        have e1 := one_cell e
        rw [e1] at hc
        exact ⟨v, fun _ => ⟨hc, q⟩⟩
      · exact ⟨0, fun h0 => absurd h0 hin⟩
    obtain ⟨F, hF⟩ := Classical.axiomOfChoice hall
    refine ⟨F, fun hn => ?_, by omega, fun i h0 => (hF i h0).2⟩
    have hspot : a.spot = none := by
      obtain ⟨hc0, -⟩ := hi 0 (by omega)
      simpa [Addr.add] using Go.World.cell?_spot hc0
    obtain ⟨g, o, spot⟩ := a
    simp only at hspot
    subst hspot
    exact ⟨g, o, rfl, fun i h0 => cell_add (hF i h0).1 rfl⟩
end Go.Proofs.YticnpibkpfpojaaGreatDoor

/- What mark and held do with lists of numbers, and markText. -/
namespace Go.Proofs.YticnpibkpfpojaaGreatDoor
set_option linter.unusedVariables false
open Go.RowKit

/-- a row of numbers at the head of a block of the call's own -/
def IntOwn (w : World) (A : Option Addr) (n : Nat) (p : Nat → Int) (G : Nat) : Prop := 0 < n → A = some ⟨G, 0, none⟩ ∧ ∃ arr : Array Value, Blk w G 2 arr ∧ n ≤ arr.size ∧ IntArr arr n p
theorem IntOwn.row {w : World} {A : Option Addr} {n G : Nat} {p : Nat → Int} (h : IntOwn w A n p G) : IntRow w A n p := fun hn => by
  obtain ⟨hA, arr, hb, -, ha⟩ := h hn
  exact hA ▸ (ha.row hb) hn
theorem IntOwn.keep {w w' : World} {A : Option Addr} {n G : Nat} {p : Nat → Int} (h : IntOwn w A n p G) (hb : Below w.heap.size w w') : IntOwn w' A n p G := fun hn => by
  obtain ⟨hA, arr, hk, hs, ha⟩ := h hn
  exact ⟨hA, arr, hk.keep hb, hs, ha⟩
theorem IntOwn.grown {w w' : World} {A : Option Addr} {n G H : Nat} {p : Nat → Int} (h : IntOwn w A n p G) (hg : w.grownBy w' (some H)) (hne : 0 < n → G ≠ H) : IntOwn w' A n p G := fun hn => by
  obtain ⟨hA, arr, hk, hs, ha⟩ := h hn
  exact ⟨hA, arr, (hg.block G hk.lt (by simpa using hne hn)).trans hk, hs, ha⟩
theorem IntOwn.lt {w : World} {A : Option Addr} {n G : Nat} {p : Nat → Int} (h : IntOwn w A n p G) (hn : 0 < n) : G < w.heap.size := by
  obtain ⟨-, arr, hb, -⟩ := h hn
  exact hb.lt
theorem intOwn_of {w : World} {base n : Nat} {v : Value} {f : Nat → Int} (ho : w.ownsRow base 2 1 v n (intsL f n)) (hbase : base ≤ w.heap.size) : ∃ A c G, v = .slice A n c ∧ IntOwn w A n f G ∧ base ≤ G := by
  rcases ho.2 with ⟨hv, h0⟩ | ⟨g, cap, cur, hv, hb, hg, hc, hm, hs, ht⟩
  · subst h0
    exact ⟨none, 0, base, hv, fun h => absurd h (Nat.lt_irrefl _), Nat.le_refl _⟩
  · refine ⟨some ⟨g, 0, none⟩, cap, g, hv, fun hn => ⟨rfl, cur, hg, by rw [hs]; omega, fun i hi => ?_⟩, hb⟩
    have := (congrArg (fun l => l[i]?) ht)
    simp only [List.getElem?_take, Nat.mul_one, if_pos hi, intsL_at f hi] at this
    simpa using this
theorem IntArr.mark {arr : Array Value} {n k : Nat} {p : Nat → Int} (h : IntArr arr k p) (hs : n ≤ arr.size) (hk : k < n) {v : Int} (e : v = p k) : IntArr (arr.setIfInBounds k (.int .i64 v)) (k + 1) p := by
  subst e
  intro i hi
  rcases Nat.lt_or_ge i k with h1 | h1
  · rw [Array.getElem?_setIfInBounds_ne (by omega)]
    exact h i h1
  · obtain rfl : i = k := by omega
    rw [Array.getElem?_setIfInBounds_self_of_lt (by omega)]
def mk1 (k : Nat) : Nat → Int := fun i => ((k + i : Nat) : Int)
end Go.Proofs.YticnpibkpfpojaaGreatDoor

/- Ingots found by their ids; the choice of a melt's ingots, in the program and in the reference. -/
namespace Go.Proofs.YticnpibkpfpojaaGreatDoor
set_option linter.unusedVariables false
open Go.RowKit


/-- all texts are ids of ingots -/
def allHave (s0 : Nat → ByteArray) (n : Nat) (ss : Nat → ByteArray) (q : Nat) : Bool := allB (fun t => hasId s0 n (ss t)) q
def chV (s0 : Nat → ByteArray) (n : Nat) (ss : Nat → ByteArray) : Nat → Int := fun t => (mIx s0 n (ss t) : Int)
def ChoiceOut (s0 : Nat → ByteArray) (n : Nat) (ss : Nat → ByteArray) (q : Nat) (w : World) (e : Ending) (w' : World) : Prop :=
  ∃ v, e = .returned (.tuple #[v, .bool (allHave s0 n ss q)]) ∧ (allHave s0 n ss q = true → ∃ A c, v = .slice A q c ∧ IntRow w' A q (chV s0 n ss)) ∧ Below w.heap.size w w'
end Go.Proofs.YticnpibkpfpojaaGreatDoor

/- The choice of a melt's ingots, in the reference. -/
namespace Go.Proofs.YticnpibkpfpojaaGreatDoor
set_option linter.unusedVariables false
open Go.RowKit

theorem hasId_at {s0 : Nat → ByteArray} {n j : Nat} {x : ByteArray} (hj : j < n) (h : eqS (s0 j) x = true) : hasId s0 n x = true := by
  unfold hasId anyB
  rw [allB_no hj (show (!eqS (s0 j) x) = false by rw [h]; rfl)]
  rfl
def sel1 (q : Bool) : Nat := if q = true then 1 else 0
set_option maxRecDepth 20000 in
set_option maxHeartbeats 8000000 in
theorem sChosen_calls (A : Option Addr) (n c : Nat) (s0 : Nat → ByteArray) (a1 a2 a3 a4 : Nat → Int) (b o : Nat) (x : MeltV) (w : World) (h : IngotRow w A n s0 a1 a2 a3 a4) (hn : n ≤ 1048576) (hs : Srt s0 n) (h2 : MeltAt w b o x) (hq : x.n ≤ 1048576) :
    Calls Tryz.prog 153 #[.slice A n c, .pointer (some ⟨b, o, none⟩)] w fun e w' => ChoiceOut s0 n x.ss x.n w e w' := by
  obtain ⟨i0, hi, hz0, hz1, hz2⟩ := info_parts Int64_info
  obtain ⟨AK, CK, m0, m1, m2, m3⟩ := h2
  generalize x.ss = ss at *
  generalize x.n = q at *
  have H := Lib.hid h
  have H2 := Lib.hid m3
  have HM1 := Lib.hid m1
  have HS := Lib.hid hs
  have HL := Lib.hid (World.ownsRow_lit (base := w.heap.size) (e := 2) (size := 1) w #[] 0 (Nat.le_refl _) (by unfold maxLen; omega) rfl)
  have HB0 := Lib.hid ((Below.refl w.heap.size w).alloc (Nat.le_refl _) (.cells #[] 2))
  clear h m0 m1 m2 m3 hs
  go_enter Tryz.func153, Tryz.ntmps153
  go_wp2
  go_loopw [6, 7] (fun v i wr => ∃ k : Nat, k ≤ q ∧ i = .int .i64 k ∧ Hid (wr.ownsRow w.heap.size 2 1 v k (intsL (chV s0 n ss) k)) ∧ Hid (allHave s0 n ss k = true) ∧ Below w.heap.size w wr) (fun _ i _ => q - (intOf i).toNat)
  case atStart => exact ⟨0, by omega, rfl, HL, Lib.hid rfl, HB0.out⟩
  case round =>
    obtain ⟨k, hk, rfl, hown, hall, hbr⟩ := hrel
    have m1 := cell_keep hbr HM1.out
    by_cases hlt : k < q
    · obtain ⟨b2, o2, rfl, hrow2⟩ := H2.out (by omega)
      obtain ⟨x, hx⟩ : ∃ x, x = ss k := ⟨_, rfl⟩
      have HC0 := Lib.hid (show w.cell? ⟨b2, o2 + k, none⟩ = some (.string x) by rw [hx]; exact hrow2 k hlt)
      have HX := Lib.hid hx
      have HR2 := Lib.hid hrow2
      clear hrow2 hx
      go_wp2
      go_loopw [6, 8, 9] (fun v fd i wr => ∃ (j : Nat) (p : Bool), j ≤ n ∧ i = .int .i64 j ∧ fd = .bool p ∧ Hid (p = anyB (fun t => eqS (s0 t) x) j) ∧ Hid (wr.ownsRow w.heap.size 2 1 v (k + sel1 p) (intsL (chV s0 n ss) (k + sel1 p))) ∧ Below w.heap.size w wr) (fun _ _ i _ => n - (intOf i).toNat)
      case atStart => exact ⟨0, false, by omega, rfl, rfl, Lib.hid rfl, hown, hbr⟩
      case round =>
        clear hown hbr m1
        obtain ⟨j, p, hj, rfl, rfl, hp, hown, hbr⟩ := hrel
        have m1 := cell_keep hbr HM1.out
        have c0 := cell_keep hbr HC0.out
        by_cases hlt2 : j < n
        · obtain ⟨b3, o3, rfl, hrow⟩ := H.out (by omega)
          obtain ⟨d0, d1, d2, d3, d4⟩ := (hrow j hlt2).below hbr (Nat.le_refl _)
          have HR := Lib.hid hrow
          obtain ⟨y, hy⟩ : ∃ y, y = s0 j := ⟨_, rfl⟩
          rw [← hy] at d0
          have hany := anyB_succ (fun t => eqS (s0 t) x) j
          rw [← hp.out] at hany
          have hyx : eqS (s0 j) x = (y.toList == x.toList) := by rw [hy]; rfl
          rw [hyx] at hany
          have HYX := Lib.hid hyx
          clear hrow hy hyx
          cases q1 : (y.toList == x.toList)
          · rw [q1, Bool.or_false] at hany
            have HANY := Lib.hid hany
            clear hany
            go_wp2_with fail
            go_quiet (fail)
            go_wp2
            go_roundw
            case rel => exact ⟨j + 1, p, by omega, by go_num, rfl, Lib.hid HANY.out.symm, hown, below_drewN hbr _⟩
            case measure => simp [intOf]; omega
          · rw [q1] at HYX
            rw [q1, Bool.or_true] at hany
            have hpf : p = false := by
              cases hpp : p
              · rfl
              · exfalso
                rw [hp.out] at hpp
                obtain ⟨t, ht, hte⟩ := anyB_of hpp
                have := srt_uniq HS.out (show t < n by omega) hlt2 hte HYX.out
                omega
            subst hpf
            have HANY := Lib.hid hany
            have HK := Lib.hid (show (j : Int) = chV s0 n ss k by
              obtain ⟨i1, i2, i3⟩ := mIx_of (hasId_at hlt2 HYX.out)
              unfold chV
              rw [← HX.out, srt_uniq HS.out hlt2 i1 HYX.out i3])
            have hown2 : Hid (wr.ownsRow w.heap.size 2 1 _ k (intsL (chV s0 n ss) k)) := hown
            clear hany hown hp
            go_wp2_with fail
            go_quiet (fail)
            generalize hW0 : World.drewN wr _ = W0
            have hown3 : Hid (W0.ownsRow w.heap.size 2 1 _ k (intsL (chV s0 n ss) k)) := Lib.hid (by rw [← hW0]; exact hown2.out)
            have hbr3 : Below w.heap.size w W0 := by rw [← hW0]; exact below_drewN hbr _
            clear hown2 hbr hW0 m1 c0 d0 d1 d2 d3 d4
            go_wp2_with (at_builtin; refine wpList_append_own _ rfl _ _ 61 rfl w.heap.size 2 i0 (.int .i64 0) 1 8 Tryz.underlying61 hi hz0 hz1 hz2 rfl (by decide) _ _ _ rfl (hown3.out.alloc _) ⟨W0.heap.size, 0, none⟩ 1 1 [.int .i64 j] rfl rfl (fun j u hj => by match j, hj with | 0, hj => simp at hj; subst hj; simp [Addr.add]) (fun u hu => by simp at hu; subst hu; rfl) (by unfold maxLen; omega) (by omega) (by have := hbr3.size; simp; omega) ?_; intro v' w2 hown' hgrow _; have hb2 := below_append hbr3 hbr3.size hown3.out hgrow; rw [HK.out, intsL_succ] at hown'; have HOWN := Lib.hid hown'; have HB2 := Lib.hid hb2; clear hown' hgrow hb2)
            go_roundw
            case rel => exact ⟨j + 1, true, by omega, by go_num, rfl, Lib.hid HANY.out.symm, HOWN, HB2.out⟩
            case measure => simp [intOf]; omega
        · have hjn : j = n := by omega
          subst hjn
          have HP := Lib.hid (show hasId s0 j x = p from hp.out.symm)
          cases p
          · have HF := Lib.hid (show allHave s0 j ss q = false from allB_no hlt (by rw [← HX.out]; exact HP.out))
            go_wp2
            refine bodyPost_ret (v := .tuple #[.slice none 0 0, .bool false]) (by simp [results, Tryz.results153, go_sem]) rfl ?_
            exact ⟨_, by rw [HF.out], (fun h => by rw [HF.out] at h; cases h), hbr⟩
          · have HA := Lib.hid (show allHave s0 j ss (k + 1) = true by rw [show allHave s0 j ss (k + 1) = (allHave s0 j ss k && hasId s0 j (ss k)) from rfl, hall.out, ← HX.out, HP.out]; rfl)
            go_wp2
            go_roundw
            case rel => exact ⟨k + 1, by omega, by go_num, hown, HA, hbr⟩
            case measure => simp [intOf]; omega
    · obtain rfl : k = q := by omega
      obtain ⟨A', c', G, rfl, hio, hG⟩ := intOwn_of hown.out hbr.size
      have HIO := Lib.hid hio.row
      clear hio
      go_wp2
      refine bodyPost_ret (v := .tuple #[.slice A' k c', .bool true]) (by simp [results, Tryz.results153, go_sem]) rfl ?_
      exact ⟨_, by rw [hall.out], fun _ => ⟨A', c', rfl, HIO.out⟩, hbr⟩
end Go.Proofs.YticnpibkpfpojaaGreatDoor

/- The metal of a choice of ingots, and the greatest mass of a melt, in the program and in the reference. -/
namespace Go.Proofs.YticnpibkpfpojaaGreatDoor
set_option linter.unusedVariables false
open Go.RowKit

def sumX (p : Nat → Int) (ix : Nat → Nat) : Nat → Int
  | 0 => 0
  | k + 1 => sumX p ix k + p (ix k)
theorem sumX_le {p : Nat → Int} {ix : Nat → Nat} {M : Int} {q : Nat} (h : ∀ t, t < q → 0 ≤ p (ix t) ∧ p (ix t) ≤ M) (hM : 0 ≤ M) : ∀ k, k ≤ q → 0 ≤ sumX p ix k ∧ sumX p ix k ≤ k * M
  | 0, _ => by simp [sumX]
  | k + 1, hk => by
    have ih := sumX_le h hM k (by omega)
    have h1 := h k (by omega)
    have e : ((k + 1 : Nat) : Int) * M = k * M + M := by push_cast; rw [Int.add_mul, Int.one_mul]
    rw [e]
    show 0 ≤ sumX p ix k + p (ix k) ∧ sumX p ix k + p (ix k) ≤ _
    omega
/-- the bounds of an ingot's numbers -/
def IngB (n : Nat) (a1 a3 a4 : Nat → Int) : Prop := ∀ i, i < n → (0 ≤ a1 i ∧ a1 i ≤ 20000000) ∧ (0 ≤ a3 i ∧ a3 i ≤ 1000000) ∧ (0 ≤ a4 i ∧ a4 i ≤ 1000000)
theorem mul_le6 {x y : Int} (hx : 0 ≤ x ∧ x ≤ 20000000) (hy : 0 ≤ y ∧ y ≤ 1000000) : 0 ≤ x * y ∧ x * y ≤ 20000000000000 :=
  ⟨Int.mul_nonneg hx.1 hy.1, Int.le_trans (Int.mul_le_mul hx.2 hy.2 hy.1 (by omega)) (by omega)⟩
/-- the metal of a melt whose ingots exist, and the most of it -/
def metV (s0 : Nat → ByteArray) (n : Nat) (a1 : Nat → Int) (ss : Nat → ByteArray) (q : Nat) : Int := sumX a1 (fun t => mIx s0 n (ss t)) q
def mostV (s0 : Nat → ByteArray) (n : Nat) (a1 : Nat → Int) (ss : Nat → ByteArray) (q : Nat) : Int := metV s0 n a1 ss q - nr (metV s0 n a1 ss q * 20000) 1000000
theorem mIx_all {s0 : Nat → ByteArray} {n : Nat} {ss : Nat → ByteArray} {q : Nat} (h : allHave s0 n ss q = true) : ∀ t, t < q → mIx s0 n (ss t) < n := fun t ht => (mIx_of (allB_of h t ht)).1
theorem metV_le {s0 : Nat → ByteArray} {n : Nat} {a1 a3 a4 : Nat → Int} {ss : Nat → ByteArray} {q : Nat} (h : allHave s0 n ss q = true) (hb : IngB n a1 a3 a4) (hq : q ≤ 16) : 0 ≤ metV s0 n a1 ss q ∧ metV s0 n a1 ss q ≤ 320000000 := by
  have := sumX_le (p := a1) (ix := fun t => mIx s0 n (ss t)) (M := 20000000) (q := q) (fun t ht => (hb _ (mIx_all h t ht)).1) (by omega) q (Nat.le_refl _)
  unfold metV
  omega
theorem nr_bound (M : Int) (h : 0 ≤ M ∧ M ≤ 320000000) : 0 ≤ nr (M * 20000) 1000000 ∧ nr (M * 20000) 1000000 ≤ 320000000 := by
  unfold nr
  omega
set_option maxRecDepth 20000 in
set_option maxHeartbeats 4000000 in
theorem sMetal_calls (A : Option Addr) (n c : Nat) (s0 : Nat → ByteArray) (a1 a2 a3 a4 : Nat → Int) (b o : Nat) (x : MeltV) (w : World) (h : IngotRow w A n s0 a1 a2 a3 a4) (hn : n ≤ 1048576) (hs : Srt s0 n) (h2 : MeltAt w b o x) (hq : x.n ≤ 16) (hall : allHave s0 n x.ss x.n = true) (hb : IngB n a1 a3 a4) :
    Calls Tryz.prog 135 #[.slice A n c, .pointer (some ⟨b, o, none⟩)] w fun e w' => e = .returned (.int .i64 (metV s0 n a1 x.ss x.n)) ∧ Below w.heap.size w w' := by
  have HC := Lib.hid (sChosen_calls A n c s0 a1 a2 a3 a4 b o x w h hn hs h2 (by omega))
  have H := Lib.hid h
  have HB := Lib.hid hb
  have HI := Lib.hid (mIx_all hall)
  generalize x.ss = ss at *
  generalize x.n = q at *
  have HA := Lib.hid hall
  obtain ⟨ix, hix⟩ : ∃ ix, ix = fun t => mIx s0 n (ss t) := ⟨_, rfl⟩
  have HIX := Lib.hid hix
  clear h h2 hs hall hb hix
  go_enter Tryz.func135, Tryz.ntmps135
  go_wp2_with fail
  go_at_call 153
  with_reducible refine HC.out.mono ?_
  rintro e w1 ⟨v, rfl, hv, hb1⟩
  obtain ⟨B, d, rfl, hrow⟩ := hv HA.out
  have H2 : Hid (IntRow w1 B q (fun t => (ix t : Int))) := Lib.hid (by rw [HIX.out]; exact hrow)
  rw [HA.out]
  clear hv hrow HC
  go_wp2
  go_loopw [7, 8] (fun u i wr => ∃ (k : Nat) (m : Int), k ≤ q ∧ i = .int .i64 k ∧ u = .int .i64 m ∧ Hid (m = sumX a1 ix k) ∧ Below w.heap.size w wr ∧ Below w1.heap.size w1 wr) (fun _ i _ => q - (intOf i).toNat)
  case atStart => exact ⟨0, 0, by omega, rfl, rfl, Lib.hid rfl, hb1, Below.refl _ _⟩
  case round =>
    clear hb1
    obtain ⟨k, m, hk, rfl, rfl, hm, hbr, hbr1⟩ := hrel
    by_cases hlt : k < q
    · obtain ⟨bb, ob, rfl, hrow2⟩ := H2.out (by omega)
      have e0 := cell_keep hbr1 (hrow2 k hlt)
      obtain ⟨r, hr⟩ : ∃ r, r = ix k := ⟨_, rfl⟩
      have hrn : r < n := by rw [hr, HIX.out]; exact HI.out k hlt
      have e1 : wr.cell? ⟨bb, ob + k, none⟩ = some (.int .i64 (r : Int)) := by rw [hr]; exact e0
      obtain ⟨b3, o3, rfl, hrow⟩ := H.out (by omega)
      obtain ⟨c0, c1, c2, c3, c4⟩ := (hrow r hrn).below hbr (Nat.le_refl _)
      have HR := Lib.hid hrow
      have HR2 := Lib.hid hrow2
      obtain ⟨g1, -, -⟩ := HB.out r hrn
      obtain ⟨x1, hx1⟩ : ∃ x, x = a1 r := ⟨_, rfl⟩
      rw [← hx1] at c1 g1
      have s1 := sumX_le (p := a1) (ix := ix) (M := 20000000) (q := q) (fun t ht => (HB.out _ (by rw [HIX.out]; exact HI.out t ht)).1) (by omega) k (by omega)
      rw [← hm.out] at s1
      have n1 : Hid (m + x1 = sumX a1 ix (k + 1)) := Lib.hid (by rw [hm.out, hx1, hr]; rfl)
      clear hrow hrow2 hr e0 hx1 hm
      go_wp2
      go_roundw
      case rel => exact ⟨k + 1, m + x1, by omega, by go_num, rfl, n1, hbr, hbr1⟩
      case measure => simp [intOf]; omega
    · obtain rfl : k = q := by omega
      have HM : Hid (m = metV s0 n a1 ss k) := Lib.hid (by rw [hm.out, HIX.out]; rfl)
      clear hm
      go_wp2
      go_ret
      exact ⟨ret_int HM.out, hbr⟩
set_option maxHeartbeats 4000000 in
theorem sMost_calls (A : Option Addr) (n c : Nat) (s0 : Nat → ByteArray) (a1 a2 a3 a4 : Nat → Int) (b o : Nat) (x : MeltV) (w : World) (h : IngotRow w A n s0 a1 a2 a3 a4) (hn : n ≤ 1048576) (hs : Srt s0 n) (h2 : MeltAt w b o x) (hq : x.n ≤ 16) (hall : allHave s0 n x.ss x.n = true) (hb : IngB n a1 a3 a4) :
    Calls Tryz.prog 132 #[.slice A n c, .pointer (some ⟨b, o, none⟩)] w fun e w' => e = .returned (.int .i64 (mostV s0 n a1 x.ss x.n)) ∧ Below w.heap.size w w' := by
  have HC := Lib.hid (sMetal_calls A n c s0 a1 a2 a3 a4 b o x w h hn hs h2 hq hall hb)
  have hm := metV_le hall hb hq
  unfold mostV
  generalize metV s0 n a1 x.ss x.n = M at *
  have hnr := nr_bound M hm
  clear h h2 hs hall hb
  go_enter Tryz.func132, Tryz.ntmps132
  go_wp2_with fail
  go_at_call 135
  with_reducible refine HC.out.mono ?_
  rintro e w1 ⟨rfl, hb1⟩
  clear HC
  go_wp2_with (go_at_call 154; refine (div_calls _ _ _ (by omega) (by omega) (by omega) (by omega)).mono ?_; rintro e w2 ⟨rfl, rfl⟩)
  go_ret
  exact ⟨rfl, hb1⟩
end Go.Proofs.YticnpibkpfpojaaGreatDoor
