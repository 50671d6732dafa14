/- A melt found by its id. -/
import Derived.Test.YticnpibkpfpojaaGreatDoorBin
import Derived.Test.YticnpibkpfpojaaGreatDoorMeltV
namespace Go.Proofs.YticnpibkpfpojaaGreatDoor
set_option linter.unusedVariables false
set_option linter.unusedSimpArgs false
open Go.RowKit


set_option maxHeartbeats 1000000 in
theorem meltAt1_calls (s : ByteArray) (A : Option Addr) (n c : Nat) (ma : Int) (x : ByteArray) (w : World) :
    Calls Tryz.prog 96 #[.agg #[.string s, .slice A n c, .int .i64 ma], .string x] w fun e w' => e = .returned (.int .i64 (cmpS s x)) ∧ Below w.heap.size w w' := by
  have hal := (Below.refl w.heap.size w).alloc (Nat.le_refl _) (.cells #[.string s, .slice A n c, .int .i64 ma] 74)
  have HAL := Lib.hid hal
  clear hal
  go_enter Tryz.func96, Tryz.ntmps96
  go_wp2_with (go_at_call 18; refine (compareS_calls _ _ _).mono ?_; rintro e w1 ⟨rfl, rfl⟩)
  go_ret
  exact ⟨rfl, HAL.out⟩
set_option maxRecDepth 20000 in
set_option maxHeartbeats 4000000 in
theorem meltSearch (A : Option Addr) (n c : Nat) (f : Nat → MeltV) (x : ByteArray) (w : World) (h : MeltRow w A n f) (hn : n ≤ 1048576) (hp : ∀ k W AK CK, k < n → Below w.heap.size w W → Calls Tryz.prog 96 #[.agg #[.string (f k).id, .slice AK (f k).n CK, .int .i64 (f k).ma], .string x] W fun e w' => e = .returned (.int .i64 (cmpS ((fun q => (f q).id) k) x)) ∧ Below W.heap.size W w') :
    Calls Tryz.prog 95 #[.slice A n c, .string x, .func (.func 96) #[] #[]] w fun e w' => (∃ k : Nat, e = .returned (.tuple #[.int .i64 k, .bool (decide (k < n) && eqS ((fun q => (f q).id) k) x)]) ∧ k ≤ n ∧ Half (fun q => (f q).id) n x k k) ∧ Below w.heap.size w w' := by
  have H := Lib.hid h
  have HP := Lib.hid hp
  clear h hp
  go_enter Tryz.func95, Tryz.ntmps95
  go_wp2
  go_loopw [9, 10] (fun a b wr => ∃ i j : Nat, i ≤ j ∧ j ≤ n ∧ a = .int .i64 i ∧ b = .int .i64 j ∧ Hid (Half (fun q => (f q).id) n x i j) ∧ Below w.heap.size w wr) (fun a b _ => (intOf b - intOf a).toNat)
  case atStart => exact ⟨0, n, by omega, by omega, rfl, rfl, Lib.hid (Half.start _ _ _), Below.refl _ _⟩
  case round =>
    obtain ⟨i, j, hij, hjn, rfl, rfl, hh, hbr⟩ := hrel
    by_cases hlt : i < j
    · obtain ⟨k, hk⟩ : ∃ k, k = (i + j) / 2 := ⟨_, rfl⟩
      have hki : i ≤ k := by omega
      have hkj : k < j := by omega
      have hkn : k < n := by omega
      have u1 : IntKind.u64.wrap ((i : Int) + j) = (i : Int) + j := by
        unfold IntKind.wrap; simp [IntKind.bits, IntKind.signed]; omega
      have u2 : ((i : Int) + j) / 2 = (k : Int) := by omega
      have u3 : ((i : Int) + j) >>> 1 = (k : Int) := by rw [Int.shiftRight_eq_div_pow]; omega
      have u4 : IntKind.i64.wrap (k : Int) = (k : Int) := IntWalk.i64_in _ ⟨by omega, by omega⟩
      have u5 : IntKind.u64.wrap (k : Int) = (k : Int) := by
        unfold IntKind.wrap; simp [IntKind.bits, IntKind.signed]; omega
      clear hk
      obtain ⟨b, o, rfl, hrow⟩ := H.out (by omega)
      obtain ⟨AK, CK, c0, c1, c2, -⟩ := (hrow k hkn).keep hbr
      have HR := Lib.hid hrow
      clear hrow
      have HC := Lib.hid (HP.out k wr AK CK hkn hbr)
      have hcn := cmpS_neg ((fun q => (f q).id) k) x
      generalize hcv : cmpS ((fun q => (f q).id) k) x = cv at HC hcn
      cases q1 : ltS ((fun q => (f q).id) k) x
      · rw [q1] at hcn
        have hcn2 : ¬ cv < 0 := by simpa using hcn
        go_wp2_with (go_at_call 96; with_reducible refine HC.out.mono ?_; rintro e w1 ⟨rfl, hb⟩; have hbr2 := hbr.trans (hb.mono hbr.size); clear hb)
        go_roundw
        case rel => exact ⟨i, k, by omega, by omega, rfl, rfl, Lib.hid (hh.out.down q1), hbr2⟩
        case measure => simp [intOf]; omega
      · rw [q1] at hcn
        have hcn2 : cv < 0 := by simpa using hcn
        go_wp2_with (go_at_call 96; with_reducible refine HC.out.mono ?_; rintro e w1 ⟨rfl, hb⟩; have hbr2 := hbr.trans (hb.mono hbr.size); clear hb)
        go_roundw
        case rel => exact ⟨k + 1, j, by omega, by omega, by go_num, rfl, Lib.hid (hh.out.up hki hkn q1), hbr2⟩
        case measure => simp [intOf]; omega
    · obtain rfl : i = j := by omega
      by_cases hin : i < n
      · obtain ⟨b, o, rfl, hrow⟩ := H.out (by omega)
        have k := i
        obtain ⟨AK, CK, c0, c1, c2, -⟩ := (hrow i hin).keep hbr
        have HR := Lib.hid hrow
        clear hrow
        have HC := Lib.hid (HP.out i wr AK CK hin hbr)
        have hcz := cmpS_zero ((fun q => (f q).id) i) x
        generalize hcv : cmpS ((fun q => (f q).id) i) x = cv at HC hcz
        have hd : decide (i < n) = true := decide_eq_true hin
        go_wp2_with (go_at_call 96; with_reducible refine HC.out.mono ?_; rintro e w1 ⟨rfl, hb⟩; have hbr2 := hbr.trans (hb.mono hbr.size); clear hb)
        refine bodyPost_ret (v := .tuple #[.int .i64 i, .bool (eqS ((fun q => (f q).id) i) x)]) (by simp [results, Tryz.results95, go_sem]) rfl ?_
        exact ⟨⟨i, by rw [hd, Bool.true_and], by omega, hh.out⟩, hbr2⟩
      · have hd : decide (i < n) = false := decide_eq_false hin
        have hd2 : decide ((i : Int) < n) = false := decide_eq_false (by omega)
        go_wp2
        refine bodyPost_ret (v := .tuple #[.int .i64 i, .bool false]) (by simp [results, Tryz.results95, go_sem]) rfl ?_
        exact ⟨⟨i, by simp [hd], by omega, hh.out⟩, hbr⟩
theorem meltsOk_srt {f : Nat → MeltV} {n : Nat} (h : meltsOk f n = true) : Srt (fun q => (f q).id) n := srt_of fun k hk => by
  have h1 := allB_of h (k + 1) hk
  unfold meltAt' goodAt at h1
  simp only [Bool.and_eq_true] at h1
  have h2 := h1.1.2
  show Op.bytesLess (f k).id.toList (f (k + 1)).id.toList = true
  simpa using h2
set_option maxHeartbeats 1000000 in
theorem meltAt_calls (A : Option Addr) (n c : Nat) (f : Nat → MeltV) (x : ByteArray) (w : World) (h : MeltRow w A n f) (hn : n ≤ 1048576) :
    Calls Tryz.prog 72 #[.slice A n c, .string x] w fun e w' => (∃ k : Nat, e = .returned (.tuple #[.int .i64 k, .bool (decide (k < n) && eqS (f k).id x)]) ∧ k ≤ n ∧ Half (fun q => (f q).id) n x k k) ∧ Below w.heap.size w w' := by
  have HQ := Lib.hid (meltSearch A n c f x w h hn (fun k W AK CK _ _ => meltAt1_calls _ _ _ _ _ _ _))
  clear h
  go_enter Tryz.func72, Tryz.ntmps72
  go_wp2_with (go_at_call 95; with_reducible refine HQ.out.mono ?_; rintro e w1 ⟨⟨k, rfl, hk, hh⟩, hb⟩; have HH := Lib.hid hh; clear hh)
  refine bodyPost_ret (v := .tuple #[.int .i64 k, .bool (decide (k < n) && eqS (f k).id x)]) (by simp [results, Tryz.results72, go_sem]) rfl ?_
  exact ⟨⟨k, rfl, hk, HH.out⟩, hb⟩
/-- what meltNamed gives -/
def NamedOut (f : Nat → MeltV) (n : Nat) (x : ByteArray) (e : Ending) (w' : World) : Prop :=
  (∃ k AK CK, k < n ∧ eqS (f k).id x = true ∧ (Srt (fun q => (f q).id) n → hasId (fun q => (f q).id) n x = true) ∧ e = .returned (.tuple #[.agg #[.string (f k).id, .slice AK (f k).n CK, .int .i64 (f k).ma], .bool true]) ∧ StrRow w' AK (f k).n (f k).ss) ∨
  ((Srt (fun q => (f q).id) n → hasId (fun q => (f q).id) n x = false) ∧ e = .returned (.tuple #[.agg #[.string ⟨#[]⟩, .slice none 0 0, .int .i64 0], .bool false]))
set_option maxHeartbeats 2000000 in
theorem meltNamed_calls (A : Option Addr) (n c : Nat) (f : Nat → MeltV) (x : ByteArray) (w : World) (h : MeltRow w A n f) (hn : n ≤ 1048576) :
    Calls Tryz.prog 37 #[.slice A n c, .string x] w fun e w' => NamedOut f n x e w' ∧ Below w.heap.size w w' := by
  have hal := (Below.refl w.heap.size w).alloc (Nat.le_refl _) (.cells #[.string ⟨#[]⟩, .slice none 0 0, .int .i64 0] 74)
  have HX := Lib.hid (Blk.new w 74 #[.string ⟨#[]⟩, .slice none 0 0, .int .i64 0])
  have HQ := Lib.hid (meltAt_calls A n c f x _ (h.keep hal) hn)
  have H := Lib.hid h
  have HAL := Lib.hid hal
  clear hal h
  go_enter Tryz.func37, Tryz.ntmps37
  go_wp2_with fail
  go_at_call 72
  with_reducible refine HQ.out.mono ?_
  rintro e w1 ⟨⟨k, rfl, hk, hh⟩, hb⟩
  have HH := Lib.hid hh
  have hB1 := HAL.out.trans (hb.mono HAL.out.size)
  have HB1 := Lib.hid hB1
  have G := HX.out.keep hb
  have y0 := (G.cell 0).trans rfl
  have y1 := (G.cell 1).trans rfl
  have y2 := (G.cell 2).trans rfl
  have f0 := G.frozen
  have HG := Lib.hid G
  clear hh hb hB1 G
  cases q1 : (decide (k < n) && eqS (f k).id x)
  · go_wp2
    refine bodyPost_ret (v := .tuple #[.agg #[.string ⟨#[]⟩, .slice none 0 0, .int .i64 0], .bool false]) (by simp [results, Tryz.results37, go_sem, y0, y1, y2]) rfl ?_
    refine ⟨Or.inr ⟨fun s => ?_, rfl⟩, ?_⟩
    · rw [← HH.out.found s]; exact q1
    · exact ((HB1.out.setCell (Nat.le_refl _) _).setCell (Nat.le_refl _) _).setCell (Nat.le_refl _) _
  · simp only [Bool.and_eq_true, decide_eq_true_eq] at q1
    obtain ⟨q1, q2⟩ := q1
    have q3 := Lib.hid q2
    obtain ⟨b, o, rfl, hrow⟩ := H.out (by omega)
    obtain ⟨AK, CK, d0, d1, d2, c3⟩ := hrow k q1
    have c0 := cell_keep HB1.out d0
    have c1 := cell_keep HB1.out d1
    have c2 := cell_keep HB1.out d2
    have hd : decide (k < n) = true := decide_eq_true q1
    have C3 := Lib.hid c3
    have HR := Lib.hid hrow
    clear hrow c3 q2 d0 d1 d2
    go_wp2
    refine bodyPost_ret (v := .tuple #[.agg #[.string (f k).id, .slice AK (f k).n CK, .int .i64 (f k).ma], .bool true]) (by simp [results, Tryz.results37, go_sem, y0, y1, y2]) rfl ?_
    have hfin : ∀ v0 v1 v2, Below w.heap.size w (((w1.setCell ⟨w.heap.size, 0, none⟩ v0).setCell ⟨w.heap.size, 1, none⟩ v1).setCell ⟨w.heap.size, 2, none⟩ v2) := fun v0 v1 v2 => ((HB1.out.setCell (Nat.le_refl _) _).setCell (Nat.le_refl _) _).setCell (Nat.le_refl _) _
    refine ⟨Or.inl ⟨k, AK, CK, q1, q3.out, fun s => ?_, rfl, ?_⟩, ?_⟩
    · rw [← HH.out.found s]; simp [hd, q3.out]
    · exact C3.out.keep (hfin _ _ _)
    · exact hfin _ _ _
end Go.Proofs.YticnpibkpfpojaaGreatDoor
