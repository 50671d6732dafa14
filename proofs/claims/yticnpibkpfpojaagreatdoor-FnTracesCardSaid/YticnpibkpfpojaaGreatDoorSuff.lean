/- Whether the ingots of melts exist, whether melts are possible, whether melts suffice for bells: in the program. -/
import Derived.Test.YticnpibkpfpojaaGreatDoorLeft2
namespace Go.Proofs.YticnpibkpfpojaaGreatDoor
set_option linter.unusedVariables false
open Go.RowKit


set_option maxHeartbeats 1000000 in
theorem anySuff_index (A : Option Addr) (n c : Nat) (f : Nat → MeltV) (g : Nat) (p : Nat → Bool) (w : World) (h : MeltRow w A n f) (hn : n ≤ 1048576) (hp : ∀ k W AK CK, k < n → Below w.heap.size w W → StrRow W AK (f k).n (f k).ss → Calls Tryz.prog 55 #[.agg #[.string (f k).id, .slice AK (f k).n CK, .int .i64 (f k).ma], .pointer (some ⟨g, 0, none⟩)] W fun e w' => e = .returned (.bool (p k)) ∧ Below W.heap.size W w') :
    Calls Tryz.prog 77 #[.slice A n c, .func (.func 55) #[] #[.pointer (some ⟨g, 0, none⟩)]] w fun e w' => (∃ x : Int, decide (0 ≤ x) = anyB p n ∧ e = .returned (.int .i64 x)) ∧ Below w.heap.size w w' := by
  have H := Lib.hid h
  have HP := Lib.hid hp
  generalize hres : anyB p n = R
  have HRES := Lib.hid hres
  clear h hp hres
  go_enter Tryz.func77, Tryz.ntmps77
  go_wp2
  go_loopw [8] (fun i wr => ∃ k : Nat, k ≤ n ∧ i = .int .i64 k ∧ Hid (allB (fun i => !p i) k = true) ∧ Below w.heap.size w wr) (fun i _ => n - (intOf i).toNat)
  case atStart => exact ⟨0, by omega, rfl, rfl, Below.refl _ _⟩
  case round =>
    obtain ⟨k, hk, rfl, hgood, hbr⟩ := hrel
    by_cases hlt : k < n
    · obtain ⟨b, o, rfl, hrow⟩ := H.out (by omega)
      obtain ⟨AK, CK, c0, c1, c2, c3⟩ := (hrow k hlt).keep hbr
      have HR := Lib.hid hrow
      have HC := Lib.hid (HP.out k wr AK CK hlt hbr c3)
      clear hrow c3
      cases q1 : p k
      · rw [q1] at HC
        go_wp2_with (go_at_call 55; with_reducible refine HC.out.mono ?_; rintro e w1 ⟨rfl, hb⟩; have hbr2 := hbr.trans (hb.mono hbr.size); clear hb)
        go_roundw
        case rel => exact ⟨k + 1, by omega, by go_num, Lib.hid (by rw [show allB (fun i => !p i) (k + 1) = (allB (fun i => !p i) k && !p k) from rfl, hgood.out, q1]; rfl), hbr2⟩
        case measure => simp [intOf]; omega
      · rw [q1] at HC
        go_wp2_with (go_at_call 55; with_reducible refine HC.out.mono ?_; rintro e w1 ⟨rfl, hb⟩; have hbr2 := hbr.trans (hb.mono hbr.size); clear hb)
        go_ret
        exact ⟨⟨k, by rw [← HRES.out, anyB_hit hlt q1]; exact decide_eq_true (by omega), rfl⟩, hbr2⟩
    · obtain rfl : k = n := by omega
      go_wp2
      go_ret
      exact ⟨⟨-1, by rw [← HRES.out]; simp [anyB, hgood.out], rfl⟩, hbr⟩
set_option maxHeartbeats 400000 in
theorem anySuff (A : Option Addr) (n c : Nat) (f : Nat → MeltV) (g : Nat) (p : Nat → Bool) (w : World) (h : MeltRow w A n f) (hn : n ≤ 1048576) (hp : ∀ k W AK CK, k < n → Below w.heap.size w W → StrRow W AK (f k).n (f k).ss → Calls Tryz.prog 55 #[.agg #[.string (f k).id, .slice AK (f k).n CK, .int .i64 (f k).ma], .pointer (some ⟨g, 0, none⟩)] W fun e w' => e = .returned (.bool (p k)) ∧ Below W.heap.size W w') :
    Calls Tryz.prog 49 #[.slice A n c, .func (.func 55) #[] #[.pointer (some ⟨g, 0, none⟩)]] w fun e w' => e = .returned (.bool (anyB p n)) ∧ Below w.heap.size w w' := by
  go_enter Tryz.func49, Tryz.ntmps49
  go_wp2_with (go_at_call 77; refine (anySuff_index A n c f g p w h hn hp).mono ?_; rintro e w1 ⟨⟨x, hx, rfl⟩, hb⟩)
  go_ret
  exact ⟨by first | rfl | exact ret_bool hx, hb⟩
/-- all ingots of all melts exist -/
theorem anyB_not {p : Nat → Bool} {m : Nat} : anyB (fun i => !p i) m = !allB p m := by
  unfold anyB
  simp
set_option maxHeartbeats 1000000 in
theorem suffice1_calls (A : Option Addr) (n c : Nat) (f : Nat → BellV) (s : ByteArray) (AK : Option Addr) (q CK : Nat) (ma : Int) (G : Nat) (w : World) (h : BellRow w A n f) (hf : Few f n) (hm : 0 ≤ ma ∧ ma ≤ 320000000) (hG : Blk w G 25 #[.slice A n c]) :
    Calls Tryz.prog 55 #[.agg #[.string s, .slice AK q CK, .int .i64 ma], .pointer (some ⟨G, 0, none⟩)] w fun e w' => e = .returned (.bool (decide (ma - tkB f s n < 0))) ∧ Below w.heap.size w w' := by
  have hal := (Below.refl w.heap.size w).alloc (Nat.le_refl _) (.cells #[.string s, .slice AK q CK, .int .i64 ma] 74)
  have HAL := Lib.hid hal
  have HC := Lib.hid (leftIn_calls A n c f s AK q CK ma _ (h.keep hal) hf hm)
  have c0 := (hG.cell 0).trans rfl
  have hlt := hG.lt
  clear hal h hf hG
  generalize ma - tkB f s n = R at *
  go_enter Tryz.func55, Tryz.ntmps55
  go_wp2_with fail
  go_at_call 38
  with_reducible refine HC.out.mono ?_
  rintro e w1 ⟨rfl, hb1⟩
  have hbr := HAL.out.trans (hb1.mono HAL.out.size)
  clear hb1 HC
  go_wp2
  go_ret
  exact ⟨rfl, hbr⟩
/-- no melt has too many shares -/
def suffB (g : Nat → MeltV) (m : Nat) (f : Nat → BellV) (n : Nat) : Bool := allB (fun i => !decide ((g i).ma - tkB f (g i).id n < 0)) m
set_option maxHeartbeats 1000000 in
theorem suffice_calls (B : Option Addr) (m d : Nat) (g : Nat → MeltV) (A : Option Addr) (n c : Nat) (f : Nat → BellV) (w : World) (h2 : MeltRow w B m g) (hm : m ≤ 1048576) (h : BellRow w A n f) (hf : Few f n) (hma : ∀ i, i < m → 0 ≤ (g i).ma ∧ (g i).ma ≤ 320000000) :
    Calls Tryz.prog 24 #[.slice B m d, .slice A n c] w fun e w' => e = .returned (.bool (suffB g m f n)) ∧ Below w.heap.size w w' := by
  have hal := (Below.refl w.heap.size w).alloc (Nat.le_refl _) (.cells #[.slice A n c] 25)
  have HX := Blk.new w 25 #[.slice A n c]
  have HAL := Lib.hid hal
  have HC := Lib.hid (anySuff B m d g w.heap.size (fun i => decide ((g i).ma - tkB f (g i).id n < 0)) _ (h2.keep hal) hm (fun k W AK CK hk hb hst => suffice1_calls A n c f (g k).id AK _ CK (g k).ma _ W ((h.keep hal).keep hb) hf (hma k hk) (HX.keep hb)))
  clear hal HX h h2 hf hma
  have e : suffB g m f n = !anyB (fun i => decide ((g i).ma - tkB f (g i).id n < 0)) m := by unfold suffB anyB; rw [Bool.not_not]
  rw [e]
  clear e
  go_enter Tryz.func24, Tryz.ntmps24
  go_wp2_with (go_at_call 49; refine HC.out.mono ?_; rintro e w1 ⟨rfl, hb1⟩; have hbr := HAL.out.trans (hb1.mono HAL.out.size); clear hb1)
  go_ret
  exact ⟨rfl, hbr⟩
end Go.Proofs.YticnpibkpfpojaaGreatDoor
