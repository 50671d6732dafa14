/- The times from which crucibles are free, in the reference. -/
import Derived.Test.YtonoeohmpaegdaaOwn
import Derived.Test.YtonoeohmpaegdaaSched
namespace Go.Proofs.Ytonoeohmpaegdaa
set_option linter.unusedVariables false
open Go.RowKit

theorem i64_info : (Try.prog.info? 2).map (fun i => (i.zero, i.size, i.bytes)) = some (some (.int .i64 0), 1, 8) := by kernel_rfl
theorem bool_info : (Try.prog.info? 4).map (fun i => (i.zero, i.size, i.bytes)) = some (some (.bool false), 1, 1) := by kernel_rfl
set_option maxHeartbeats 2000000 in
theorem l17Frees_calls (B : Option Addr) (m c2 : Nat) (cs : Nat → ByteArray) (cc ch cf : Nat → Int) (w : World) (h : CrucibleRow w B m cs cc ch cf) (hm : m ≤ 1048576) :
    Calls Try.prog 56 #[.slice B m c2] w fun e w' => (∃ v, e = .returned v ∧ w'.ownsRow w.heap.size 2 1 v m (intsL cf m)) ∧ Below w.heap.size w w' := by
  obtain ⟨i0, hi, hz0, hz1, hz2⟩ := info_parts i64_info
  have H := Lib.hid h
  have HS := Lib.hid (World.ownsRow_lit (base := w.heap.size) (e := 2) (size := 1) w #[] 0 (Nat.le_refl _) (by unfold maxLen; omega) rfl)
  clear h
  go_enter Try.func56, Try.ntmps56
  go_wp2
  go_loopw [3, 4] (fun v i wr => ∃ k : Nat, k ≤ m ∧ i = .int .i64 k ∧ Hid (wr.ownsRow w.heap.size 2 1 v k (intsL cf k)) ∧ Below w.heap.size w wr) (fun _ i _ => m - (intOf i).toNat)
  case atStart => exact ⟨0, by omega, rfl, HS, (Below.refl _ _).alloc (Nat.le_refl _) _⟩
  case round =>
    obtain ⟨k, hk, rfl, hown, hbr⟩ := hrel
    by_cases hlt : k < m
    · obtain ⟨b, o, rfl, hrow⟩ := H.out (by omega)
      obtain ⟨c0, c1, c2_, c3_⟩ := (hrow k hlt).below hbr (Nat.le_refl _)
      have HR := Lib.hid hrow
      clear hrow
      have hbs := hbr.size
      go_wp2_with (at_builtin; refine wpList_append_own _ rfl _ _ 26 rfl w.heap.size 2 i0 (.int .i64 0) 1 8 Try.underlying26 hi hz0 hz1 hz2 rfl (by decide) _ _ _ rfl (hown.out.alloc _) ⟨wr.heap.size, 0, none⟩ 1 1 [.int .i64 (cf k)] rfl rfl (fun j u hj => by match j, hj with | 0, hj => simp at hj; subst hj; simp [Addr.add]) (fun u hu => by simp at hu; subst hu; rfl) (by unfold maxLen; omega) (by omega) (by simp; omega) ?_; intro v' w1 hown' hgrow _; have hb2 := below_append hbr hbs hown.out hgrow; rw [intsL_succ] at hown'; have HOWN := Lib.hid hown'; clear hown' hgrow)
      go_roundw
      case rel => exact ⟨k + 1, by omega, by go_num, HOWN, hb2⟩
      case measure => simp [intOf]; omega
    · obtain rfl : k = m := by omega
      go_wp2
      go_ret
      exact ⟨⟨_, rfl, hown.out⟩, hbr⟩
end Go.Proofs.Ytonoeohmpaegdaa
