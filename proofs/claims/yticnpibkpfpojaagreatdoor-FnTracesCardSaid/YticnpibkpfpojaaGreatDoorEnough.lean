/- Whether no melt has too many shares, in the reference. -/
import Derived.Test.YticnpibkpfpojaaGreatDoorSuff
namespace Go.Proofs.YticnpibkpfpojaaGreatDoor
set_option linter.unusedVariables false
open Go.RowKit

set_option maxRecDepth 20000 in
set_option maxHeartbeats 4000000 in
theorem sEnough_calls (B : Option Addr) (m d : Nat) (g : Nat → MeltV) (A : Option Addr) (n c : Nat) (f : Nat → BellV) (w : World) (h2 : MeltRow w B m g) (hm : m ≤ 1048576) (h : BellRow w A n f) (hf : Few f n) :
    Calls Tryz.prog 103 #[.slice B m d, .slice A n c] w fun e w' => e = .returned (.bool (suffB g m f n)) ∧ Below w.heap.size w w' := by
  generalize hres : suffB g m f n = R
  have HRES := Lib.hid hres
  have H := Lib.hid h2
  have HT := Lib.hid (fun (W : World) (hb : Below w.heap.size w W) (s : ByteArray) => l18Taken_calls A n c f s W (h.keep hb) hf)
  clear h h2 hres hf
  go_enter Tryz.func103, Tryz.ntmps103
  go_wp2
  go_loopw [5] (fun i wr => ∃ k : Nat, k ≤ m ∧ i = .int .i64 k ∧ Hid (suffB g k f n = true) ∧ Below w.heap.size w wr) (fun i _ => m - (intOf i).toNat)
  case atStart => exact ⟨0, by omega, rfl, Lib.hid rfl, Below.refl _ _⟩
  case round =>
    obtain ⟨k, hk, rfl, hgood, hbr⟩ := hrel
    by_cases hlt : k < m
    · obtain ⟨b, o, rfl, hrow⟩ := H.out (by omega)
      obtain ⟨AK, CK, c0, c1, c2, -⟩ := (hrow k hlt).keep hbr
      have HR := Lib.hid hrow
      obtain ⟨T, hT⟩ : ∃ T, T = tkB f (g k).id n := ⟨_, rfl⟩
      have HTT := Lib.hid hT
      have HC := Lib.hid (show ∀ q, Calls Tryz.prog 138 #[.slice A n c, .string (g k).id] (wr.drewN q) (fun e w' => e = .returned (.int .i64 T) ∧ wr.drewN q = w') from fun q => by rw [hT]; exact HT.out (wr.drewN q) (below_drewN hbr q) (g k).id)
      clear hrow hT
      by_cases q1 : (g k).ma - T < 0
      · have q2 : (g k).ma < T := by omega
        have HF := Lib.hid (show suffB g m f n = false from allB_no hlt (show (!decide ((g k).ma - tkB f (g k).id n < 0)) = false by rw [← HTT.out, decide_eq_true q1]; rfl))
        go_wp2_with fail
        go_quiet ((go_at_call 138; with_reducible exact quiet_left (HC.out _)))
        go_wp2
        go_ret
        exact ⟨ret_bool (by rw [← HRES.out, HF.out]), below_drewN hbr _⟩
      · have q2 : ¬ (g k).ma < T := by omega
        have HA := Lib.hid (show suffB g (k + 1) f n = true by
          rw [show suffB g (k + 1) f n = (suffB g k f n && !decide ((g k).ma - tkB f (g k).id n < 0)) from rfl, hgood.out, ← HTT.out, decide_eq_false q1]; rfl)
        go_wp2_with fail
        go_quiet ((go_at_call 138; with_reducible exact quiet_left (HC.out _)))
        go_wp2
        go_roundw
        case rel => exact ⟨k + 1, by omega, by go_num, HA, below_drewN hbr _⟩
        case measure => simp [intOf]; omega
    · obtain rfl : k = m := by omega
      go_wp2
      go_ret
      exact ⟨ret_bool (by rw [← HRES.out, hgood.out]), hbr⟩
end Go.Proofs.YticnpibkpfpojaaGreatDoor
