/- NextHeat, in the program and in the reference. For all fields. -/
import Derived.Test.YtonoeohmpaegdaaPour
import Derived.Test.YtonoeohmpaegdaaRowBase
import Derived.Handy
namespace Go.Proofs.Ytonoeohmpaegdaa
set_option linter.unusedVariables false
open Go.RowKit

def nhS (r h free : Int) : Int := max free (r - h)
noncomputable def nhC (s : ByteArray) (m r d : Int) (s2 : ByteArray) (c h f free : Int) : Int :=
  if pourB s m r d = true ∧ crucB s2 c h f = true then (if inB free f 10000 = true then (if c < m then 5 else if d < nhS r h free + h then 6 else 0) else 2) else 1
noncomputable def nhA (s : ByteArray) (m r d : Int) (s2 : ByteArray) (c h f free : Int) : Int := if nhC s m r d s2 c h f free = 0 then nhS r h free else 0
noncomputable def nhB (s : ByteArray) (m r d : Int) (s2 : ByteArray) (c h f free : Int) : Int := if nhC s m r d s2 c h f free = 0 then nhS r h free + h else 0
set_option maxHeartbeats 2000000 in
theorem NextHeat_calls (s : ByteArray) (m r d : Int) (s2 : ByteArray) (c h f free : Int) (w : World) (hs : s.size ≤ maxLen) (hs2 : s2.size ≤ maxLen) :
    Calls Try.prog 67 #[.agg #[.string s, .int .i64 m, .int .i64 r, .int .i64 d], .agg #[.string s2, .int .i64 c, .int .i64 h, .int .i64 f], .int .i64 free] w fun e w' => e = .returned (.tuple #[.int .i64 (nhA s m r d s2 c h f free), .int .i64 (nhB s m r d s2 c h f free), .int .i64 (nhC s m r d s2 c h f free)]) ∧ Below w.heap.size w w' := by
  have hB := Below.refl w.heap.size w
  cases hp : pourB s m r d
  · have e0 : nhC s m r d s2 c h f free = 1 := by simp [nhC, hp]
    rw [show nhA s m r d s2 c h f free = 0 by simp [nhA, e0], show nhB s m r d s2 c h f free = 0 by simp [nhB, e0], e0]
    go_enter Try.func67, Try.ntmps67
    go_wp2_with (first | (go_at_call 94; refine (validPour_calls _ _ _ _ _ hs).mono ?_; rintro e w1 ⟨rfl, hb⟩; obtain ⟨hc, hf⟩ := bcell hb; have hz := hb.size; (try simp at hz); (try have hl0 : w.heap.size < w1.heap.size := by omega); (try have hl1 : w.heap.size + 1 < w1.heap.size := by omega); (try have hl2 : w.heap.size + 1 + 1 < w1.heap.size := by omega); replace hB : Below w.heap.size w w1 := Below.trans (by go_grown) (hb.mono (by go_size)); clear hb) | (go_at_call 95; refine (validCrucible_calls _ _ _ _ _ hs2).mono ?_; rintro e w1 ⟨rfl, hb⟩; obtain ⟨hc, hf⟩ := bcell hb; have hz := hb.size; (try simp at hz); (try have hl0 : w.heap.size < w1.heap.size := by omega); (try have hl1 : w.heap.size + 1 < w1.heap.size := by omega); (try have hl2 : w.heap.size + 1 + 1 < w1.heap.size := by omega); replace hB : Below w.heap.size w w1 := Below.trans (by go_grown) (hb.mono (by go_size)); clear hb) | (go_at_call 87; refine (within_calls _ _ _ _).mono ?_; rintro e w1 ⟨rfl, rfl⟩))
    all_goals
      go_ret3
      exact ⟨rfl, hB⟩
  · cases hc : crucB s2 c h f
    · have e0 : nhC s m r d s2 c h f free = 1 := by simp [nhC, hp, hc]
      rw [show nhA s m r d s2 c h f free = 0 by simp [nhA, e0], show nhB s m r d s2 c h f free = 0 by simp [nhB, e0], e0]
      go_enter Try.func67, Try.ntmps67
      go_wp2_with (first | (go_at_call 94; refine (validPour_calls _ _ _ _ _ hs).mono ?_; rintro e w1 ⟨rfl, hb⟩; obtain ⟨hc, hf⟩ := bcell hb; have hz := hb.size; (try simp at hz); (try have hl0 : w.heap.size < w1.heap.size := by omega); (try have hl1 : w.heap.size + 1 < w1.heap.size := by omega); (try have hl2 : w.heap.size + 1 + 1 < w1.heap.size := by omega); replace hB : Below w.heap.size w w1 := Below.trans (by go_grown) (hb.mono (by go_size)); clear hb) | (go_at_call 95; refine (validCrucible_calls _ _ _ _ _ hs2).mono ?_; rintro e w1 ⟨rfl, hb⟩; obtain ⟨hc, hf⟩ := bcell hb; have hz := hb.size; (try simp at hz); (try have hl0 : w.heap.size < w1.heap.size := by omega); (try have hl1 : w.heap.size + 1 < w1.heap.size := by omega); (try have hl2 : w.heap.size + 1 + 1 < w1.heap.size := by omega); replace hB : Below w.heap.size w w1 := Below.trans (by go_grown) (hb.mono (by go_size)); clear hb) | (go_at_call 87; refine (within_calls _ _ _ _).mono ?_; rintro e w1 ⟨rfl, rfl⟩))
      all_goals
        go_ret3
        exact ⟨rfl, hB⟩
    · obtain ⟨⟨m0, m1⟩, ⟨r0, r1⟩, d1⟩ := pourB_of hp
      obtain ⟨⟨k0, k1⟩, ⟨h0, h1⟩, ⟨f0, f1⟩⟩ := crucB_of hc
      cases hi : inB free f 10000
      · have e0 : nhC s m r d s2 c h f free = 2 := by simp [nhC, hp, hc, hi]
        rw [show nhA s m r d s2 c h f free = 0 by simp [nhA, e0], show nhB s m r d s2 c h f free = 0 by simp [nhB, e0], e0]
        go_enter Try.func67, Try.ntmps67
        go_wp2_with (first | (go_at_call 94; refine (validPour_calls _ _ _ _ _ hs).mono ?_; rintro e w1 ⟨rfl, hb⟩; obtain ⟨hc, hf⟩ := bcell hb; have hz := hb.size; (try simp at hz); (try have hl0 : w.heap.size < w1.heap.size := by omega); (try have hl1 : w.heap.size + 1 < w1.heap.size := by omega); (try have hl2 : w.heap.size + 1 + 1 < w1.heap.size := by omega); replace hB : Below w.heap.size w w1 := Below.trans (by go_grown) (hb.mono (by go_size)); clear hb) | (go_at_call 95; refine (validCrucible_calls _ _ _ _ _ hs2).mono ?_; rintro e w1 ⟨rfl, hb⟩; obtain ⟨hc, hf⟩ := bcell hb; have hz := hb.size; (try simp at hz); (try have hl0 : w.heap.size < w1.heap.size := by omega); (try have hl1 : w.heap.size + 1 < w1.heap.size := by omega); (try have hl2 : w.heap.size + 1 + 1 < w1.heap.size := by omega); replace hB : Below w.heap.size w w1 := Below.trans (by go_grown) (hb.mono (by go_size)); clear hb) | (go_at_call 87; refine (within_calls _ _ _ _).mono ?_; rintro e w1 ⟨rfl, rfl⟩))
        all_goals
          go_ret3
          exact ⟨rfl, hB⟩
      · obtain ⟨i0, i1⟩ := inB_iff.1 hi
        by_cases hm : c < m
        · have e0 : nhC s m r d s2 c h f free = 5 := by simp [nhC, hp, hc, hi, hm]
          rw [show nhA s m r d s2 c h f free = 0 by simp [nhA, e0], show nhB s m r d s2 c h f free = 0 by simp [nhB, e0], e0]
          go_enter Try.func67, Try.ntmps67
          go_wp2_with (first | (go_at_call 94; refine (validPour_calls _ _ _ _ _ hs).mono ?_; rintro e w1 ⟨rfl, hb⟩; obtain ⟨hc, hf⟩ := bcell hb; have hz := hb.size; (try simp at hz); (try have hl0 : w.heap.size < w1.heap.size := by omega); (try have hl1 : w.heap.size + 1 < w1.heap.size := by omega); (try have hl2 : w.heap.size + 1 + 1 < w1.heap.size := by omega); replace hB : Below w.heap.size w w1 := Below.trans (by go_grown) (hb.mono (by go_size)); clear hb) | (go_at_call 95; refine (validCrucible_calls _ _ _ _ _ hs2).mono ?_; rintro e w1 ⟨rfl, hb⟩; obtain ⟨hc, hf⟩ := bcell hb; have hz := hb.size; (try simp at hz); (try have hl0 : w.heap.size < w1.heap.size := by omega); (try have hl1 : w.heap.size + 1 < w1.heap.size := by omega); (try have hl2 : w.heap.size + 1 + 1 < w1.heap.size := by omega); replace hB : Below w.heap.size w w1 := Below.trans (by go_grown) (hb.mono (by go_size)); clear hb) | (go_at_call 87; refine (within_calls _ _ _ _).mono ?_; rintro e w1 ⟨rfl, rfl⟩))
          all_goals
            go_ret3
            exact ⟨rfl, hB⟩
        · rcases (show (r - h ≤ free ∧ nhS r h free = free) ∨ (free < r - h ∧ nhS r h free = r - h) by unfold nhS; omega) with ⟨q, hq⟩ | ⟨q, hq⟩
          all_goals
            by_cases hd : d < nhS r h free + h
            · have e0 : nhC s m r d s2 c h f free = 6 := by simp [nhC, hp, hc, hi, hm, hd]
              rw [show nhA s m r d s2 c h f free = 0 by simp [nhA, e0], show nhB s m r d s2 c h f free = 0 by simp [nhB, e0], e0]
              rw [hq] at hd
              clear hq
              all_goals first
                | (exfalso; omega)
                | (
                  go_enter Try.func67, Try.ntmps67
                  go_wp2_with (first | (go_at_call 94; refine (validPour_calls _ _ _ _ _ hs).mono ?_; rintro e w1 ⟨rfl, hb⟩; obtain ⟨hc, hf⟩ := bcell hb; have hz := hb.size; (try simp at hz); (try have hl0 : w.heap.size < w1.heap.size := by omega); (try have hl1 : w.heap.size + 1 < w1.heap.size := by omega); (try have hl2 : w.heap.size + 1 + 1 < w1.heap.size := by omega); replace hB : Below w.heap.size w w1 := Below.trans (by go_grown) (hb.mono (by go_size)); clear hb) | (go_at_call 95; refine (validCrucible_calls _ _ _ _ _ hs2).mono ?_; rintro e w1 ⟨rfl, hb⟩; obtain ⟨hc, hf⟩ := bcell hb; have hz := hb.size; (try simp at hz); (try have hl0 : w.heap.size < w1.heap.size := by omega); (try have hl1 : w.heap.size + 1 < w1.heap.size := by omega); (try have hl2 : w.heap.size + 1 + 1 < w1.heap.size := by omega); replace hB : Below w.heap.size w w1 := Below.trans (by go_grown) (hb.mono (by go_size)); clear hb) | (go_at_call 87; refine (within_calls _ _ _ _).mono ?_; rintro e w1 ⟨rfl, rfl⟩))
                  all_goals
                    go_ret3
                    exact ⟨rfl, hB⟩)
            · have e0 : nhC s m r d s2 c h f free = 0 := by simp [nhC, hp, hc, hi, hm, hd]
              rw [show nhA s m r d s2 c h f free = nhS r h free by simp [nhA, e0], show nhB s m r d s2 c h f free = nhS r h free + h by simp [nhB, e0], e0]
              rw [hq] at hd ⊢
              clear hq
              (try rw [Int.sub_add_cancel])
              go_enter Try.func67, Try.ntmps67
              go_wp2_with (first | (go_at_call 94; refine (validPour_calls _ _ _ _ _ hs).mono ?_; rintro e w1 ⟨rfl, hb⟩; obtain ⟨hc, hf⟩ := bcell hb; have hz := hb.size; (try simp at hz); (try have hl0 : w.heap.size < w1.heap.size := by omega); (try have hl1 : w.heap.size + 1 < w1.heap.size := by omega); (try have hl2 : w.heap.size + 1 + 1 < w1.heap.size := by omega); replace hB : Below w.heap.size w w1 := Below.trans (by go_grown) (hb.mono (by go_size)); clear hb) | (go_at_call 95; refine (validCrucible_calls _ _ _ _ _ hs2).mono ?_; rintro e w1 ⟨rfl, hb⟩; obtain ⟨hc, hf⟩ := bcell hb; have hz := hb.size; (try simp at hz); (try have hl0 : w.heap.size < w1.heap.size := by omega); (try have hl1 : w.heap.size + 1 < w1.heap.size := by omega); (try have hl2 : w.heap.size + 1 + 1 < w1.heap.size := by omega); replace hB : Below w.heap.size w w1 := Below.trans (by go_grown) (hb.mono (by go_size)); clear hb) | (go_at_call 87; refine (within_calls _ _ _ _).mono ?_; rintro e w1 ⟨rfl, rfl⟩))
              go_quiet (fail)
              go_wp2
              all_goals
                go_ret3
                exact ⟨by first | rfl | (rw [Int.sub_add_cancel]) | simp, by first | exact hB | exact below_drewN hB _⟩
set_option maxHeartbeats 2000000 in
theorem snext_calls (b o b2 o2 : Nat) (m r d c h free S x y z : Int) (w : World) (c1 : w.cell? ⟨b, o + 1, none⟩ = some (.int .i64 m)) (c2 : w.cell? ⟨b, o + 2, none⟩ = some (.int .i64 r)) (c3 : w.cell? ⟨b, o + 3, none⟩ = some (.int .i64 d)) (g1 : w.cell? ⟨b2, o2 + 1, none⟩ = some (.int .i64 c)) (g2 : w.cell? ⟨b2, o2 + 2, none⟩ = some (.int .i64 h))
    (r0 : 0 ≤ r) (r1 : r ≤ 10000) (h0 : 1 ≤ h) (h1 : h ≤ 10000) (i0 : 0 ≤ free) (i1 : free ≤ 10000) (hS : max free (r - h) = S)
    (hx : (c < m ∧ x = 0 ∧ y = 0 ∧ z = 5) ∨ (m ≤ c ∧ d < S + h ∧ x = 0 ∧ y = 0 ∧ z = 6) ∨ (m ≤ c ∧ S + h ≤ d ∧ x = S ∧ y = S + h ∧ z = 0)) :
    Calls Try.prog 58 #[.pointer (some ⟨b, o, none⟩), .pointer (some ⟨b2, o2, none⟩), .int .i64 free] w fun e w' => e = .returned (.tuple #[.int .i64 x, .int .i64 y, .int .i64 z]) ∧ ∃ n, w' = w.drewN n := by
  have hS0 : 0 ≤ S := by omega
  have hS1 : S ≤ 10000 := by omega
  have HC := Lib.hid (show ∀ (W : World) q, Calls Try.prog 93 #[.int .i64 free, .int .i64 (r - h)] (W.drewN q) (fun e w' => e = .returned (.int .i64 S) ∧ W.drewN q = w') from fun W q => by have hq := max_calls free (r - h) (W.drewN q); rwa [hS] at hq)
  clear hS
  have e1 : IntKind.i64.wrap (r - h) = r - h := IntWalk.i64_in _ ⟨by omega, by omega⟩
  have e2 : IntKind.i64.wrap (S + h) = S + h := IntWalk.i64_in _ ⟨by omega, by omega⟩
  rcases hx with ⟨p, rfl, rfl, rfl⟩ | ⟨p, q, rfl, rfl, rfl⟩ | ⟨p, q, rfl, rfl, rfl⟩
  · go_enter Try.func58, Try.ntmps58
    go_wp2_with fail
    go_quiet (fail)
    go_wp2
    go_ret3
    exact ⟨rfl, _, rfl⟩
  · go_enter Try.func58, Try.ntmps58
    go_wp2_with fail
    go_quiet (fail)
    go_wp2_with fail
    refine wp_gen (fun W1 hW1 => ?_)
    have d1 : W1.cell? ⟨b, o + 1, none⟩ = some (.int .i64 m) := by rw [hW1]; exact c1
    have d2 : W1.cell? ⟨b, o + 2, none⟩ = some (.int .i64 r) := by rw [hW1]; exact c2
    have d3 : W1.cell? ⟨b, o + 3, none⟩ = some (.int .i64 d) := by rw [hW1]; exact c3
    have k2 : W1.cell? ⟨b2, o2 + 2, none⟩ = some (.int .i64 h) := by rw [hW1]; exact g2
    have HW := Lib.hid hW1
    clear hW1 c1 c2 c3 g2
    go_quiet ((go_at_call 93; exact quiet_left (HC.out _ _)))
    go_wp2_with fail
    go_quiet (fail)
    go_wp2
    go_ret3
    refine ⟨rfl, ?_⟩
    rw [HW.out]
    simp only [World.drewN_drewN]
    exact ⟨_, rfl⟩
  · go_enter Try.func58, Try.ntmps58
    go_wp2_with fail
    go_quiet (fail)
    go_wp2_with fail
    refine wp_gen (fun W1 hW1 => ?_)
    have d1 : W1.cell? ⟨b, o + 1, none⟩ = some (.int .i64 m) := by rw [hW1]; exact c1
    have d2 : W1.cell? ⟨b, o + 2, none⟩ = some (.int .i64 r) := by rw [hW1]; exact c2
    have d3 : W1.cell? ⟨b, o + 3, none⟩ = some (.int .i64 d) := by rw [hW1]; exact c3
    have k2 : W1.cell? ⟨b2, o2 + 2, none⟩ = some (.int .i64 h) := by rw [hW1]; exact g2
    have HW := Lib.hid hW1
    clear hW1 c1 c2 c3 g2
    go_quiet ((go_at_call 93; exact quiet_left (HC.out _ _)))
    go_wp2_with fail
    go_quiet (fail)
    go_wp2_with fail
    go_quiet (fail)
    go_wp2
    go_ret3
    refine ⟨rfl, ?_⟩
    rw [HW.out]
    simp only [World.drewN_drewN]
    exact ⟨_, rfl⟩
theorem nh_cases {s : ByteArray} {m r d : Int} {s2 : ByteArray} {c h f free : Int} (hp : pourB s m r d = true) (hc : crucB s2 c h f = true) (hi : inB free f 10000 = true) :
    (c < m ∧ nhA s m r d s2 c h f free = 0 ∧ nhB s m r d s2 c h f free = 0 ∧ nhC s m r d s2 c h f free = 5) ∨ (m ≤ c ∧ d < nhS r h free + h ∧ nhA s m r d s2 c h f free = 0 ∧ nhB s m r d s2 c h f free = 0 ∧ nhC s m r d s2 c h f free = 6) ∨ (m ≤ c ∧ nhS r h free + h ≤ d ∧ nhA s m r d s2 c h f free = nhS r h free ∧ nhB s m r d s2 c h f free = nhS r h free + h ∧ nhC s m r d s2 c h f free = 0) := by
  by_cases hm : c < m
  · have e0 : nhC s m r d s2 c h f free = 5 := by simp [nhC, hp, hc, hi, hm]
    exact .inl ⟨hm, by simp [nhA, e0], by simp [nhB, e0], e0⟩
  · by_cases hd : d < nhS r h free + h
    · have e0 : nhC s m r d s2 c h f free = 6 := by simp [nhC, hp, hc, hi, hm, hd]
      exact .inr (.inl ⟨by omega, hd, by simp [nhA, e0], by simp [nhB, e0], e0⟩)
    · have e0 : nhC s m r d s2 c h f free = 0 := by simp [nhC, hp, hc, hi, hm, hd]
      exact .inr (.inr ⟨by omega, by omega, by simp [nhA, e0], by simp [nhB, e0], e0⟩)
theorem grown2 (w : World) (o1 o2 : Obj) : Below w.heap.size w ((w.alloc o1).alloc o2) := ((Below.refl _ _).alloc (Nat.le_refl _) _).alloc (by simp) _
end Go.Proofs.Ytonoeohmpaegdaa
