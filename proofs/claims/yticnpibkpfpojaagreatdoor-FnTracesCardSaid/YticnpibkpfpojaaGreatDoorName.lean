/- Names: IsName and the reference's l01Name decide the same of every text: 1 to 10 bytes, a small letter first, then small letters and digits. For every string that the model can hold. -/
import Derived.Test.YticnpibkpfpojaaGreatDoorBase
import Derived.Lib.ConvBytes
import Derived.Lib.Strings
namespace Go.Proofs.YticnpibkpfpojaaGreatDoor
set_option linter.unusedVariables false
open Go.RowKit

/-- Byte k of a text as a number; 0 behind its end. -/
def bt (s : ByteArray) (k : Nat) : Int := if h : k < s.size then ((s[k]'h).toNat : Int) else 0
theorem get_bt (s : ByteArray) : ∀ (n : Nat) (h : n < s.size), ((s[n]'h).toNat : Int) = bt s n := fun n h => by unfold bt; rw [dif_pos h]
theorem bt_nonneg (s : ByteArray) (k : Nat) : 0 ≤ bt s k := by unfold bt; split <;> omega
theorem bt_le (s : ByteArray) (k : Nat) : bt s k ≤ 255 := by
  unfold bt; split
  · have := (s[k]).toNat_lt; omega
  · omega
theorem bt_list (s : ByteArray) (k : Nat) : (((s.data.toList.getD k 0).toNat : Nat) : Int) = bt s k := by
  unfold bt
  split
  · rename_i h
    have : s.data.toList.getD k 0 = s[k] := by
      rw [List.getD_eq_getElem?_getD, List.getElem?_eq_getElem (by simpa using h)]
      rfl
    rw [this]
  · rename_i h
    have : s.data.toList.getD k 0 = 0 := by
      rw [List.getD_eq_getElem?_getD, List.getElem?_eq_none (by simpa using h)]
      rfl
    rw [this]; rfl

def okAt (s : ByteArray) (k : Nat) : Prop := (97 ≤ bt s k ∧ bt s k ≤ 122) ∨ (k ≠ 0 ∧ 48 ≤ bt s k ∧ bt s k ≤ 57)
def nameP (s : ByteArray) : Prop := 1 ≤ s.size ∧ s.size ≤ 10 ∧ ∀ k, k < s.size → okAt s k
/-- Is s a name? -/
noncomputable def nameB (s : ByteArray) : Bool := @decide (nameP s) (Classical.propDecidable _)
theorem nameB_yes {s : ByteArray} (h : nameP s) : nameB s = true := @decide_eq_true _ (Classical.propDecidable _) h
theorem nameB_no {s : ByteArray} (h : ¬ nameP s) : nameB s = false := @decide_eq_false _ (Classical.propDecidable _) h
theorem nameB_of {s : ByteArray} (h : nameB s = true) : nameP s := @of_decide_eq_true _ (Classical.propDecidable _) h
theorem not_name_size {s : ByteArray} (h : s.size < 1 ∨ 10 < s.size) : nameB s = false := nameB_no fun ⟨a, b, _⟩ => by omega
theorem not_name_at {s : ByteArray} {k : Nat} (hk : k < s.size) (h : ¬ okAt s k) : nameB s = false := nameB_no fun ⟨_, _, c⟩ => h (c k hk)
theorem okAt_iff {s : ByteArray} {k : Nat} : okAt s k ↔ (97 ≤ bt s k ∧ bt s k ≤ 122) ∨ (k ≠ 0 ∧ 48 ≤ bt s k ∧ bt s k ≤ 57) := Iff.rfl
theorem all_next {p : Nat → Prop} {k : Nat} (h : ∀ j, j < k → p j) (hk : p k) : ∀ j, j < k + 1 → p j := fun j hj => by
  rcases Nat.lt_or_ge j k with h1 | h1
  · exact h j h1
  · obtain rfl : j = k := by omega
    exact hk

theorem below_bytes (w : World) (e : TypeId) (s : ByteArray) : Below w.heap.size w (Lib.bytesWorld w e s) :=
  ⟨rfl, rfl, rfl, by rw [Lib.bytesWorld_size]; omega, fun k hk => Lib.bytesWorld_at_old w e s k hk⟩

set_option maxRecDepth 100000 in
set_option maxHeartbeats 800000 in
theorem isName_calls (s : ByteArray) (w : World) (hs : s.size ≤ maxLen) :
    Calls Tryz.prog 52 #[.string s] w fun e w' => e = .returned (.bool (nameB s)) ∧ Below w.heap.size w w' := by
  unfold maxLen at hs
  by_cases h1 : s.size < 1
  · have hn := Lib.hid (not_name_size (.inl h1))
    go_enter Tryz.func52, Tryz.ntmps52
    go_wp2
    go_ret
    exact ⟨ret_bool hn.out.symm, Below.refl _ _⟩
  · by_cases h2 : 10 < s.size
    · have hn := Lib.hid (not_name_size (.inr h2))
      go_enter Tryz.func52, Tryz.ntmps52
      go_wp2
      go_ret
      exact ⟨ret_bool hn.out.symm, Below.refl _ _⟩
    · have hconv := Lib.run_convert_string_bytes (P := Tryz.prog) w 9 22 5 s Tryz.underlying9 Tryz.underlying22 Tryz.underlying5
      have hb := Lib.hid (below_bytes w 5 s)
      have hc : ∀ k, k < s.size → (Lib.bytesWorld w 5 s).cell? ⟨w.heap.size, k, none⟩ = some (.int .u8 (bt s k)) := fun k hk => by rw [Lib.bytesWorld_cell w _ s k hk, bt_list]
      have HC := Lib.hid hc
      clear hc
      generalize Lib.bytesWorld w 5 s = W1 at *
      generalize grownCap w s.size 0 5 = cap at *
      go_enter Tryz.func52, Tryz.ntmps52
      go_wp2
      clear hconv
      go_loop [18] (fun i => ∃ k : Nat, k ≤ s.size ∧ i = .int .i64 k ∧ Hid (∀ j, j < k → okAt s j)) (fun i => s.size - (intOf i).toNat)
      case atStart => exact ⟨0, by omega, rfl, fun j hj => by omega⟩
      case round =>
        obtain ⟨k, hk, rfl, ho⟩ := hrel
        by_cases hlt : k < s.size
        · have hcell := HC.out k hlt
          have hok := Lib.hid (okAt_iff (s := s) (k := k))
          have b0 := bt_nonneg s k
          have b1 := bt_le s k
          generalize bt s k = c at *
          have hk0 : k = 0 ∨ ((k : Int) == 0) = false := by
            rcases Nat.eq_zero_or_pos k with h | h
            · exact .inl h
            · exact .inr (beq_eq_false_iff_ne.2 (by omega))
          by_cases hA : 97 ≤ c
          · by_cases hA2 : c ≤ 122
            ·
              have hok2 := Lib.hid (hok.out.2 (by first | omega | (have := beq_eq_false_iff_ne.1 hk0; omega)))
              clear hok
              go_wp2
              go_round
              case rel => exact ⟨k + 1, by omega, by go_num, all_next ho.out hok2.out⟩
              case measure => simp [intOf]; omega
            ·
              have e1 : decide (48 ≤ c) = true := by simp; omega
              have e2 : decide (c ≤ 57) = false := by simp; omega
              rcases hk0 with rfl | hk0
              ·
                have hn := Lib.hid (not_name_at hlt (fun h => by have := hok.out.1 h; omega))
                clear hok
                go_wp2
                go_ret
                exact ⟨ret_bool hn.out.symm, hb.out⟩
              ·
                have hn := Lib.hid (not_name_at hlt (fun h => by have := hok.out.1 h; omega))
                clear hok
                go_wp2
                go_ret
                exact ⟨ret_bool hn.out.symm, hb.out⟩
          · by_cases hD : 48 ≤ c
            · by_cases hD2 : c ≤ 57
              · rcases hk0 with rfl | hk0
                ·
                  have hn := Lib.hid (not_name_at hlt (fun h => by have := hok.out.1 h; omega))
                  clear hok
                  go_wp2
                  go_ret
                  exact ⟨ret_bool hn.out.symm, hb.out⟩
                ·
                  have hok2 := Lib.hid (hok.out.2 (by first | omega | (have := beq_eq_false_iff_ne.1 hk0; omega)))
                  clear hok
                  go_wp2
                  go_round
                  case rel => exact ⟨k + 1, by omega, by go_num, all_next ho.out hok2.out⟩
                  case measure => simp [intOf]; omega
              ·
                rcases hk0 with rfl | hk0
                ·
                  have hn := Lib.hid (not_name_at hlt (fun h => by have := hok.out.1 h; omega))
                  clear hok
                  go_wp2
                  go_ret
                  exact ⟨ret_bool hn.out.symm, hb.out⟩
                ·
                  have hn := Lib.hid (not_name_at hlt (fun h => by have := hok.out.1 h; omega))
                  clear hok
                  go_wp2
                  go_ret
                  exact ⟨ret_bool hn.out.symm, hb.out⟩
            ·
              rcases hk0 with rfl | hk0
              ·
                have hn := Lib.hid (not_name_at hlt (fun h => by have := hok.out.1 h; omega))
                clear hok
                go_wp2
                go_ret
                exact ⟨ret_bool hn.out.symm, hb.out⟩
              ·
                have hn := Lib.hid (not_name_at hlt (fun h => by have := hok.out.1 h; omega))
                clear hok
                go_wp2
                go_ret
                exact ⟨ret_bool hn.out.symm, hb.out⟩
        · have hn := Lib.hid (nameB_yes (s := s) ⟨by omega, by omega, fun j hj => ho.out j (by omega)⟩)
          go_wp2
          go_ret
          exact ⟨ret_bool hn.out.symm, hb.out⟩

set_option maxHeartbeats 400000 in
theorem small_calls (c : Int) (w : World) :
    Calls Tryz.prog 126 #[.int .u8 c] w fun e w' => e = .returned (.bool (inB c 97 122)) ∧ w = w' := by
  by_cases h1 : 97 ≤ c
  · by_cases h2 : c ≤ 122
    · rw [inB_yes h1 h2]
      go_enter Tryz.func126, Tryz.ntmps126
      go_wp2
      go_ret
      exact ⟨rfl, rfl⟩
    · rw [inB_no (by omega)]
      go_enter Tryz.func126, Tryz.ntmps126
      go_wp2
      go_ret
      exact ⟨rfl, rfl⟩
  · rw [inB_no (by omega)]
    go_enter Tryz.func126, Tryz.ntmps126
    go_wp2
    go_ret
    exact ⟨rfl, rfl⟩

set_option maxHeartbeats 400000 in
theorem digit_calls (c : Int) (w : World) :
    Calls Tryz.prog 127 #[.int .u8 c] w fun e w' => e = .returned (.bool (inB c 48 57)) ∧ w = w' := by
  by_cases h1 : 48 ≤ c
  · by_cases h2 : c ≤ 57
    · rw [inB_yes h1 h2]
      go_enter Tryz.func127, Tryz.ntmps127
      go_wp2
      go_ret
      exact ⟨rfl, rfl⟩
    · rw [inB_no (by omega)]
      go_enter Tryz.func127, Tryz.ntmps127
      go_wp2
      go_ret
      exact ⟨rfl, rfl⟩
  · rw [inB_no (by omega)]
    go_enter Tryz.func127, Tryz.ntmps127
    go_wp2
    go_ret
    exact ⟨rfl, rfl⟩

theorem toList_empty {s : ByteArray} (h : s.size = 0) : s.toList = [] := by
  have : s.toList.length = 0 := by rw [Lib.toList_data]; simpa using h
  exact List.eq_nil_of_length_eq_zero this
set_option maxRecDepth 100000 in
set_option maxHeartbeats 800000 in
theorem sname_calls (s : ByteArray) (w : World) (hs : s.size ≤ maxLen) :
    Calls Tryz.prog 93 #[.string s] w fun e w' => e = .returned (.bool (nameB s)) ∧ w = w' := by
  unfold maxLen at hs
  by_cases h1 : s.size < 1
  · have hn := Lib.hid (not_name_size (.inl h1))
    have e1 := toList_empty (s := s) (by omega)
    go_enter Tryz.func93, Tryz.ntmps93
    go_wp2
    go_ret
    exact ⟨ret_bool hn.out.symm, rfl⟩
  · have e1 : s.toList ≠ [] := fun h => by
      have h3 : s.data.toList = [] := by rw [← Lib.toList_data]; exact h
      have h4 : s.size = 0 := by
        show s.data.size = 0
        rw [← Array.length_toList, h3]; rfl
      omega
    have e2 : s.toList.isEmpty = false := by simpa using e1
    by_cases h2 : 10 < s.size
    · have hn := Lib.hid (not_name_size (.inr h2))
      go_enter Tryz.func93, Tryz.ntmps93
      go_wp2
      go_ret
      exact ⟨ret_bool hn.out.symm, rfl⟩
    · have hbt := get_bt s
      have h0 : 0 < s.size := by omega
      cases hf : inB (bt s 0) 97 122
      · have hn := Lib.hid (not_name_at (s := s) (k := 0) h0 (by rw [okAt_iff]; have := inB_iff'.1 hf; omega))
        go_enter Tryz.func93, Tryz.ntmps93
        go_wp2_with (first | (go_at_call 126; refine (small_calls _ _).mono ?_; rintro e w' ⟨rfl, rfl⟩) | (go_at_call 127; refine (digit_calls _ _).mono ?_; rintro e w' ⟨rfl, rfl⟩))
        go_ret
        exact ⟨ret_bool hn.out.symm, rfl⟩
      · have h00 := Lib.hid (inB_iff.1 hf)
        go_enter Tryz.func93, Tryz.ntmps93
        go_wp2_with (first | (go_at_call 126; refine (small_calls _ _).mono ?_; rintro e w' ⟨rfl, rfl⟩) | (go_at_call 127; refine (digit_calls _ _).mono ?_; rintro e w' ⟨rfl, rfl⟩))
        go_loop [3] (fun i => ∃ k : Nat, k ≤ s.size ∧ i = .int .i64 k ∧ Hid (∀ j, j < k → okAt s j)) (fun i => s.size - (intOf i).toNat)
        case atStart => exact ⟨0, by omega, rfl, fun j hj => by omega⟩
        case round =>
          obtain ⟨k, hk, rfl, ho⟩ := hrel
          by_cases hlt : k < s.size
          · cases hS : inB (bt s k) 97 122
            · cases hD : inB (bt s k) 48 57
              · have hn := Lib.hid (not_name_at (s := s) (k := k) hlt (by rw [okAt_iff]; have := inB_iff'.1 hS; have := inB_iff'.1 hD; omega))
                go_wp2_with (first | (go_at_call 126; refine (small_calls _ _).mono ?_; rintro e w' ⟨rfl, rfl⟩) | (go_at_call 127; refine (digit_calls _ _).mono ?_; rintro e w' ⟨rfl, rfl⟩))
                go_ret
                exact ⟨ret_bool hn.out.symm, rfl⟩
              · have hok := Lib.hid (show okAt s k from by
                  have q := inB_iff.1 hD
                  rcases Nat.eq_zero_or_pos k with h | h
                  · subst h; rw [hf] at hS; cases hS
                  · exact .inr ⟨by omega, q⟩)
                go_wp2_with (first | (go_at_call 126; refine (small_calls _ _).mono ?_; rintro e w' ⟨rfl, rfl⟩) | (go_at_call 127; refine (digit_calls _ _).mono ?_; rintro e w' ⟨rfl, rfl⟩))
                go_round
                case rel => exact ⟨k + 1, by omega, by go_num, all_next ho.out hok.out⟩
                case measure => simp [intOf]; omega
            · have hok := Lib.hid (show okAt s k from .inl (inB_iff.1 hS))
              go_wp2_with (first | (go_at_call 126; refine (small_calls _ _).mono ?_; rintro e w' ⟨rfl, rfl⟩) | (go_at_call 127; refine (digit_calls _ _).mono ?_; rintro e w' ⟨rfl, rfl⟩))
              go_round
              case rel => exact ⟨k + 1, by omega, by go_num, all_next ho.out hok.out⟩
              case measure => simp [intOf]; omega
          · have hn := Lib.hid (nameB_yes (s := s) ⟨by omega, by omega, fun j hj => ho.out j (by omega)⟩)
            go_wp2
            go_ret
            exact ⟨ret_bool hn.out.symm, rfl⟩

end Go.Proofs.YticnpibkpfpojaaGreatDoor
