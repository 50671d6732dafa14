/- A number read by the library, as the program reads it; a text cut by the library. -/
import Derived.Test.YtflhkldfhndafaaGreatDoorLib
import Derived.Test.YtflhkldfhndafaaGreatDoorNumS
namespace Go.Proofs.YtflhkldfhndafaaGreatDoor
set_option linter.unusedVariables false
open Go.RowKit

theorem toList_ne {a b : ByteArray} (h : a ≠ b) : (a.toList == b.toList) = false := by
  apply beq_eq_false_iff_ne.2
  rw [Lib.toList_data, Lib.toList_data]
  intro e
  exact h (ba_eq e)
/-- a number that was not read, and an error -/
abbrev ErrRet (w : World) (e : Ending) (w' : World) : Prop := ∃ (x : Int) (t : TypeId) (N : Nat), e = .returned (.tuple #[.int .i64 x, .iface t (.pointer (some ⟨N, 0, none⟩))]) ∧ Below w.heap.size w w'
theorem below_bw {w w' : World} {t : TypeId} (h : w' = w ∨ ∃ x, w' = Lib.bytesWorld w t x) : Below w.heap.size w w' := by
  rcases h with rfl | ⟨x, rfl⟩
  · exact Below.refl _ _
  · exact below_bytes _ _ _
set_option maxHeartbeats 4000000 in
theorem ReadDecimal_calls (s : ByteArray) (w : World) (hs : s.size ≤ 1048576) (hL : HasLib w) :
    Calls Tryz.prog 35 #[.string s] w fun e w' => e = .returned (numOut (bl s)) ∧ Below w.heap.size w w' := by
  obtain ⟨T, hT⟩ : ∃ T, T = tx (magL (bl s)) := ⟨_, rfl⟩
  have hTs : T.size = (magL (bl s)).length := by rw [hT, ← bl_len, bl_tx]
  have HTP : Hid (Calls Tryz.prog 47 #[.string s, .string ⟨#[45]⟩] w fun e w' => e = .returned (.string T) ∧ w = w') := Lib.hid ((Tryz.strings_TrimPrefix s ⟨#[45]⟩ w).mono fun e w' ⟨h1, h2⟩ => ⟨by rw [h1, hT]; rfl, h2.symm⟩)
  have HL := Lib.hid hL
  clear hL hT
  by_cases h1 : T.size < 1
  · have HN := Lib.hid (numOut_none (numO_long (l := bl s) (by omega)))
    go_enter Tryz.func35, Tryz.ntmps35
    go_wp2_with (go_at_call 47; with_reducible refine HTP.out.mono ?_; rintro e w1 ⟨rfl, rfl⟩)
    refine bodyPost_ret (v := .tuple #[.int .i64 0, .bool false]) (by simp [results, Tryz.results35, go_sem]) rfl ?_
    exact ⟨by rw [HN.out], Below.refl _ _⟩
  · by_cases h2 : 18 < T.size
    · have HN := Lib.hid (numOut_none (numO_long (l := bl s) (by omega)))
      go_enter Tryz.func35, Tryz.ntmps35
      go_wp2_with (go_at_call 47; with_reducible refine HTP.out.mono ?_; rintro e w1 ⟨rfl, rfl⟩)
      refine bodyPost_ret (v := .tuple #[.int .i64 0, .bool false]) (by simp [results, Tryz.results35, go_sem]) rfl ?_
      exact ⟨by rw [HN.out], Below.refl _ _⟩
    · rcases hp : Lib.parseIntB 64 (bl s) with v | _ | _
      · obtain ⟨v0, v1⟩ := Lib.parseIntB_bounds hp
        have v0' : -9223372036854775808 ≤ v := v0
        have v1' : v ≤ 9223372036854775807 := by
          have e : ((2 ^ (64 - 1) : Nat) : Int) = 9223372036854775808 := by decide
          rw [e] at v1
          omega
        have HP := Lib.hid ((Tryz.strconv_ParseInt_10_at64_ok s (by omega) v hp w).mono fun e w' ⟨h1, h2⟩ => And.intro h1 (below_bw h2))
        have HO := numO_parsed hp (by omega)
        clear v0 v1 hp
        have HD : ∀ W, Below w.heap.size w W → Calls Tryz.prog 39 #[.int .i64 v] W fun e w' => e = .returned (.string ⟨(Lib.itoa v).toArray⟩) ∧ Below W.heap.size W w' := fun W hb => Decimal_calls v W v0' v1' (HL.out.keep hb).1
        by_cases q : Lib.itoa v = bl s
        · have e : (⟨(Lib.itoa v).toArray⟩ : ByteArray) = s := by rw [q]
          rw [if_pos q] at HO
          have HN := Lib.hid (numOut_some HO)
          rw [e] at HD
          clear HO e
          go_enter Tryz.func35, Tryz.ntmps35
          go_wp2_with (first
            | (go_at_call 47; with_reducible refine HTP.out.mono ?_; rintro e w1 ⟨rfl, rfl⟩)
            | (go_at_call 48; with_reducible refine HP.out.mono ?_; rintro e w1 ⟨rfl, hb1⟩)
            | (go_at_call 39; with_reducible refine (HD _ hb1).mono ?_; rintro e w2 ⟨rfl, hb2⟩; have hb3 := hb1.trans (hb2.mono hb1.size)))
          refine bodyPost_ret (v := .tuple #[.int .i64 v, .bool true]) (by simp [results, Tryz.results35, go_sem]) rfl ?_
          exact ⟨by rw [HN.out], hb3⟩
        · obtain ⟨D, hD⟩ : ∃ D : ByteArray, D = ⟨(Lib.itoa v).toArray⟩ := ⟨_, rfl⟩
          have e : ¬ D = s := fun h => q (by rw [← h, hD])
          have e2 : (D.toList == s.toList) = false := toList_ne e
          rw [if_neg q] at HO
          have HN := Lib.hid (numOut_none HO)
          rw [← hD] at HD
          clear HO q hD
          go_enter Tryz.func35, Tryz.ntmps35
          go_wp2_with (first
            | (go_at_call 47; with_reducible refine HTP.out.mono ?_; rintro e w1 ⟨rfl, rfl⟩)
            | (go_at_call 48; with_reducible refine HP.out.mono ?_; rintro e w1 ⟨rfl, hb1⟩)
            | (go_at_call 39; with_reducible refine (HD _ hb1).mono ?_; rintro e w2 ⟨rfl, hb2⟩; have hb3 := hb1.trans (hb2.mono hb1.size)))
          refine bodyPost_ret (v := .tuple #[.int .i64 0, .bool false]) (by simp [results, Tryz.results35, go_sem]) rfl ?_
          exact ⟨by rw [HN.out], hb3⟩
      · have HN := Lib.hid (numOut_none (numO_unparsed (l := bl s) (fun v h => by rw [hp] at h; cases h)))
        obtain ⟨-, -, ⟨tp, p, hv⟩, -⟩ := HL.out
        have HP := Lib.hid ((Tryz.strconv_ParseInt_10_at64_syntax_var s (by omega) hp tp p w hv).mono (R' := ErrRet w) fun e w' ⟨N, h1, _, _, h4⟩ => ⟨_, _, _, h1, h4⟩)
        clear hp hv
        go_enter Tryz.func35, Tryz.ntmps35
        go_wp2_with (first
          | (go_at_call 47; with_reducible refine HTP.out.mono ?_; rintro e w1 ⟨rfl, rfl⟩)
          | (go_at_call 48; with_reducible refine HP.out.mono ?_; rintro e w1 ⟨x, tt, N, rfl, hb1⟩))
        refine bodyPost_ret (v := .tuple #[.int .i64 0, .bool false]) (by simp [results, Tryz.results35, go_sem]) rfl ?_
        exact ⟨by rw [HN.out], hb1⟩
      · have HN := Lib.hid (numOut_none (numO_unparsed (l := bl s) (fun v h => by rw [hp] at h; cases h)))
        obtain ⟨-, -, -, ⟨tp, p, hv⟩⟩ := HL.out
        have HP := Lib.hid ((Tryz.strconv_ParseInt_10_at64_range_var s (by omega) hp tp p w hv).mono (R' := ErrRet w) fun e w' ⟨N, h1, _, _, h4⟩ => ⟨_, _, _, h1, h4⟩)
        clear hp hv
        go_enter Tryz.func35, Tryz.ntmps35
        go_wp2_with (first
          | (go_at_call 47; with_reducible refine HTP.out.mono ?_; rintro e w1 ⟨rfl, rfl⟩)
          | (go_at_call 48; with_reducible refine HP.out.mono ?_; rintro e w1 ⟨x, tt, N, rfl, hb1⟩))
        refine bodyPost_ret (v := .tuple #[.int .i64 0, .bool false]) (by simp [results, Tryz.results35, go_sem]) rfl ?_
        exact ⟨by rw [HN.out], hb1⟩
/-- a text cut at the first of a byte -/
theorem Cut_calls (s : ByteArray) (c : UInt8) (w : World) (hs : s.size ≤ 1048576) (hL : HasLib w) :
    Calls Tryz.prog 21 #[.string s, .string ⟨#[c]⟩] w fun e w' => e = .returned (.tuple #[.string (tx (Lib.cut (bl s) [c]).1), .string (tx (Lib.cut (bl s) [c]).2.1), .bool (Lib.cut (bl s) [c]).2.2]) ∧ Below w.heap.size w w' := by
  obtain ⟨-, ⟨m, hm⟩, -, -⟩ := hL
  exact (Tryz.strings_Cut s ⟨#[c]⟩ m w (by omega) hm).mono fun e w' ⟨h1, n, h2⟩ => ⟨h1, by rw [h2]; exact below_drewN (Below.refl _ _) n⟩
/-- .. at all of a byte -/
theorem Split_calls (s : ByteArray) (c : UInt8) (w : World) (hs : s.size ≤ 1048576) (hL : HasLib w) :
    Calls Tryz.prog 34 #[.string s, .string ⟨#[c]⟩] w fun e w' => e = .returned (.slice (some ⟨w.heap.size, 0, none⟩) (splC c (bl s)).length (splC c (bl s)).length) ∧ TxAt w' w.heap.size (splC c (bl s)) ∧ Below w.heap.size w w' := by
  obtain ⟨-, ⟨m, hm⟩, -, -⟩ := hL
  have hc : Lib.countB s ⟨#[c]⟩ = (bl s).count c := Lib.count_one c (bl s)
  have hd : (Lib.splitB ⟨#[c]⟩ 0 (Lib.countB s ⟨#[c]⟩) s).map (·.data.toList) = splC c (bl s) := by
    rw [Lib.splitB_data, hc]
    exact split_eq c (bl s)
  have hl : Lib.countB s ⟨#[c]⟩ + 1 = (splC c (bl s)).length := by
    rw [← hd, List.length_map]
    exact (Lib.splitB_all ⟨#[c]⟩ (Nat.le_refl 1) 0 _ s rfl).symm
  refine (Tryz.strings_Split s ⟨#[c]⟩ m w (by omega) hm (Nat.le_refl 1)).mono ?_
  rintro e w' ⟨rfl, rfl⟩
  rw [hl]
  refine ⟨rfl, ⟨by simp, fun i x hx => ?_⟩, (Below.refl _ _).alloc (Nat.le_refl _) _⟩
  rw [← hd] at hx
  simp only [List.getElem?_map, Option.map_eq_some_iff] at hx
  obtain ⟨y, hy, rfl⟩ := hx
  simp [hy]
end Go.Proofs.YtflhkldfhndafaaGreatDoor
