/- Bells and the melts of their shares: do all exist; how much of a melt is taken. -/
import Derived.Test.YticnpibkpfpojaaGreatDoorMeltN
import Derived.Test.YticnpibkpfpojaaGreatDoorBells
import Derived.Test.YticnpibkpfpojaaGreatDoorKin
namespace Go.Proofs.YticnpibkpfpojaaGreatDoor
set_option linter.unusedVariables false
open Go.RowKit

/-- do the melts of a bell exist? -/
def knownB (ids : Nat → ByteArray) (m : Nat) (x : BellV) : Bool := allB (fun k => hasId ids m (x.ss k)) x.n
def allKnown (ids : Nat → ByteArray) (m : Nat) (f : Nat → BellV) (n : Nat) : Bool := allB (fun i => knownB ids m (f i)) n
set_option maxRecDepth 20000 in
set_option maxHeartbeats 4000000 in
theorem haveMelts_calls (B : Option Addr) (m d : Nat) (g : Nat → MeltV) (A : Option Addr) (n c : Nat) (f : Nat → BellV) (w : World) (h2 : MeltRow w B m g) (hm : m ≤ 1048576) (hs : Srt (fun q => (g q).id) m) (h : BellRow w A n f) (hn : n ≤ 1048576) (hfn : ∀ i, i < n → (f i).n ≤ 1048576) :
    Calls Tryz.prog 23 #[.slice B m d, .slice A n c] w fun e w' => e = .returned (.bool (allKnown (fun q => (g q).id) m f n)) ∧ Below w.heap.size w w' := by
  generalize hres : allKnown (fun q => (g q).id) m f n = R
  have HRES := Lib.hid hres
  have H := Lib.hid h
  have HM := Lib.hid h2
  have HS := Lib.hid hs
  have HFN := Lib.hid hfn
  clear h h2 hs hres hfn
  go_enter Tryz.func23, Tryz.ntmps23
  go_wp2
  go_loopw [13] (fun i wr => ∃ k : Nat, k ≤ n ∧ i = .int .i64 k ∧ Hid (allKnown (fun q => (g q).id) m f k = true) ∧ Below w.heap.size w wr) (fun i _ => n - (intOf i).toNat)
  case atStart => exact ⟨0, by omega, rfl, rfl, Below.refl _ _⟩
  case round =>
    obtain ⟨k, hk, rfl, hgood, hbr⟩ := hrel
    by_cases hlt : k < n
    · obtain ⟨b, o, rfl, hrow⟩ := H.out (by omega)
      obtain ⟨AK, CK, c0, c1, c2, c3, c4, -⟩ := (hrow k hlt).keep hbr
      obtain ⟨AK2, CK2, -, -, -, -, d4, d5⟩ := hrow k hlt
      have d4' := cell_keep hbr d4
      obtain ⟨rfl, rfl⟩ : AK = AK2 ∧ CK = CK2 := by rw [c4] at d4'; simpa using d4'
      have HR := Lib.hid hrow
      have D5 := Lib.hid d5
      have hfk := HFN.out k hlt
      have HB1 := Lib.hid (hbr.alloc hbr.size (.cells #[.string (f k).id, .int .i64 (f k).no, .int .i64 (f k).ma, .int .i64 (f k).fe, .slice AK (f k).n CK] 28))
      clear hrow d4 d4' d5
      go_wp2
      go_loopw [20] (fun i wr => ∃ j : Nat, j ≤ (f k).n ∧ i = .int .i64 j ∧ Hid (allB (fun j => hasId (fun q => (g q).id) m ((f k).ss j)) j = true) ∧ Below w.heap.size w wr) (fun i _ => (f k).n - (intOf i).toNat)
      case atStart => exact ⟨0, by omega, rfl, rfl, HB1.out⟩
      case round =>
        clear hbr c0 c1 c2 c3 c4 HB1
        obtain ⟨j, hj, rfl, hgood2, hbr⟩ := hrel
        by_cases hlt2 : j < (f k).n
        · obtain ⟨b2, o2, rfl, hrow2⟩ := D5.out (by omega)
          obtain ⟨e0, e1⟩ := (hrow2 j hlt2).below hbr (Nat.le_refl _)
          have HR2 := Lib.hid hrow2
          have hb1 := hbr.alloc hbr.size (.cells #[.string ((f k).ss j), .int .i64 ((f k).ms j)] 41)
          have HN := Lib.hid (meltNamed_calls B m d g ((f k).ss j) _ (HM.out.keep hb1) hm)
          have HB1 := Lib.hid hb1
          clear hrow2 hb1
          go_wp2_with fail
          go_at_call 37
          with_reducible refine HN.out.mono ?_
          rintro e w3 ⟨hno, hb⟩
          have hb3 := HB1.out.trans (hb.mono HB1.out.size)
          clear hb hbr e0 e1
          rcases hno with ⟨q, AQ, CQ, hq, heq, hsrt, rfl, hrowq⟩ | ⟨hsrt, rfl⟩
          · have HT := Lib.hid (hsrt HS.out)
            clear hsrt hrowq heq
            go_wp2
            go_roundw
            case rel => exact ⟨j + 1, by omega, by go_num, Lib.hid (by rw [show allB (fun j => hasId (fun q => (g q).id) m ((f k).ss j)) (j + 1) = (allB (fun j => hasId (fun q => (g q).id) m ((f k).ss j)) j && hasId (fun q => (g q).id) m ((f k).ss j)) from rfl, hgood2.out, HT.out]; rfl), hb3.alloc hb3.size _⟩
            case measure => simp [intOf]; omega
          · have HT := Lib.hid (hsrt HS.out)
            have HF : Hid (allKnown (fun q => (g q).id) m f n = false) := Lib.hid (allB_no hlt (allB_no hlt2 HT.out))
            clear hsrt
            go_wp2
            go_ret
            exact ⟨ret_bool (by rw [← HRES.out, HF.out]), hb3.alloc hb3.size _⟩
        · have hjn : j = (f k).n := by omega
          have HT : Hid (knownB (fun q => (g q).id) m (f k) = true) := Lib.hid (by have hg := hgood2.out; rw [hjn] at hg; exact hg)
          have hge : ((f k).n : Int) ≤ j := by omega
          have hge2 : (f k).n ≤ j := by omega
          clear hjn
          go_wp2
          go_roundw
          case rel => exact ⟨k + 1, by omega, by go_num, Lib.hid (by rw [show allKnown (fun q => (g q).id) m f (k + 1) = (allKnown (fun q => (g q).id) m f k && knownB (fun q => (g q).id) m (f k)) from rfl, hgood.out, HT.out]; rfl), hbr⟩
          case measure => simp [intOf]; omega
    · obtain rfl : k = n := by omega
      go_wp2
      go_ret
      exact ⟨ret_bool (by rw [← HRES.out, hgood.out]), hbr⟩
set_option maxHeartbeats 1000000 in
theorem l18Melt_calls (B : Option Addr) (m d : Nat) (g : Nat → MeltV) (x : ByteArray) (w : World) (h : MeltRow w B m g) (hm : m ≤ 1048576) :
    Calls Tryz.prog 137 #[.slice B m d, .string x] w fun e w' => e = .returned (.int .i64 (fno (fun q => !eqS (g q).id x) m)) ∧ w = w' := by
  generalize hres : fno (fun q => !eqS (g q).id x) m = R
  have HRES := Lib.hid hres
  have H := Lib.hid h
  clear h hres
  go_enter Tryz.func137, Tryz.ntmps137
  go_wp2
  go_loopw [5] (fun i wr => ∃ k : Nat, k ≤ m ∧ i = .int .i64 k ∧ Hid (allB (fun q => !eqS (g q).id x) k = true) ∧ w = wr) (fun i _ => m - (intOf i).toNat)
  case atStart => exact ⟨0, by omega, rfl, rfl, rfl⟩
  case round =>
    obtain ⟨k, hk, rfl, hgood, rfl⟩ := hrel
    by_cases hlt : k < m
    · obtain ⟨b, o, rfl, hrow⟩ := H.out (by omega)
      obtain ⟨AK, CK, c0, -⟩ := hrow k hlt
      have HR := Lib.hid hrow
      clear hrow
      cases q1 : eqS (g k).id x
      · have q2 : ((g k).id.toList == x.toList) = false := q1
        go_wp2
        go_roundw
        case rel => exact ⟨k + 1, by omega, by go_num, Lib.hid (by rw [show allB (fun q => !eqS (g q).id x) (k + 1) = (allB (fun q => !eqS (g q).id x) k && !eqS (g k).id x) from rfl, hgood.out, q1]; rfl), by first | rfl | trivial⟩
        case measure => simp [intOf]; omega
      · have q2 : ((g k).id.toList == x.toList) = true := q1
        have HT : Hid (R = (k : Int)) := Lib.hid (by rw [← HRES.out]; exact fno_hit hlt hgood.out (by simp [q1]))
        go_wp2
        go_ret
        exact ⟨ret_int HT.out.symm, rfl⟩
    · obtain rfl : k = m := by omega
      have HT : Hid (R = -1) := Lib.hid (by rw [← HRES.out]; exact fno_all hgood.out)
      go_wp2
      go_ret
      exact ⟨ret_int HT.out.symm, rfl⟩
theorem fno_has (ids : Nat → ByteArray) (m : Nat) (x : ByteArray) : decide (fno (fun q => !eqS (ids q) x) m < 0) = !hasId ids m x := by
  rw [fno_neg]
  unfold hasId anyB
  simp
set_option maxHeartbeats 2000000 in
theorem l18Known_calls (B : Option Addr) (m d : Nat) (g : Nat → MeltV) (b o : Nat) (x : BellV) (w : World) (h2 : MeltRow w B m g) (hm : m ≤ 1048576) (h : BellAt w b o x) (hn : x.n ≤ 1048576) :
    Calls Tryz.prog 101 #[.slice B m d, .pointer (some ⟨b, o, none⟩)] w fun e w' => e = .returned (.bool (knownB (fun q => (g q).id) m x)) ∧ w = w' := by
  obtain ⟨A, c, -, -, -, -, c4, hs⟩ := h
  generalize hres : knownB (fun q => (g q).id) m x = R
  have HRES := Lib.hid hres
  have H := Lib.hid hs
  have HM := Lib.hid h2
  clear hs hres h2
  go_enter Tryz.func101, Tryz.ntmps101
  go_wp2
  go_loopw [5] (fun i wr => ∃ k : Nat, k ≤ x.n ∧ i = .int .i64 k ∧ Hid (allB (fun k => hasId (fun q => (g q).id) m (x.ss k)) k = true) ∧ w = wr) (fun i _ => x.n - (intOf i).toNat)
  case atStart => exact ⟨0, by omega, rfl, rfl, rfl⟩
  case round =>
    obtain ⟨k, hk, rfl, hgood, rfl⟩ := hrel
    by_cases hlt : k < x.n
    · obtain ⟨b2, o2, rfl, hrow⟩ := H.out (by omega)
      obtain ⟨d0, -⟩ := hrow k hlt
      have HR := Lib.hid hrow
      have HC := Lib.hid (l18Melt_calls B m d g (x.ss k) w HM.out hm)
      have hneg := fno_has (fun q => (g q).id) m (x.ss k)
      clear hrow
      generalize fno (fun q => !eqS (g q).id (x.ss k)) m = z at *
      cases q1 : hasId (fun q => (g q).id) m (x.ss k)
      · rw [q1] at hneg
        have hz : z < 0 := by simpa using hneg
        have HF : Hid (knownB (fun q => (g q).id) m x = false) := Lib.hid (allB_no hlt q1)
        clear hneg
        go_wp2_with (go_at_call 137; with_reducible refine HC.out.mono ?_; rintro e w1 ⟨rfl, rfl⟩)
        go_ret
        exact ⟨ret_bool (by rw [← HRES.out, HF.out]), rfl⟩
      · rw [q1] at hneg
        have hz : ¬ z < 0 := by simpa using hneg
        clear hneg
        go_wp2_with (go_at_call 137; with_reducible refine HC.out.mono ?_; rintro e w1 ⟨rfl, rfl⟩)
        go_roundw
        case rel => exact ⟨k + 1, by omega, by go_num, Lib.hid (by rw [show allB (fun k => hasId (fun q => (g q).id) m (x.ss k)) (k + 1) = (allB (fun k => hasId (fun q => (g q).id) m (x.ss k)) k && hasId (fun q => (g q).id) m (x.ss k)) from rfl, hgood.out, q1]; rfl), by first | rfl | trivial⟩
        case measure => simp [intOf]; omega
    · have hkn : k = x.n := by omega
      have HT : Hid (knownB (fun q => (g q).id) m x = true) := Lib.hid (by have hg := hgood.out; rw [hkn] at hg; exact hg)
      have hge : (x.n : Int) ≤ k := by omega
      have hge2 : x.n ≤ k := by omega
      clear hkn
      go_wp2
      go_ret
      exact ⟨ret_bool (by rw [← HRES.out, HT.out]), rfl⟩
end Go.Proofs.YticnpibkpfpojaaGreatDoor
