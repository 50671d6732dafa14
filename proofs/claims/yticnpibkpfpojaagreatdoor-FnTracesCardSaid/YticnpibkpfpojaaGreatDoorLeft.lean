/- How much of a melt is left behind bells. -/
import Derived.Test.YticnpibkpfpojaaGreatDoorTaken
import Derived.Test.YticnpibkpfpojaaGreatDoorRecall
import Derived.Test.YticnpibkpfpojaaGreatDoorMeltW
import Derived.Test.YticnpibkpfpojaaGreatDoorMeltX
namespace Go.Proofs.YticnpibkpfpojaaGreatDoor
set_option linter.unusedVariables false
open Go.RowKit

/-- of one bell's first k shares, what is of a melt -/
def tkS (x : BellV) (id : ByteArray) : Nat → Int
  | 0 => 0
  | k + 1 => tkS x id k + (if eqS (x.ss k) id = true then x.ms k else 0)
/-- .. of the first i bells -/
def tkB (f : Nat → BellV) (id : ByteArray) : Nat → Int
  | 0 => 0
  | i + 1 => tkB f id i + tkS (f i) id (f i).n
/-- bells that are few and small -/
def Few (f : Nat → BellV) (n : Nat) : Prop := n ≤ 100 ∧ ∀ i, i < n → (f i).n ≤ 4 ∧ ∀ k, k < (f i).n → 1 ≤ (f i).ms k ∧ (f i).ms k ≤ 20000000
theorem bellV_few {x : BellV} (h : bellV x = true) : x.n ≤ 4 ∧ ∀ k, k < x.n → 1 ≤ x.ms k ∧ x.ms k ≤ 20000000 := by
  unfold bellV bellB at h
  simp only [Bool.and_eq_true, decide_eq_true_eq] at h
  obtain ⟨h1, -, -, -, -, -, h6, -⟩ := h
  refine ⟨by omega, fun k hk => ?_⟩
  have h2 := allB_of h1 k hk
  unfold goodAt shareB at h2
  simp only [Bool.and_eq_true] at h2
  exact inB_iff.1 h2.1.2
theorem okB_few {f : Nat → BellV} {n : Nat} (h : okBells f n = true) : Few f n := by
  unfold okBells at h
  simp only [Bool.and_eq_true, decide_eq_true_eq] at h
  refine ⟨by omega, fun i hi => ?_⟩
  have h2 := allB_of h.1 i hi
  unfold goodAt at h2
  simp only [Bool.and_eq_true] at h2
  exact bellV_few h2.1
theorem tkS_bd {x : BellV} {id : ByteArray} (h : ∀ k, k < x.n → 1 ≤ x.ms k ∧ x.ms k ≤ 20000000) : ∀ k, k ≤ x.n → 0 ≤ tkS x id k ∧ tkS x id k ≤ 20000000 * k
  | 0, _ => by simp [tkS]
  | k + 1, hk => by
    have h1 := tkS_bd (id := id) h k (by omega)
    have h2 := h k (by omega)
    unfold tkS
    split <;> omega
theorem tkB_bd {f : Nat → BellV} {id : ByteArray} {n : Nat} (h : Few f n) : ∀ i, i ≤ n → 0 ≤ tkB f id i ∧ tkB f id i ≤ 80000000 * i
  | 0, _ => by simp [tkB]
  | i + 1, hi => by
    have h1 := tkB_bd (id := id) h i (by omega)
    have h2 := h.2 i (by omega)
    have h3 := tkS_bd (id := id) h2.2 (f i).n (Nat.le_refl _)
    unfold tkB
    omega
set_option maxRecDepth 20000 in
set_option maxHeartbeats 4000000 in
theorem leftIn_calls (A : Option Addr) (n c : Nat) (f : Nat → BellV) (s : ByteArray) (B : Option Addr) (q d : Nat) (ma : Int) (w : World) (h : BellRow w A n f) (hf : Few f n) (hm : 0 ≤ ma ∧ ma ≤ 320000000) :
    Calls Tryz.prog 38 #[.slice A n c, .agg #[.string s, .slice B q d, .int .i64 ma]] w fun e w' => e = .returned (.int .i64 (ma - tkB f s n)) ∧ Below w.heap.size w w' := by
  have hn := hf.1
  obtain ⟨R, hres⟩ : ∃ R, R = ma - tkB f s n := ⟨_, rfl⟩
  rw [← hres]
  have HRES := Lib.hid hres
  have H := Lib.hid h
  have HF := Lib.hid hf
  have HX0 := Lib.hid (Blk.new w 74 #[.string s, .slice B q d, .int .i64 ma])
  have HB0 := Lib.hid ((Below.refl w.heap.size w).alloc (Nat.le_refl _) (.cells #[.string s, .slice B q d, .int .i64 ma] 74))
  clear h hf hres
  go_enter Tryz.func38, Tryz.ntmps38
  go_wp2
  go_loopw [5, 14] (fun l i wr => ∃ (k : Nat) (v : Int), k ≤ n ∧ l = .int .i64 v ∧ i = .int .i64 k ∧ Hid (v = ma - tkB f s k) ∧ Hid (Blk wr w.heap.size 74 #[.string s, .slice B q d, .int .i64 ma]) ∧ w.heap.size < wr.heap.size ∧ Below w.heap.size w wr) (fun _ i _ => n - (intOf i).toNat)
  case atStart => exact ⟨0, ma, by omega, rfl, rfl, Lib.hid (by simp [tkB]), HX0, by simp, HB0.out⟩
  case round =>
    obtain ⟨k, v, hk, rfl, rfl, hv, hx, hgt, hbr⟩ := hrel
    by_cases hlt : k < n
    · obtain ⟨b, o, rfl, hrow⟩ := H.out (by omega)
      obtain ⟨AK, CK, c0, c1, c2, c3, c4, -⟩ := (hrow k hlt).keep hbr
      obtain ⟨AK2, CK2, -, -, -, -, d4, d5⟩ := hrow k hlt
      have d4' := cell_keep hbr d4
      obtain ⟨rfl, rfl⟩ : AK = AK2 ∧ CK = CK2 := by rw [c4] at d4'; simpa using d4'
      have HR := Lib.hid hrow
      have D5 := Lib.hid d5
      obtain ⟨hfk, hfm⟩ := HF.out.2 k hlt
      have HFM := Lib.hid hfm
      have hbd := tkB_bd (id := s) HF.out k (by omega)
      have hv1 : -8000000000 ≤ v ∧ v ≤ 320000000 := by have := hv.out; omega
      have HB1 := Lib.hid (hbr.alloc hbr.size (.cells #[.string (f k).id, .int .i64 (f k).no, .int .i64 (f k).ma, .int .i64 (f k).fe, .slice AK (f k).n CK] 28))
      have HX1 := Lib.hid (hx.out.alloc (.cells #[.string (f k).id, .int .i64 (f k).no, .int .i64 (f k).ma, .int .i64 (f k).fe, .slice AK (f k).n CK] 28))
      have hgt1 : w.heap.size < (wr.alloc (.cells #[.string (f k).id, .int .i64 (f k).no, .int .i64 (f k).ma, .int .i64 (f k).fe, .slice AK (f k).n CK] 28)).heap.size := by simp; omega
      clear hrow d4 d4' d5 hfm hbd
      go_wp2
      go_loopw [5, 21] (fun l i wr => ∃ (j : Nat) (u : Int), j ≤ (f k).n ∧ l = .int .i64 u ∧ i = .int .i64 j ∧ Hid (u = v - tkS (f k) s j) ∧ Hid (Blk wr w.heap.size 74 #[.string s, .slice B q d, .int .i64 ma]) ∧ w.heap.size < wr.heap.size ∧ Below w.heap.size w wr) (fun _ i _ => (f k).n - (intOf i).toNat)
      case atStart => exact ⟨0, v, by omega, rfl, rfl, Lib.hid (by simp [tkS]), HX1, hgt1, HB1.out⟩
      case round =>
        clear hbr hx hgt c0 c1 c2 c3 c4 HB1 HX1 hgt1
        obtain ⟨j, u, hj, rfl, rfl, hu, hx, hgt, hbr⟩ := hrel
        by_cases hlt2 : j < (f k).n
        · obtain ⟨b2, o2, rfl, hrow2⟩ := D5.out (by omega)
          obtain ⟨e0, e1⟩ := (hrow2 j hlt2).below hbr (Nat.le_refl _)
          have HR2 := Lib.hid hrow2
          have x0 := (hx.out.cell 0).trans rfl
          have hms := HFM.out j hlt2
          have hsb := tkS_bd (id := s) HFM.out j (by omega)
          have hu1 : -9000000000 ≤ u ∧ u ≤ 320000000 := by have := hu.out; omega
          clear hrow2 hsb
          cases q1 : eqS ((f k).ss j) s
          · have q2 : (((f k).ss j).toList == s.toList) = false := q1
            have HU : Hid (u = v - tkS (f k) s (j + 1)) := Lib.hid (by rw [hu.out]; simp [tkS, q1])
            go_wp2
            go_roundw
            case rel => exact ⟨j + 1, u, by omega, rfl, by go_num, HU, Lib.hid (hx.out.alloc _), by simp; omega, hbr.alloc hbr.size _⟩
            case measure => simp [intOf]; omega
          · have q2 : (((f k).ss j).toList == s.toList) = true := q1
            have HU : Hid (u - (f k).ms j = v - tkS (f k) s (j + 1)) := Lib.hid (by rw [hu.out]; simp [tkS, q1]; omega)
            go_wp2
            go_roundw
            case rel => exact ⟨j + 1, u - (f k).ms j, by omega, rfl, by go_num, HU, Lib.hid (hx.out.alloc _), by simp; omega, hbr.alloc hbr.size _⟩
            case measure => simp [intOf]; omega
        · have hjn : j = (f k).n := by omega
          have HT : Hid (u = ma - tkB f s (k + 1)) := Lib.hid (by rw [hu.out, hv.out, hjn]; simp [tkB]; omega)
          have hge : ((f k).n : Int) ≤ j := by omega
          have hge2 : (f k).n ≤ j := by omega
          clear hjn
          go_wp2
          go_roundw
          case rel => exact ⟨k + 1, u, by omega, rfl, by go_num, HT, hx, hgt, hbr⟩
          case measure => simp [intOf]; omega
    · obtain rfl : k = n := by omega
      have HT : Hid (v = R) := Lib.hid (hv.out.trans HRES.out.symm)
      go_wp2
      go_ret
      exact ⟨ret_int HT.out, hbr⟩
set_option maxRecDepth 20000 in
set_option maxHeartbeats 4000000 in
theorem l18Taken_calls (A : Option Addr) (n c : Nat) (f : Nat → BellV) (s : ByteArray) (w : World) (h : BellRow w A n f) (hf : Few f n) :
    Calls Tryz.prog 138 #[.slice A n c, .string s] w fun e w' => e = .returned (.int .i64 (tkB f s n)) ∧ w = w' := by
  have hn := hf.1
  obtain ⟨R, hres⟩ : ∃ R, R = tkB f s n := ⟨_, rfl⟩
  rw [← hres]
  have HRES := Lib.hid hres
  have H := Lib.hid h
  have HF := Lib.hid hf
  clear h hf hres
  go_enter Tryz.func138, Tryz.ntmps138
  go_wp2
  go_loopw [5, 6] (fun l i wr => ∃ (k : Nat) (v : Int), k ≤ n ∧ l = .int .i64 v ∧ i = .int .i64 k ∧ Hid (v = tkB f s k) ∧ w = wr) (fun _ i _ => n - (intOf i).toNat)
  case atStart => exact ⟨0, 0, by omega, rfl, rfl, Lib.hid rfl, rfl⟩
  case round =>
    obtain ⟨k, v, hk, rfl, rfl, hv, rfl⟩ := hrel
    by_cases hlt : k < n
    · obtain ⟨hfk, hfm⟩ := HF.out.2 k hlt
      have HFM := Lib.hid hfm
      have hbd := tkB_bd (id := s) HF.out k (by omega)
      have hv1 : 0 ≤ v ∧ v ≤ 8000000000 := by have := hv.out; omega
      clear hfm hbd
      go_wp2
      go_loopw [5, 7] (fun l i wr => ∃ (j : Nat) (u : Int), j ≤ (f k).n ∧ l = .int .i64 u ∧ i = .int .i64 j ∧ Hid (u = v + tkS (f k) s j) ∧ w = wr) (fun _ i _ => (f k).n - (intOf i).toNat)
      case atStart => exact ⟨0, v, by omega, rfl, rfl, Lib.hid (by simp [tkS]), by first | rfl | trivial⟩
      case round =>
        obtain ⟨j, u, hj, rfl, rfl, hu, rfl⟩ := hrel
        obtain ⟨b, o, rfl, hrow⟩ := H.out (by omega)
        obtain ⟨AK, CK, -, -, -, -, c4, c5⟩ := hrow k hlt
        have HR := Lib.hid hrow
        have D5 := Lib.hid c5
        clear hrow c5
        by_cases hlt2 : j < (f k).n
        · obtain ⟨b2, o2, rfl, hrow2⟩ := D5.out (by omega)
          obtain ⟨e0, e1⟩ := hrow2 j hlt2
          have HR2 := Lib.hid hrow2
          have hms := HFM.out j hlt2
          have hsb := tkS_bd (id := s) HFM.out j (by omega)
          have hu1 : 0 ≤ u ∧ u ≤ 9000000000 := by have := hu.out; omega
          clear hrow2 hsb
          cases q1 : eqS ((f k).ss j) s
          · have q2 : (((f k).ss j).toList == s.toList) = false := q1
            have HU : Hid (u = v + tkS (f k) s (j + 1)) := Lib.hid (by rw [hu.out]; simp [tkS, q1])
            go_wp2
            go_roundw
            case rel => exact ⟨j + 1, u, by omega, rfl, by go_num, HU, by first | rfl | trivial⟩
            case measure => simp [intOf]; omega
          · have q2 : (((f k).ss j).toList == s.toList) = true := q1
            have HU : Hid (u + (f k).ms j = v + tkS (f k) s (j + 1)) := Lib.hid (by rw [hu.out]; simp [tkS, q1]; omega)
            go_wp2
            go_roundw
            case rel => exact ⟨j + 1, u + (f k).ms j, by omega, rfl, by go_num, HU, by first | rfl | trivial⟩
            case measure => simp [intOf]; omega
        · have hjn : j = (f k).n := by omega
          have HT : Hid (u = tkB f s (k + 1)) := Lib.hid (by rw [hu.out, hv.out, hjn]; simp [tkB])
          have hge : ((f k).n : Int) ≤ j := by omega
          have hge2 : (f k).n ≤ j := by omega
          clear hjn
          go_wp2
          go_roundw
          case rel => exact ⟨k + 1, u, by omega, rfl, by go_num, HT, by first | rfl | trivial⟩
          case measure => simp [intOf]; omega
    · obtain rfl : k = n := by omega
      have HT : Hid (v = R) := Lib.hid (hv.out.trans HRES.out.symm)
      go_wp2
      go_ret
      exact ⟨ret_int HT.out, rfl⟩
noncomputable def askC (g : Nat → MeltV) (m : Nat) (f : Nat → BellV) (n : Nat) : Int := if (okMelts g m && okBells f n) = true then (if allKnown (fun q => (g q).id) m f n = true then 0 else 3) else 1
set_option maxRecDepth 20000 in
set_option maxHeartbeats 4000000 in
theorem l18Ask_calls (B : Option Addr) (m d : Nat) (g : Nat → MeltV) (A : Option Addr) (n c : Nat) (f : Nat → BellV) (w : World) (h2 : MeltRow w B m g) (hm : m ≤ 1048576) (hg : ∀ i, i < m → FineM (g i)) (h : BellRow w A n f) (hn : n ≤ 1048576) (hf : ∀ i, i < n → Fine (f i)) :
    Calls Tryz.prog 100 #[.slice B m d, .slice A n c] w fun e w' => e = .returned (.int .i64 (askC g m f n)) ∧ ∃ q, w' = w.drewN q := by
  have HV1 := Lib.hid (l14Ok_calls B m d g w h2 hg hm)
  have HV2 := Lib.hid (fun q => sbells_calls A n c f (w.drewN q) h hf (by unfold maxLen; omega))
  have H := Lib.hid h
  have HM := Lib.hid h2
  have HF := Lib.hid hf
  clear h h2 hg hf
  cases q1 : okMelts g m
  · rw [show askC g m f n = 1 by simp [askC, q1]]
    rw [q1] at HV1
    go_enter Tryz.func100, Tryz.ntmps100
    go_wp2_with (go_at_call 136; with_reducible refine HV1.out.mono ?_; rintro e w1 ⟨rfl, nd, rfl⟩)
    go_ret
    exact ⟨rfl, _, rfl⟩
  · rw [q1] at HV1
    cases q2 : okBells f n
    · rw [show askC g m f n = 1 by simp [askC, q1, q2]]
      rw [show (bellsOk f n && decide ((n : Int) ≤ 24)) = false from q2] at HV2
      go_enter Tryz.func100, Tryz.ntmps100
      go_wp2_with (first | (go_at_call 136; with_reducible refine HV1.out.mono ?_; rintro e w1 ⟨rfl, nd, rfl⟩) | (go_at_call 34; with_reducible refine (HV2.out _).mono ?_; rintro e w2 ⟨rfl, nd2, rfl⟩))
      go_ret
      exact ⟨rfl, _, rfl⟩
    · rw [show (bellsOk f n && decide ((n : Int) ≤ 24)) = true from q2] at HV2
      obtain ⟨R, hres⟩ : ∃ R, R = askC g m f n := ⟨_, rfl⟩
      rw [← hres]
      have HR0 : Hid (R = if allKnown (fun q => (g q).id) m f n = true then 0 else 3) := Lib.hid (by rw [hres]; simp [askC, q1, q2])
      clear hres
      go_enter Tryz.func100, Tryz.ntmps100
      go_wp2_with (first | (go_at_call 136; with_reducible refine HV1.out.mono ?_; rintro e w1 ⟨rfl, nd, rfl⟩) | (go_at_call 34; with_reducible refine (HV2.out _).mono ?_; rintro e w2 ⟨rfl, nd2, rfl⟩))
      go_loopw [5] (fun i wr => ∃ k : Nat, k ≤ n ∧ i = .int .i64 k ∧ Hid (allKnown (fun q => (g q).id) m f k = true) ∧ Hid (∃ q, wr = w.drewN q)) (fun i _ => n - (intOf i).toNat)
      case atStart => exact ⟨0, by omega, rfl, rfl, Lib.hid ⟨_, rfl⟩⟩
      case round =>
        obtain ⟨k, hk, rfl, hgood, hwr⟩ := hrel
        by_cases hlt : k < n
        · obtain ⟨b, o, rfl, hrow⟩ := H.out (by omega)
          have HC := Lib.hid (show Calls Tryz.prog 101 #[.slice B m d, .pointer (some ⟨b, o + k * 5, none⟩)] wr (fun e w' => e = .returned (.bool (knownB (fun q => (g q).id) m (f k))) ∧ wr = w') from by
            obtain ⟨q, hq⟩ := hwr.out
            rw [hq]
            exact l18Known_calls B m d g b (o + k * 5) (f k) (w.drewN q) HM.out hm ((hrow k hlt).drewN q) (HF.out k hlt).2.2)
          have HR := Lib.hid hrow
          clear hrow
          cases q3 : knownB (fun q => (g q).id) m (f k)
          · rw [q3] at HC
            have HN : Hid (R = 3) := Lib.hid (by rw [HR0.out, show allKnown (fun q => (g q).id) m f n = false from allB_no hlt q3]; rfl)
            go_wp2_with (go_at_call 101; with_reducible refine HC.out.mono ?_; rintro e w3 ⟨rfl, rfl⟩)
            go_ret
            exact ⟨ret_int HN.out.symm, hwr.out⟩
          · rw [q3] at HC
            go_wp2_with (go_at_call 101; with_reducible refine HC.out.mono ?_; rintro e w3 ⟨rfl, rfl⟩)
            go_roundw
            case rel => exact ⟨k + 1, by omega, by go_num, Lib.hid (by rw [show allKnown (fun q => (g q).id) m f (k + 1) = (allKnown (fun q => (g q).id) m f k && knownB (fun q => (g q).id) m (f k)) from rfl, hgood.out, q3]; rfl), hwr⟩
            case measure => simp [intOf]; omega
        · obtain rfl : k = n := by omega
          have HN : Hid (R = 0) := Lib.hid (by rw [HR0.out, hgood.out]; rfl)
          go_wp2
          go_ret
          exact ⟨ret_int HN.out.symm, hwr.out⟩
end Go.Proofs.YticnpibkpfpojaaGreatDoor
