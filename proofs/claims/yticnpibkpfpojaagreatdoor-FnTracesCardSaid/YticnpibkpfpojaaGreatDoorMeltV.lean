/- Which melts, and lists of melts, are valid, in the program and in the reference. -/
import Derived.Test.YticnpibkpfpojaaGreatDoorMelt
import Derived.Test.YticnpibkpfpojaaGreatDoorAny
import Derived.Test.YticnpibkpfpojaaGreatDoorPred
namespace Go.Proofs.YticnpibkpfpojaaGreatDoor
set_option linter.unusedVariables false
open Go.RowKit


noncomputable def namesB (ss : Nat → ByteArray) (n : Nat) : Bool := allB (goodAt (fun i => nameB (ss i)) ss) n
noncomputable def meltV (x : MeltV) : Bool := nameB x.id && (decide ((1 : Int) ≤ x.n) && (decide ((x.n : Int) ≤ 16) && (namesB x.ss x.n && inB x.ma 1 320000000)))
/-- have two melts an ingot in common? -/
def commonB (x y : MeltV) : Bool := anyB (fun i => anyB (fun j => (x.ss i).toList == (y.ss j).toList) y.n) x.n
theorem anyB_iff {p : Nat → Bool} {n : Nat} : anyB p n = true ↔ ∃ i, i < n ∧ p i = true := ⟨anyB_of, fun ⟨_, hi, hp⟩ => anyB_hit hi hp⟩
theorem bool_iff {a b : Bool} (h : a = true ↔ b = true) : a = b := by
  cases a <;> cases b <;> simp_all
theorem commonB_comm (x y : MeltV) : commonB x y = commonB y x := by
  apply bool_iff
  unfold commonB
  simp only [anyB_iff, beq_iff_eq]
  constructor
  · rintro ⟨i, hi, j, hj, h⟩; exact ⟨j, hj, i, hi, h.symm⟩
  · rintro ⟨i, hi, j, hj, h⟩; exact ⟨j, hj, i, hi, h.symm⟩
noncomputable def meltAt' (f : Nat → MeltV) (k : Nat) : Bool := goodAt (fun i => meltV (f i)) (fun i => (f i).id) k && !anyB (fun j => commonB (f k) (f j)) k
noncomputable def meltsOk (f : Nat → MeltV) (n : Nat) : Bool := allB (meltAt' f) n
noncomputable def okMelts (f : Nat → MeltV) (n : Nat) : Bool := meltsOk f n && decide ((n : Int) ≤ 12)
theorem namesB_up {ss : Nat → ByteArray} {k : Nat} (h : namesB ss k = true) (hk : goodAt (fun i => nameB (ss i)) ss k = true) : namesB ss (k + 1) = true := by
  rw [show namesB ss (k + 1) = (namesB ss k && goodAt (fun i => nameB (ss i)) ss k) from rfl, h, hk]; rfl
theorem meltsOk_up {f : Nat → MeltV} {k : Nat} (h : meltsOk f k = true) (hk : meltAt' f k = true) : meltsOk f (k + 1) = true := by
  rw [show meltsOk f (k + 1) = (meltsOk f k && meltAt' f k) from rfl, h, hk]; rfl
theorem okMelts_no {f : Nat → MeltV} {n k : Nat} (hk : k < n) (h : meltAt' f k = false) : okMelts f n = false := by
  unfold okMelts meltsOk
  rw [allB_no hk h]; rfl
set_option maxHeartbeats 4000000 in
theorem areNames_calls (A : Option Addr) (n c : Nat) (ss : Nat → ByteArray) (w : World) (h : StrRow w A n ss) (hss : ∀ i, i < n → (ss i).size ≤ maxLen) (hn : n ≤ 1048576) :
    Calls Tryz.prog 76 #[.slice A n c] w fun e w' => e = .returned (.bool (namesB ss n)) ∧ Below w.heap.size w w' := by
  generalize hres : namesB ss n = R
  have HRES := Lib.hid hres
  have H := Lib.hid h
  have HSS := Lib.hid hss
  clear h hss hres
  go_enter Tryz.func76, Tryz.ntmps76
  go_wp2
  go_loopw [7] (fun i wr => ∃ k : Nat, k ≤ n ∧ i = .int .i64 k ∧ Hid (namesB ss k = true) ∧ Below w.heap.size w wr) (fun i _ => n - (intOf i).toNat)
  case atStart => exact ⟨0, by omega, rfl, rfl, Below.refl _ _⟩
  case round =>
    obtain ⟨k, hk, rfl, hgood, hbr⟩ := hrel
    by_cases hlt : k < n
    · have hsk := HSS.out k hlt
      obtain ⟨b, o, rfl, hrow⟩ := H.out (by omega)
      have hall : ∀ i, i < n → wr.cell? ⟨b, o + i, none⟩ = some (.string (ss i)) := fun i hi => cell_keep hbr (hrow i hi)
      have c0 := hall k hlt
      have HR := Lib.hid hall
      clear hrow hall
      cases q1 : nameB (ss k)
      · have HK := Lib.hid (show goodAt (fun i => nameB (ss i)) ss k = false by simp [goodAt, q1])
        go_wp2_with (go_at_call 52; refine (isName_calls _ _ hsk).mono ?_; simp only [q1]; rintro e w1 ⟨rfl, hb⟩; (try have pr1 := cell_keep hb pr); have hbr2 := hbr.trans (hb.mono hbr.size); clear hb)
        go_ret
        exact ⟨ret_bool (by rw [← HRES.out]; exact (allB_no hlt HK.out).symm), hbr2⟩
      · rcases Nat.eq_zero_or_pos k with hz | hz
        · have hd1 : decide ((0 : Int) < (k : Int)) = false := decide_eq_false (by omega)
          have hd2 : decide (0 < k) = false := decide_eq_false (by omega)
          have HK := Lib.hid (show goodAt (fun i => nameB (ss i)) ss k = true by subst hz; simp [goodAt, q1])
          clear hz
          go_wp2_with (go_at_call 52; refine (isName_calls _ _ hsk).mono ?_; simp only [q1]; rintro e w1 ⟨rfl, hb⟩; (try have pr1 := cell_keep hb pr); have hbr2 := hbr.trans (hb.mono hbr.size); clear hb)
          go_roundw
          case rel => exact ⟨k + 1, by omega, by go_num, Lib.hid (namesB_up hgood.out HK.out), hbr2⟩
          case measure => simp [intOf]; omega
        · obtain ⟨j, hj⟩ : ∃ j, k = j + 1 := ⟨k - 1, by omega⟩
          have pr := HR.out j (by omega)
          have hd1 : decide ((0 : Int) < (k : Int)) = true := decide_eq_true (by omega)
          have hd2 : decide (0 < k) = true := decide_eq_true (by omega)
          have hw : IntKind.i64.wrap ((k : Int) - 1) = (j : Int) := (IntWalk.i64_in _ ⟨by omega, by omega⟩).trans (by omega)
          have hjn : j < n := by omega
          have hg : goodAt (fun i => nameB (ss i)) ss k = Op.bytesLess (ss j).toList (ss k).toList := by subst hj; simp [goodAt, q1]
          clear hj hz
          have hle := less_total (ss k).toList (ss j).toList
          cases q3 : (Op.bytesLess (ss k).toList (ss j).toList || (ss k).toList == (ss j).toList)
          · have HK := Lib.hid (show goodAt (fun i => nameB (ss i)) ss k = true by rw [q3] at hle; rw [hg]; simpa using hle)
            clear hg hle
            go_wp2_with (go_at_call 52; refine (isName_calls _ _ hsk).mono ?_; simp only [q1]; rintro e w1 ⟨rfl, hb⟩; (try have pr1 := cell_keep hb pr); have hbr2 := hbr.trans (hb.mono hbr.size); clear hb)
            go_roundw
            case rel => exact ⟨k + 1, by omega, by go_num, Lib.hid (namesB_up hgood.out HK.out), hbr2⟩
            case measure => simp [intOf]; omega
          · have HK := Lib.hid (show goodAt (fun i => nameB (ss i)) ss k = false by rw [q3] at hle; rw [hg]; simpa using hle)
            clear hg hle
            go_wp2_with (go_at_call 52; refine (isName_calls _ _ hsk).mono ?_; simp only [q1]; rintro e w1 ⟨rfl, hb⟩; (try have pr1 := cell_keep hb pr); have hbr2 := hbr.trans (hb.mono hbr.size); clear hb)
            go_ret
            exact ⟨ret_bool (by rw [← HRES.out]; exact (allB_no hlt HK.out).symm), hbr2⟩
    · obtain rfl : k = n := by omega
      go_wp2
      go_ret
      exact ⟨ret_bool (by rw [← HRES.out, hgood.out]), hbr⟩
set_option maxHeartbeats 4000000 in
theorem ValidMelt_calls (s : ByteArray) (A : Option Addr) (n c : Nat) (ss : Nat → ByteArray) (ma : Int) (w : World) (hs : s.size ≤ maxLen) (h : StrRow w A n ss) (hss : ∀ i, i < n → (ss i).size ≤ maxLen) (hn : n ≤ 1048576) :
    Calls Tryz.prog 48 #[.agg #[.string s, .slice A n c, .int .i64 ma]] w fun e w' => e = .returned (.bool (meltV ⟨s, n, ss, ma⟩)) ∧ Below w.heap.size w w' := by
  have HX := Lib.hid (Blk.new w 74 #[.string s, .slice A n c, .int .i64 ma])
  have hB := Lib.hid ((Below.refl w.heap.size w).alloc (Nat.le_refl _) (.cells #[.string s, .slice A n c, .int .i64 ma] 74))
  have H := Lib.hid h
  have HSS := Lib.hid hss
  clear h hss
  cases t1 : nameB s
  · go_enter Tryz.func48, Tryz.ntmps48
    go_wp2_with (first | (go_at_call 52; refine (isName_calls _ _ hs).mono ?_; rw [t1]; rintro e w1 ⟨rfl, hb⟩; have hbb := Lib.hid (hB.out.trans (hb.mono hB.out.size)); have G := HX.out.keep hb; have y1 := (G.cell 1).trans rfl; have y2 := (G.cell 2).trans rfl; have HG := Lib.hid G; clear G hb) | (go_at_call 76; refine (areNames_calls A n c ss _ (H.out.keep hbb.out) HSS.out hn).mono ?_; rw [t4]; rintro e w2 ⟨rfl, hb⟩; have hbb2 := Lib.hid (hbb.out.trans (hb.mono hbb.out.size)); clear hbb; have hbb := hbb2; clear hbb2; have y2 := ((HG.out.keep hb).cell 2).trans rfl; clear hb) | (go_at_call 54; refine (within_calls _ _ _ _).mono ?_; rintro e w1 ⟨rfl, rfl⟩))
    go_ret
    exact ⟨ret_bool (by simp [meltV, *]), hbb.out⟩
  · by_cases t2 : (1 : Int) ≤ n
    · have g2 : decide ((1 : Int) ≤ n) = true := decide_eq_true t2
      have g2n : decide (1 ≤ n) = true := decide_eq_true (by omega)
      by_cases t3 : (n : Int) ≤ 16
      · have g3 : decide ((n : Int) ≤ 16) = true := decide_eq_true t3
        have g3n : decide (n ≤ 16) = true := decide_eq_true (by omega)
        cases t4 : namesB ss n
        · go_enter Tryz.func48, Tryz.ntmps48
          go_wp2_with (first | (go_at_call 52; refine (isName_calls _ _ hs).mono ?_; rw [t1]; rintro e w1 ⟨rfl, hb⟩; have hbb := Lib.hid (hB.out.trans (hb.mono hB.out.size)); have G := HX.out.keep hb; have y1 := (G.cell 1).trans rfl; have y2 := (G.cell 2).trans rfl; have HG := Lib.hid G; clear G hb) | (go_at_call 76; refine (areNames_calls A n c ss _ (H.out.keep hbb.out) HSS.out hn).mono ?_; rw [t4]; rintro e w2 ⟨rfl, hb⟩; have hbb2 := Lib.hid (hbb.out.trans (hb.mono hbb.out.size)); clear hbb; have hbb := hbb2; clear hbb2; have y2 := ((HG.out.keep hb).cell 2).trans rfl; clear hb) | (go_at_call 54; refine (within_calls _ _ _ _).mono ?_; rintro e w1 ⟨rfl, rfl⟩))
          go_ret
          exact ⟨ret_bool (by simp [meltV, *]), hbb.out⟩
        · cases t5 : inB ma 1 320000000
          · go_enter Tryz.func48, Tryz.ntmps48
            go_wp2_with (first | (go_at_call 52; refine (isName_calls _ _ hs).mono ?_; rw [t1]; rintro e w1 ⟨rfl, hb⟩; have hbb := Lib.hid (hB.out.trans (hb.mono hB.out.size)); have G := HX.out.keep hb; have y1 := (G.cell 1).trans rfl; have y2 := (G.cell 2).trans rfl; have HG := Lib.hid G; clear G hb) | (go_at_call 76; refine (areNames_calls A n c ss _ (H.out.keep hbb.out) HSS.out hn).mono ?_; rw [t4]; rintro e w2 ⟨rfl, hb⟩; have hbb2 := Lib.hid (hbb.out.trans (hb.mono hbb.out.size)); clear hbb; have hbb := hbb2; clear hbb2; have y2 := ((HG.out.keep hb).cell 2).trans rfl; clear hb) | (go_at_call 54; refine (within_calls _ _ _ _).mono ?_; rintro e w1 ⟨rfl, rfl⟩))
            go_ret
            exact ⟨ret_bool (by simp [meltV, *]), hbb.out⟩
          · go_enter Tryz.func48, Tryz.ntmps48
            go_wp2_with (first | (go_at_call 52; refine (isName_calls _ _ hs).mono ?_; rw [t1]; rintro e w1 ⟨rfl, hb⟩; have hbb := Lib.hid (hB.out.trans (hb.mono hB.out.size)); have G := HX.out.keep hb; have y1 := (G.cell 1).trans rfl; have y2 := (G.cell 2).trans rfl; have HG := Lib.hid G; clear G hb) | (go_at_call 76; refine (areNames_calls A n c ss _ (H.out.keep hbb.out) HSS.out hn).mono ?_; rw [t4]; rintro e w2 ⟨rfl, hb⟩; have hbb2 := Lib.hid (hbb.out.trans (hb.mono hbb.out.size)); clear hbb; have hbb := hbb2; clear hbb2; have y2 := ((HG.out.keep hb).cell 2).trans rfl; clear hb) | (go_at_call 54; refine (within_calls _ _ _ _).mono ?_; rintro e w1 ⟨rfl, rfl⟩))
            go_ret
            exact ⟨ret_bool (by simp [meltV, *]), hbb.out⟩
      · have g3 : decide ((n : Int) ≤ 16) = false := decide_eq_false t3
        have g3n : decide (n ≤ 16) = false := decide_eq_false (by omega)
        · skip
          go_enter Tryz.func48, Tryz.ntmps48
          go_wp2_with (first | (go_at_call 52; refine (isName_calls _ _ hs).mono ?_; rw [t1]; rintro e w1 ⟨rfl, hb⟩; have hbb := Lib.hid (hB.out.trans (hb.mono hB.out.size)); have G := HX.out.keep hb; have y1 := (G.cell 1).trans rfl; have y2 := (G.cell 2).trans rfl; have HG := Lib.hid G; clear G hb) | (go_at_call 76; refine (areNames_calls A n c ss _ (H.out.keep hbb.out) HSS.out hn).mono ?_; rw [t4]; rintro e w2 ⟨rfl, hb⟩; have hbb2 := Lib.hid (hbb.out.trans (hb.mono hbb.out.size)); clear hbb; have hbb := hbb2; clear hbb2; have y2 := ((HG.out.keep hb).cell 2).trans rfl; clear hb) | (go_at_call 54; refine (within_calls _ _ _ _).mono ?_; rintro e w1 ⟨rfl, rfl⟩))
          go_ret
          exact ⟨ret_bool (by simp only [meltV, t1, g2, g3]; rfl), hbb.out⟩
    · have g2 : decide ((1 : Int) ≤ n) = false := decide_eq_false t2
      have g2n : decide (1 ≤ n) = false := decide_eq_false (by omega)
      · skip
        go_enter Tryz.func48, Tryz.ntmps48
        go_wp2_with (first | (go_at_call 52; refine (isName_calls _ _ hs).mono ?_; rw [t1]; rintro e w1 ⟨rfl, hb⟩; have hbb := Lib.hid (hB.out.trans (hb.mono hB.out.size)); have G := HX.out.keep hb; have y1 := (G.cell 1).trans rfl; have y2 := (G.cell 2).trans rfl; have HG := Lib.hid G; clear G hb) | (go_at_call 76; refine (areNames_calls A n c ss _ (H.out.keep hbb.out) HSS.out hn).mono ?_; rw [t4]; rintro e w2 ⟨rfl, hb⟩; have hbb2 := Lib.hid (hbb.out.trans (hb.mono hbb.out.size)); clear hbb; have hbb := hbb2; clear hbb2; have y2 := ((HG.out.keep hb).cell 2).trans rfl; clear hb) | (go_at_call 54; refine (within_calls _ _ _ _).mono ?_; rintro e w1 ⟨rfl, rfl⟩))
        go_ret
        exact ⟨ret_bool (by simp only [meltV, t1, g2]; rfl), hbb.out⟩
set_option maxHeartbeats 1000000 in
theorem indexS_calls (A : Option Addr) (n c : Nat) (ss : Nat → ByteArray) (x : ByteArray) (w : World) (h : StrRow w A n ss) (hn : n ≤ 1048576) :
    Calls Tryz.prog 105 #[.slice A n c, .string x] w fun e w' => (∃ i : Int, decide (0 ≤ i) = anyB (fun i => x.toList == (ss i).toList) n ∧ e = .returned (.int .i64 i)) ∧ w = w' := by
  generalize hres : anyB (fun i => x.toList == (ss i).toList) n = R
  have HRES := Lib.hid hres
  have H := Lib.hid h
  clear h hres
  go_enter Tryz.func105, Tryz.ntmps105
  go_wp2
  go_loopw [8] (fun i wr => ∃ k : Nat, k ≤ n ∧ i = .int .i64 k ∧ Hid (allB (fun i => !(x.toList == (ss i).toList)) k = true) ∧ w = wr) (fun i _ => n - (intOf i).toNat)
  case atStart => exact ⟨0, by omega, rfl, rfl, rfl⟩
  case round =>
    obtain ⟨k, hk, rfl, hgood, rfl⟩ := hrel
    by_cases hlt : k < n
    · obtain ⟨b, o, rfl, hrow⟩ := H.out (by omega)
      have c0 := hrow k hlt
      have HR := Lib.hid hrow
      clear hrow
      cases q1 : (x.toList == (ss k).toList)
      · go_wp2
        go_roundw
        case rel => exact ⟨k + 1, by omega, by go_num, Lib.hid (by rw [show allB (fun i => !(x.toList == (ss i).toList)) (k + 1) = (allB (fun i => !(x.toList == (ss i).toList)) k && !(x.toList == (ss k).toList)) from rfl, hgood.out, q1]; rfl), by first | rfl | trivial⟩
        case measure => simp [intOf]; omega
      · have HT := Lib.hid (anyB_hit (p := fun i => x.toList == (ss i).toList) hlt q1)
        go_wp2
        go_ret
        exact ⟨⟨k, by rw [← HRES.out, HT.out]; exact decide_eq_true (by omega), rfl⟩, rfl⟩
    · obtain rfl : k = n := by omega
      go_wp2
      go_ret
      exact ⟨⟨-1, by rw [← HRES.out]; simp [anyB, hgood.out], rfl⟩, rfl⟩
set_option maxHeartbeats 1000000 in
theorem containsS_calls (A : Option Addr) (n c : Nat) (ss : Nat → ByteArray) (x : ByteArray) (w : World) (h : StrRow w A n ss) (hn : n ≤ 1048576) :
    Calls Tryz.prog 80 #[.slice A n c, .string x] w fun e w' => e = .returned (.bool (anyB (fun i => x.toList == (ss i).toList) n)) ∧ w = w' := by
  go_enter Tryz.func80, Tryz.ntmps80
  go_wp2_with (go_at_call 105; refine (indexS_calls A n c ss x w h hn).mono ?_; rintro e w1 ⟨⟨i, hi, rfl⟩, rfl⟩)
  go_ret
  exact ⟨by first | rfl | exact ret_bool hi, rfl⟩
set_option maxHeartbeats 1000000 in
theorem shares1_calls (g : Nat) (id s : ByteArray) (A : Option Addr) (n c : Nat) (ss : Nat → ByteArray) (ma : Int) (w : World) (hx : Blk w g 74 #[.string s, .slice A n c, .int .i64 ma]) (h : StrRow w A n ss) (hn : n ≤ 1048576) :
    Calls Tryz.prog 79 #[.string id, .pointer (some ⟨g, 0, none⟩)] w fun e w' => e = .returned (.bool (anyB (fun i => id.toList == (ss i).toList) n)) ∧ Below w.heap.size w w' := by
  have x1 := (hx.cell 1).trans rfl
  have H := Lib.hid h
  clear hx h
  go_enter Tryz.func79, Tryz.ntmps79
  go_wp2_with (go_at_call 80; refine (containsS_calls _ _ _ _ _ _ H.out hn).mono ?_; rintro e w1 ⟨rfl, rfl⟩)
  go_ret
  exact ⟨rfl, Below.refl _ _⟩
set_option maxHeartbeats 1000000 in
theorem anyStr_index (A : Option Addr) (n c : Nat) (q : Nat → ByteArray) (g : Nat) (p : Nat → Bool) (w : World) (h : StrRow w A n q) (hn : n ≤ 1048576) (hp : ∀ k W, k < n → Below w.heap.size w W → Calls Tryz.prog 79 #[.string (q k), .pointer (some ⟨g, 0, none⟩)] W fun e w' => e = .returned (.bool (p k)) ∧ Below W.heap.size W w') :
    Calls Tryz.prog 104 #[.slice A n c, .func (.func 79) #[] #[.pointer (some ⟨g, 0, none⟩)]] w fun e w' => (∃ x : Int, decide (0 ≤ x) = anyB p n ∧ e = .returned (.int .i64 x)) ∧ Below w.heap.size w w' := by
  have H := Lib.hid h
  have HP := Lib.hid hp
  generalize hres : anyB p n = R
  have HRES := Lib.hid hres
  clear h hp hres
  go_enter Tryz.func104, Tryz.ntmps104
  go_wp2
  go_loopw [8] (fun i wr => ∃ k : Nat, k ≤ n ∧ i = .int .i64 k ∧ Hid (allB (fun i => !p i) k = true) ∧ Below w.heap.size w wr) (fun i _ => n - (intOf i).toNat)
  case atStart => exact ⟨0, by omega, rfl, rfl, Below.refl _ _⟩
  case round =>
    obtain ⟨k, hk, rfl, hgood, hbr⟩ := hrel
    by_cases hlt : k < n
    · obtain ⟨b, o, rfl, hrow⟩ := H.out (by omega)
      have c0 := cell_keep hbr (hrow k hlt)
      have HR := Lib.hid hrow
      clear hrow
      have HC := Lib.hid (HP.out k wr hlt hbr)
      cases q1 : p k
      · rw [q1] at HC
        go_wp2_with (go_at_call 79; with_reducible refine HC.out.mono ?_; rintro e w1 ⟨rfl, hb⟩; have hbr2 := hbr.trans (hb.mono hbr.size); clear hb)
        go_roundw
        case rel => exact ⟨k + 1, by omega, by go_num, Lib.hid (by rw [show allB (fun i => !p i) (k + 1) = (allB (fun i => !p i) k && !p k) from rfl, hgood.out, q1]; rfl), hbr2⟩
        case measure => simp [intOf]; omega
      · rw [q1] at HC
        go_wp2_with (go_at_call 79; with_reducible refine HC.out.mono ?_; rintro e w1 ⟨rfl, hb⟩; have hbr2 := hbr.trans (hb.mono hbr.size); clear hb)
        go_ret
        exact ⟨⟨k, by rw [← HRES.out, anyB_hit hlt q1]; exact decide_eq_true (by omega), rfl⟩, hbr2⟩
    · obtain rfl : k = n := by omega
      go_wp2
      go_ret
      exact ⟨⟨-1, by rw [← HRES.out]; simp [anyB, hgood.out], rfl⟩, hbr⟩
set_option maxHeartbeats 400000 in
theorem anyStr (A : Option Addr) (n c : Nat) (q : Nat → ByteArray) (g : Nat) (p : Nat → Bool) (w : World) (h : StrRow w A n q) (hn : n ≤ 1048576) (hp : ∀ k W, k < n → Below w.heap.size w W → Calls Tryz.prog 79 #[.string (q k), .pointer (some ⟨g, 0, none⟩)] W fun e w' => e = .returned (.bool (p k)) ∧ Below W.heap.size W w') :
    Calls Tryz.prog 78 #[.slice A n c, .func (.func 79) #[] #[.pointer (some ⟨g, 0, none⟩)]] w fun e w' => e = .returned (.bool (anyB p n)) ∧ Below w.heap.size w w' := by
  go_enter Tryz.func78, Tryz.ntmps78
  go_wp2_with (go_at_call 104; refine (anyStr_index A n c q g p w h hn hp).mono ?_; rintro e w1 ⟨⟨x, hx, rfl⟩, hb⟩)
  go_ret
  exact ⟨by first | rfl | exact ret_bool hx, hb⟩
set_option maxHeartbeats 1000000 in
theorem shares_calls (s : ByteArray) (A : Option Addr) (n c : Nat) (ss : Nat → ByteArray) (ma : Int) (s2 : ByteArray) (A2 : Option Addr) (n2 c2 : Nat) (ss2 : Nat → ByteArray) (ma2 : Int) (w : World) (h : StrRow w A n ss) (hn : n ≤ 1048576) (h2 : StrRow w A2 n2 ss2) (hn2 : n2 ≤ 1048576) :
    Calls Tryz.prog 51 #[.agg #[.string s, .slice A n c, .int .i64 ma], .agg #[.string s2, .slice A2 n2 c2, .int .i64 ma2]] w fun e w' => e = .returned (.bool (commonB ⟨s, n, ss, ma⟩ ⟨s2, n2, ss2, ma2⟩)) ∧ Below w.heap.size w w' := by
  have hal := ((Below.refl w.heap.size w).alloc (Nat.le_refl _) (.cells #[.string s, .slice A n c, .int .i64 ma] 74)).alloc (by simp) (.cells #[.string s2, .slice A2 n2 c2, .int .i64 ma2] 74)
  have HX := Lib.hid (Blk.new2 w (.cells #[.string s, .slice A n c, .int .i64 ma] 74) 74 #[.string s2, .slice A2 n2 c2, .int .i64 ma2])
  have H2 := Lib.hid (h2.keep hal)
  have HQ := Lib.hid (anyStr A n c ss (w.heap.size + 1) (fun i => anyB (fun j => (ss i).toList == (ss2 j).toList) n2) _ (h.keep hal) hn (fun k W hk hb => shares1_calls (w.heap.size + 1) (ss k) s2 A2 n2 c2 ss2 ma2 W (HX.out.keep hb) (H2.out.keep hb) hn2))
  have HAL := Lib.hid hal
  clear hal h h2
  go_enter Tryz.func51, Tryz.ntmps51
  go_wp2_with (go_at_call 78; with_reducible refine HQ.out.mono ?_; rintro e w1 ⟨rfl, hb⟩)
  go_ret
  exact ⟨rfl, HAL.out.trans (hb.mono HAL.out.size)⟩
set_option maxHeartbeats 1000000 in
theorem validMelts1_calls (g : Nat) (s : ByteArray) (A : Option Addr) (n c : Nat) (ss : Nat → ByteArray) (ma : Int) (s2 : ByteArray) (A2 : Option Addr) (n2 c2 : Nat) (ss2 : Nat → ByteArray) (ma2 : Int) (w : World) (hx : Blk w g 74 #[.string s, .slice A n c, .int .i64 ma]) (h : StrRow w A n ss) (hn : n ≤ 1048576) (h2 : StrRow w A2 n2 ss2) (hn2 : n2 ≤ 1048576) :
    Calls Tryz.prog 50 #[.agg #[.string s2, .slice A2 n2 c2, .int .i64 ma2], .pointer (some ⟨g, 0, none⟩)] w fun e w' => e = .returned (.bool (commonB ⟨s, n, ss, ma⟩ ⟨s2, n2, ss2, ma2⟩)) ∧ Below w.heap.size w w' := by
  have hal := (Below.refl w.heap.size w).alloc (Nat.le_refl _) (.cells #[.string s2, .slice A2 n2 c2, .int .i64 ma2] 74)
  have y0 := ((hx.keep hal).cell 0).trans rfl
  have y1 := ((hx.keep hal).cell 1).trans rfl
  have y2 := ((hx.keep hal).cell 2).trans rfl
  have H := Lib.hid (h.keep hal)
  have H2 := Lib.hid (h2.keep hal)
  have HAL := Lib.hid hal
  have hgl := hx.lt
  have x0 := (hx.cell 0).trans rfl
  have x1 := (hx.cell 1).trans rfl
  have x2 := (hx.cell 2).trans rfl
  clear hx hal h h2
  go_enter Tryz.func50, Tryz.ntmps50
  go_wp2_with (go_at_call 51; refine (shares_calls _ _ _ _ _ _ _ _ _ _ _ _ _ H.out hn H2.out hn2).mono ?_; rintro e w1 ⟨rfl, hb⟩)
  go_ret
  exact ⟨rfl, HAL.out.trans (hb.mono HAL.out.size)⟩
end Go.Proofs.YticnpibkpfpojaaGreatDoor
