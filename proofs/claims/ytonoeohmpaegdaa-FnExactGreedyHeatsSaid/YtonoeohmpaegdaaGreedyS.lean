/- GreedyHeats (the reference's). -/
import Derived.Test.YtonoeohmpaegdaaGreedyO
import Derived.Test.YtonoeohmpaegdaaPours
import Derived.Test.YtonoeohmpaegdaaCrucs
namespace Go.Proofs.Ytonoeohmpaegdaa
set_option linter.unusedVariables false
open Go.RowKit Go.Sort

def lenOf : Value → Nat
  | .slice _ n _ => n
  | _ => 0
def dueV : Option Nat → Int
  | none => -1
  | some b => (b : Int)
theorem due_yes {d : Nat → Int} {dn : Nat → Bool} {i : Nat} (h1 : dn i = false) (h2 : dueBt d (dueS d dn i) i = true) : dueS d dn (i + 1) = some i := by
  show (bif !dn i && dueBt d (dueS d dn i) i then _ else _) = _
  rw [h1, h2]; rfl
theorem due_no {d : Nat → Int} {dn : Nat → Bool} {i : Nat} (h : (!dn i && dueBt d (dueS d dn i) i) = false) : dueS d dn (i + 1) = dueS d dn i := by
  show (bif !dn i && dueBt d (dueS d dn i) i then _ else _) = _
  rw [h]; rfl
set_option maxRecDepth 20000 in
set_option maxHeartbeats 4000000 in
theorem l17Due_calls (A : Option Addr) (n c : Nat) (ps : Nat → ByteArray) (pm pr pd : Nat → Int) (gd cd : Nat) (dn : Nat → Bool) (w : World) (h : PourRow w A n ps pm pr pd) (hd : ∀ i, i < n → w.cell? ⟨gd, i, none⟩ = some (.bool (dn i))) (hn : n ≤ 1048576) :
    Calls Try.prog 57 #[.slice A n c, .slice (some ⟨gd, 0, none⟩) n cd] w fun e w' => e = .returned (.int .i64 (dueV (dueS pd dn n))) ∧ Below w.heap.size w w' := by
  have H := Lib.hid h
  have HD := Lib.hid hd
  generalize hres : dueV (dueS pd dn n) = R
  have HRES := Lib.hid hres
  clear h hd hres
  go_enter Try.func57, Try.ntmps57
  go_wp2
  go_loopw [6, 5] (fun i v wr => ∃ (k : Nat) (y : Int), k ≤ n ∧ i = .int .i64 k ∧ v = .int .i64 y ∧ Hid (y = dueV (dueS pd dn k)) ∧ Below w.heap.size w wr) (fun i _ _ => n - (intOf i).toNat)
  case atStart => exact ⟨0, -1, by omega, rfl, rfl, rfl, Below.refl _ _⟩
  case round =>
    obtain ⟨k, y, hk, rfl, rfl, hy, hbr⟩ := hrel
    by_cases hlt : k < n
    · obtain ⟨b, o, rfl, hrow⟩ := H.out (by omega)
      obtain ⟨-, -, -, c3⟩ := (hrow k hlt).below hbr (Nat.le_refl _)
      have d0 := (hbr.cell (p := ⟨gd, k, none⟩) (cell_lt (HD.out k hlt))).trans (HD.out k hlt)
      cases q1 : dn k
      · rw [q1] at d0
        cases q2 : dueS pd dn k with
        | none =>
          rw [q2] at hy
          obtain rfl : y = -1 := hy.out
          have HY := Lib.hid (due_yes (d := pd) q1 (by rw [q2]; rfl))
          have HR := Lib.hid hrow
          clear hrow
          go_wp2_with fail
          go_quiet (fail)
          go_wp2
          go_roundw
          case rel => exact ⟨k + 1, k, by omega, by go_num, rfl, Lib.hid (by rw [HY.out]; rfl), below_drewN hbr _⟩
          case measure => simp [intOf]; omega
        | some x =>
          rw [q2] at hy
          obtain rfl : y = (x : Int) := hy.out
          have hinv := due_inv pd dn k
          rw [q2] at hinv
          have hx : x < n := by have := hinv.1; omega
          obtain ⟨-, -, -, e3⟩ := (hrow x hx).below hbr (Nat.le_refl _)
          have HR := Lib.hid hrow
          clear hinv hrow
          have hx0 : ¬ (x : Int) < 0 := by omega
          have hx1 : decide ((x : Int) < 0) = false := decide_eq_false hx0
          cases q3 : decide (pd k < pd x)
          · have HY := Lib.hid (due_no (d := pd) (dn := dn) (i := k) (by rw [q1, q2]; exact q3))
            go_wp2_with fail
            go_quiet (fail)
            go_wp2
            go_roundw
            case rel => exact ⟨k + 1, x, by omega, by go_num, rfl, Lib.hid (by rw [HY.out, q2]; rfl), below_drewN hbr _⟩
            case measure => simp [intOf]; omega
          · have HY := Lib.hid (due_yes (d := pd) (dn := dn) (i := k) q1 (by rw [q2]; exact q3))
            go_wp2_with fail
            go_quiet (fail)
            go_wp2
            go_roundw
            case rel => exact ⟨k + 1, k, by omega, by go_num, rfl, Lib.hid (by rw [HY.out]; rfl), below_drewN hbr _⟩
            case measure => simp [intOf]; omega
      · rw [q1] at d0
        have HY := Lib.hid (due_no (d := pd) (dn := dn) (i := k) (by rw [q1]; rfl))
        have HR := Lib.hid hrow
        clear hrow
        go_wp2_with fail
        go_quiet (fail)
        go_wp2
        go_roundw
        case rel => exact ⟨k + 1, y, by omega, by go_num, rfl, Lib.hid (by rw [HY.out]; exact hy.out), below_drewN hbr _⟩
        case measure => simp [intOf]; omega
    · obtain rfl : n = k := by omega
      go_wp2
      go_ret
      exact ⟨ret_int (by rw [← HRES.out]; exact hy.out), hbr⟩
theorem next_s {D : GP} {L : List HeatV} {p c : Nat} : ∃ x y z : Int, ((D.cc c < D.pm p ∧ x = 0 ∧ y = 0 ∧ z = 5) ∨ (D.pm p ≤ D.cc c ∧ D.pd p < D.st L p c + D.ch c ∧ x = 0 ∧ y = 0 ∧ z = 6) ∨ (D.pm p ≤ D.cc c ∧ D.st L p c + D.ch c ≤ D.pd p ∧ x = D.st L p c ∧ y = D.st L p c + D.ch c ∧ z = 0)) ∧
    ((D.ok L p c = true ∧ x = D.st L p c ∧ y = D.st L p c + D.ch c ∧ z = 0) ∨ (D.ok L p c = false ∧ (z = 5 ∨ z = 6))) := by
  by_cases h1 : D.pm p ≤ D.cc c
  · by_cases h2 : D.st L p c + D.ch c ≤ D.pd p
    · refine ⟨_, _, _, Or.inr (Or.inr ⟨h1, h2, rfl, rfl, rfl⟩), Or.inl ⟨?_, rfl, rfl, rfl⟩⟩
      unfold GP.ok
      rw [decide_eq_true h1, decide_eq_true h2]; rfl
    · refine ⟨_, _, _, Or.inr (Or.inl ⟨h1, by omega, rfl, rfl, rfl⟩), Or.inr ⟨?_, Or.inr rfl⟩⟩
      unfold GP.ok
      rw [decide_eq_false h2, Bool.and_false]
  · refine ⟨_, _, _, Or.inl ⟨by omega, rfl, rfl, rfl⟩, Or.inr ⟨?_, Or.inl rfl⟩⟩
    unfold GP.ok
    rw [decide_eq_false h1]; rfl
theorem own_storeH {w : World} {base : Nat} {e : TypeId} {size n : Nat} {v : Value} {xs : List Value} {p : Addr} (h : w.ownsRow base e size v n xs) (hp : p.block < base) (u : Value) : (w.setCell p u).ownsRow base e size v n xs :=
  h.kept (row := some p.block) (gb_set (World.grownBy.refl _ _) rfl u) (by
    cases hb : v.ownBlock with
    | none => exact .inl rfl
    | some k => exact .inr fun e => by have := (h.lt k hb).1; injection e with e; omega)
theorem heatOwn_len {w : World} {base n : Nat} {v : Value} {L : List HeatV} (hl : L.length = n) (ho : w.ownsRow base 105 4 v n (heatsL L)) : ∃ A c G, v = .slice A L.length c ∧ HeatOwn w A L.length (ha0 L) (ha1 L) (ha2 L) (ha3 L) G ∧ base ≤ G := by
  subst hl
  exact heatOwn_of ho
set_option maxRecDepth 20000 in
set_option maxHeartbeats 8000000 in
theorem sGreedyHeats_calls (A : Option Addr) (n c : Nat) (ps : Nat → ByteArray) (pm pr pd : Nat → Int) (B : Option Addr) (m c2 : Nat) (cs : Nat → ByteArray) (cc ch cf : Nat → Int) (w : World) (hps : ∀ i, i < n → (ps i).size ≤ maxLen) (hcs : ∀ i, i < m → (cs i).size ≤ maxLen) (h : PourRow w A n ps pm pr pd) (h2 : CrucibleRow w B m cs cc ch cf) (hn : n ≤ 1048576) (hm : m ≤ 1048576) :
    Calls Try.prog 20 #[.slice A n c, .slice B m c2] w fun e w' => GhOut w n ps pm pr pd m cs cc ch cf e w' := by
  have H := Lib.hid h
  have H2 := Lib.hid h2
  clear h h2
  cases q1 : poursB n ps pm pr pd
  · go_enter Try.func20, Try.ntmps20
    go_wp2_with (go_at_call 54; refine (spec_l17Pours_calls A n c ps pm pr pd w H.out hps (by unfold maxLen; omega)).mono ?_; rintro e w1 ⟨rfl, hb1⟩; rw [show (allB (goodAt (fun i => pourB (ps i) (pm i) (pr i) (pd i)) ps) n && decide ((n : Int) ≤ 12)) = _ from q1]; have HB := Lib.hid hb1; clear hb1)
    exact bodyPost_ret (v := .tuple #[.slice none 0 0, .int .i64 1]) (by simp [results, Try.results20, go_sem]) rfl (GhOut.none HB.out (by simp only [ghL, q1]; rfl) (by simp only [ghC, q1]; rfl))
  · cases q2 : crucsB m cs cc ch cf
    · go_enter Try.func20, Try.ntmps20
      go_wp2_with (first | (go_at_call 54; refine (spec_l17Pours_calls A n c ps pm pr pd w H.out hps (by unfold maxLen; omega)).mono ?_; rintro e w1 ⟨rfl, hb1⟩; rw [show (allB (goodAt (fun i => pourB (ps i) (pm i) (pr i) (pd i)) ps) n && decide ((n : Int) ≤ 12)) = _ from q1]; have HB := Lib.hid hb1; clear hb1) | (go_at_call 55; refine (spec_l17Crucibles_calls B m c2 cs cc ch cf w1 (H2.out.below HB.out (Nat.le_refl _)) hcs (by unfold maxLen; omega)).mono ?_; rintro e w2 ⟨rfl, hb2⟩; have HB2 := Lib.hid (HB.out.trans (hb2.mono HB.out.size)); rw [show (allB (goodAt (fun i => crucB (cs i) (cc i) (ch i) (cf i)) cs) m && (decide ((1 : Int) ≤ m) && decide ((m : Int) ≤ 4))) = _ from q2]; clear hb2))
      exact bodyPost_ret (v := .tuple #[.slice none 0 0, .int .i64 1]) (by simp [results, Try.results20, go_sem]) rfl (GhOut.none HB2.out (by simp only [ghL, q1, q2]; rfl) (by simp only [ghC, q1, q2]; rfl))
    · obtain ⟨hn12, hpo⟩ := poursB_of q1
      obtain ⟨hm0, hm4, hcr⟩ := crucsB_of q2
      have HPO := Lib.hid hpo
      have HCR := Lib.hid hcr
      have HFT := Lib.hid (fit_of q1 q2)
      obtain ⟨i1, hj, hy0, hy1, hy2⟩ := info_parts Heat_info
      have ghc : ∀ b, allB (⟨n, m, pm, pr, pd, cc, ch, cf⟩ : GP).got n = b → ghC n ps pm pr pd m cs cc ch cf = (bif b then 0 else 3) := fun b hb => by simp only [ghC, q1, q2, hb]; rfl
      have ghl : ∀ b, allB (⟨n, m, pm, pr, pd, cc, ch, cf⟩ : GP).got n = b → ghL n ps pm pr pd m cs cc ch cf = (bif b then (⟨n, m, pm, pr, pd, cc, ch, cf⟩ : GP).hs n else []) := fun b hb => by simp only [ghL, q1, q2, hb]; rfl
      have GHC := Lib.hid ghc
      have GHL := Lib.hid ghl
      obtain ⟨ib, hib, hzb0, hzb1, hzb2⟩ := info_parts bool_info
      have hmkA := fun W => run_make_rowN (P := Try.prog) 73 4 ib _ Try.underlying73 hib hzb0 .i64 .i64 n n (Nat.le_refl _) (by rw [hzb2]; omega) (by omega) W
      rw [hzb1] at hmkA
      have hD0 : Hid (∀ x, x < n → (madeCells (Value.cells (.bool false)) (n * 1))[x]? = some (.bool false)) := Lib.hid fun x hx => by rw [Nat.mul_one]; exact madeBools_at hx
      generalize madeCells (Value.cells (.bool false)) (n * 1) = arr0 at hmkA hD0
      have HMK := Lib.hid hmkA
      clear hpo hcr ghc ghl hmkA hib hzb0 hzb1 hzb2
      go_enter Try.func20, Try.ntmps20
      go_wp2_with (first | (go_at_call 54; refine (spec_l17Pours_calls A n c ps pm pr pd w H.out hps (by unfold maxLen; omega)).mono ?_; rintro e w1 ⟨rfl, hb1⟩; rw [show (allB (goodAt (fun i => pourB (ps i) (pm i) (pr i) (pd i)) ps) n && decide ((n : Int) ≤ 12)) = _ from q1]; have HB := Lib.hid hb1; clear hb1) | (go_at_call 55; refine (spec_l17Crucibles_calls B m c2 cs cc ch cf w1 (H2.out.below HB.out (Nat.le_refl _)) hcs (by unfold maxLen; omega)).mono ?_; rintro e w2 ⟨rfl, hb2⟩; have HB2 := Lib.hid (HB.out.trans (hb2.mono HB.out.size)); rw [show (allB (goodAt (fun i => crucB (cs i) (cc i) (ch i) (cf i)) cs) m && (decide ((1 : Int) ≤ m) && decide ((m : Int) ≤ 4))) = _ from q2]; clear hb2) | (go_at_call 56; refine (l17Frees_calls B m c2 cs cc ch cf w2 (H2.out.below HB2.out (Nat.le_refl _)) hm).mono ?_; rintro e w3 ⟨⟨v, rfl, hown⟩, hb3⟩; refine Hid.out ?_))
      refine Lib.hid ?_
      obtain ⟨g, cap, cur, rfl, hg0, hblk, hcap, hcm, hcs3, hcur⟩ := own_blk hown hm0
      have hgd := hblk.lt
      have HG0 := Lib.hid hblk
      have HCU : Hid (∀ x, x < m → cur[x]? = some (.int .i64 ((⟨n, m, pm, pr, pd, cc, ch, cf⟩ : GP).fr ((⟨n, m, pm, pr, pd, cc, ch, cf⟩ : GP).hs 0) x))) := Lib.hid fun x hx => (hcur x (by omega)).trans (intsL_at cf hx)
      have B3 := Lib.hid (HB2.out.trans (hb3.mono HB2.out.size))
      have hmk := HMK.out w3
      unfold maxLen at hcm
      have hz3 := B3.out.size
      have hz2 := HB2.out.size
      have HL0 : Hid (((w3.alloc (.cells arr0 4)).alloc (.cells #[] 105)).ownsRow (w3.heap.size + 1) 105 4 (.slice (some ⟨w3.heap.size + 1, 0, none⟩) 0 0) 0 (heatsL ((⟨n, m, pm, pr, pd, cc, ch, cf⟩ : GP).hs 0))) := Lib.hid (by
        have q := World.ownsRow_lit (base := w3.heap.size + 1) (e := 105) (size := 4) (w3.alloc (.cells arr0 4)) #[] 0 (by simp) (by unfold maxLen; omega) rfl
        rw [show (w3.alloc (.cells arr0 4)).heap.size = w3.heap.size + 1 by simp] at q
        exact q)
      clear hown hblk hcur hcs3 hb3 q1 q2
      go_wp2
      clear hmk
      go_loopw [8] (fun v wo => ∃ (k : Nat) (Ah : Option Addr) (chp : Nat) (cu ar : Array Value), k ≤ n ∧ v = .slice Ah k chp ∧ Hid (allB (⟨n, m, pm, pr, pd, cc, ch, cf⟩ : GP).got k = true) ∧ Hid (wo.ownsRow (w3.heap.size + 1) 105 4 (.slice Ah k chp) k (heatsL ((⟨n, m, pm, pr, pd, cc, ch, cf⟩ : GP).hs k))) ∧ Hid (Blk wo g 2 cu) ∧ Hid (Blk wo w3.heap.size 4 ar) ∧ Hid (∀ x, x < m → cu[x]? = some (.int .i64 ((⟨n, m, pm, pr, pd, cc, ch, cf⟩ : GP).fr ((⟨n, m, pm, pr, pd, cc, ch, cf⟩ : GP).hs k) x))) ∧ Hid (∀ x, x < n → ar[x]? = some (.bool ((⟨n, m, pm, pr, pd, cc, ch, cf⟩ : GP).doneB k x))) ∧ Below w.heap.size w wo ∧ w3.heap.size + 1 ≤ wo.heap.size) (fun v _ => n - lenOf v)
      case atStart => exact ⟨0, _, _, cur, arr0, by omega, rfl, rfl, HL0, Lib.hid ((HG0.out.alloc _).alloc _), Lib.hid ((Blk.new w3 _ _).alloc _), HCU, Lib.hid fun x hx => hD0.out x hx, (B3.out.alloc hz3 _).alloc (by simp; omega) _, by simp⟩
      case round =>
        clear HG0 HCU hD0
        obtain ⟨wo, hwo⟩ : ∃ wo, wo = wr := ⟨_, rfl⟩
        subst hwo
        obtain ⟨k, Ah, chp, cu, ar, hk, rfl, hgood, hown, hbg, hbd, hcu, har, hbr, hwo3⟩ := hrel
        by_cases hlt : k < n
        · have HX := Lib.hid (due_is (⟨n, m, pm, pr, pd, cc, ch, cf⟩ : GP) (show k < (⟨n, m, pm, pr, pd, cc, ch, cf⟩ : GP).n from hlt))
          have hX0 : ((⟨n, m, pm, pr, pd, cc, ch, cf⟩ : GP)).o k < n := GP.o_lt (D := (⟨n, m, pm, pr, pd, cc, ch, cf⟩ : GP)) hlt
          have hfr0 := GP.fr_bd HFT.out k (by show k ≤ n; omega)
          have hgk : (⟨n, m, pm, pr, pd, cc, ch, cf⟩ : GP).got k = ((⟨n, m, pm, pr, pd, cc, ch, cf⟩ : GP).best ((⟨n, m, pm, pr, pd, cc, ch, cf⟩ : GP).hs k) ((⟨n, m, pm, pr, pd, cc, ch, cf⟩ : GP).o k) m).isSome := rfl
          have hsk : (⟨n, m, pm, pr, pd, cc, ch, cf⟩ : GP).hs (k + 1) = (⟨n, m, pm, pr, pd, cc, ch, cf⟩ : GP).hs k ++ ((⟨n, m, pm, pr, pd, cc, ch, cf⟩ : GP).best ((⟨n, m, pm, pr, pd, cc, ch, cf⟩ : GP).hs k) ((⟨n, m, pm, pr, pd, cc, ch, cf⟩ : GP).o k) m).toList := rfl
          have hdk : ∀ x, (⟨n, m, pm, pr, pd, cc, ch, cf⟩ : GP).doneB (k + 1) x = ((⟨n, m, pm, pr, pd, cc, ch, cf⟩ : GP).doneB k x || ((⟨n, m, pm, pr, pd, cc, ch, cf⟩ : GP).o k == x)) := fun x => anyB_succ _ _
          have HLEN := Lib.hid (GP.hs_len k hgood.out)
          generalize hXe : (⟨n, m, pm, pr, pd, cc, ch, cf⟩ : GP).o k = X at hX0 hgk hsk hdk HX
          generalize hLe : (⟨n, m, pm, pr, pd, cc, ch, cf⟩ : GP).hs k = L at hfr0 hgk hsk hown hcu HLEN
          have HGK := Lib.hid hgk
          have HSK := Lib.hid hsk
          have HFR := Lib.hid hfr0
          have HDK := Lib.hid hdk
          have HDU := Lib.hid (l17Due_calls A n c ps pm pr pd w3.heap.size n ((⟨n, m, pm, pr, pd, cc, ch, cf⟩ : GP).doneB k) wo (H.out.below hbr (Nat.le_refl _)) (fun i hi => (hbd.out.cell i).trans (har.out i hi)) hn)
          clear hXe hLe hgk hsk hfr0 hdk
          go_wp2_with (go_at_call 57; refine HDU.out.mono ?_; rintro e w5 ⟨rfl, hb5⟩; rw [show dueS pd ((⟨n, m, pm, pr, pd, cc, ch, cf⟩ : GP).doneB k) n = some X from HX.out, show dueV (some X) = (X : Int) from rfl]; have hown5 := Lib.hid (own_keep hown.out hb5); have hbg5 := Lib.hid (hbg.out.keep hb5); have hbd5 := Lib.hid (hbd.out.keep hb5); have B5 := Lib.hid (hbr.trans (hb5.mono hbr.size)); have hz5 := hb5.size; clear hb5)
          clear HDU hown hbg hbd
          go_loopw [11] (fun i wi => ∃ q : Nat, q ≤ m ∧ i = .int .i64 q ∧ Hid (Blk wi w5.heap.size 105 (bestS ((⟨n, m, pm, pr, pd, cc, ch, cf⟩ : GP).best L X q))) ∧ Below w5.heap.size w5 wi) (fun i _ => m - (intOf i).toNat)
          case atStart => exact ⟨0, by omega, rfl, Lib.hid (Blk.new w5 _ _), (Below.refl _ _).alloc (Nat.le_refl _) _⟩
          case round =>
            obtain ⟨wi, hwi⟩ : ∃ wi, wi = wr := ⟨_, rfl⟩
            subst hwi
            obtain ⟨q, hq, rfl, hbk, hbi⟩ := hrel
            have HBI := Lib.hid hbi
            have HB3 := Lib.hid (B5.out.trans (hbi.mono B5.out.size))
            by_cases hqm : q < m
            · obtain ⟨b, o, rfl, hrow⟩ := H.out (by omega)
              obtain ⟨b2, o2, rfl, hrow2⟩ := H2.out (by omega)
              obtain ⟨-, u1, u2, u3⟩ := (hrow X hX0).below HB3.out (Nat.le_refl _)
              obtain ⟨-, v1, v2, -⟩ := (hrow2 q hqm).below HB3.out (Nat.le_refl _)
              have f0 := ((hbg5.out.keep hbi).cell q).trans (hcu.out q hqm)
              obtain ⟨va, vb, vc, hs1, hcase⟩ := next_s (D := (⟨n, m, pm, pr, pd, cc, ch, cf⟩ : GP)) (L := L) (p := X) (c := q)
              obtain ⟨r0, r1, r2⟩ := HFT.out.1 X hX0
              obtain ⟨⟨h0, h1⟩, i0, i1⟩ := HFT.out.2 q hqm
              obtain ⟨j0, j1⟩ := HFR.out q hqm
              have HN := Lib.hid (show ∀ j, Calls Try.prog 58 #[.pointer (some ⟨b, o + X * 4, none⟩), .pointer (some ⟨b2, o2 + q * 4, none⟩), .int .i64 ((⟨n, m, pm, pr, pd, cc, ch, cf⟩ : GP).fr L q)] (wi.drewN j) (fun e w' => e = .returned (.tuple #[.int .i64 va, .int .i64 vb, .int .i64 vc]) ∧ ∃ m', w' = (wi.drewN j).drewN m') from fun j => snext_calls b (o + X * 4) b2 (o2 + q * 4) (pm X) (pr X) (pd X) (cc q) (ch q) ((⟨n, m, pm, pr, pd, cc, ch, cf⟩ : GP).fr L q) ((⟨n, m, pm, pr, pd, cc, ch, cf⟩ : GP).st L X q) va vb vc (wi.drewN j) u1 u2 u3 v1 v2 r0 r1 h0 h1 (Int.le_trans i0 j0) j1 rfl hs1)
              have HCASE := Lib.hid hcase
              have HR := Lib.hid hrow
              have HR2 := Lib.hid hrow2
              generalize (⟨n, m, pm, pr, pd, cc, ch, cf⟩ : GP).fr L q = F at f0 HN j0 j1
              clear hs1 hcase hrow hrow2 u1 u2 u3 v1 v2 r0 r1 r2 h0 h1 i0 i1 j0 j1
              go_wp2_with fail
              go_quiet ((go_at_call 58; with_reducible exact quiet_more (HN.out _)))
              generalize hwd : wi.drewN nq = wd
              have z10 : Blk wd w5.heap.size 105 (bestS ((⟨n, m, pm, pr, pd, cc, ch, cf⟩ : GP).best L X q)) := by rw [← hwd]; exact hbk.out.drewN _
              have HK4 := Lib.hid z10
              have HB4 : Hid (Below w5.heap.size w5 wd) := Lib.hid (by rw [← hwd]; exact below_drewN HBI.out _)
              have y0 := z10.frozen
              clear hwd f0 HN hbk hbi HBI
              rcases HCASE.out with ⟨k1, rfl, rfl, rfl⟩ | ⟨k1, kz⟩
              · generalize hS : (⟨n, m, pm, pr, pd, cc, ch, cf⟩ : GP).st L X q = S
                cases hb : (⟨n, m, pm, pr, pd, cc, ch, cf⟩ : GP).best L X q with
                | none =>
                  have hyes := best_yes (D := (⟨n, m, pm, pr, pd, cc, ch, cf⟩ : GP)) k1 (by rw [hb]; rfl)
                  rw [hb] at z10
                  have x0 : wd.cell? ⟨w5.heap.size, 0, none⟩ = some (.int .i64 (-1)) := (z10.cell 0).trans rfl
                  have x1 : wd.cell? ⟨w5.heap.size, 1, none⟩ = some (.int .i64 0) := (z10.cell 1).trans rfl
                  have x2 : wd.cell? ⟨w5.heap.size, 2, none⟩ = some (.int .i64 0) := (z10.cell 2).trans rfl
                  have x3 : wd.cell? ⟨w5.heap.size, 3, none⟩ = some (.int .i64 0) := (z10.cell 3).trans rfl
                  rw [hS] at hyes
                  have HY := Lib.hid hyes
                  clear hyes z10
                  go_wp2
                  go_roundw
                  case rel =>
                    refine ⟨q + 1, by omega, by go_num, Lib.hid ?_, ?_⟩
                    · rw [HY.out]
                      rw [hb] at HK4
                      exact ((((HK4.out.set_ 0 _).set_ 1 _).set_ 2 _).set_ 3 _)
                    · exact (((HB4.out.setCell (Nat.le_refl _) _).setCell (Nat.le_refl _) _).setCell (Nat.le_refl _) _).setCell (Nat.le_refl _) _
                  case measure => simp [intOf]; omega
                | some h =>
                  rw [hb] at z10
                  have hp0 : h.p = (X : Int) := by obtain ⟨_, -, -, rfl⟩ := GP.best_of hb; rfl
                  have hp1 : ¬ h.p < 0 := by omega
                  have x0 : wd.cell? ⟨w5.heap.size, 0, none⟩ = some (.int .i64 h.p) := (z10.cell 0).trans rfl
                  have x1 : wd.cell? ⟨w5.heap.size, 1, none⟩ = some (.int .i64 h.c) := (z10.cell 1).trans rfl
                  have x2 : wd.cell? ⟨w5.heap.size, 2, none⟩ = some (.int .i64 h.s) := (z10.cell 2).trans rfl
                  have x3 : wd.cell? ⟨w5.heap.size, 3, none⟩ = some (.int .i64 h.e) := (z10.cell 3).trans rfl
                  by_cases hl : S + ch q < h.e
                  · have hyes := best_yes (D := (⟨n, m, pm, pr, pd, cc, ch, cf⟩ : GP)) k1 (by rw [hb, hS]; exact decide_eq_true hl)
                    rw [hS] at hyes
                    have HY := Lib.hid hyes
                    clear hyes z10
                    go_wp2
                    go_roundw
                    case rel =>
                      refine ⟨q + 1, by omega, by go_num, Lib.hid ?_, ?_⟩
                      · rw [HY.out]
                        rw [hb] at HK4
                        exact ((((HK4.out.set_ 0 _).set_ 1 _).set_ 2 _).set_ 3 _)
                      · exact (((HB4.out.setCell (Nat.le_refl _) _).setCell (Nat.le_refl _) _).setCell (Nat.le_refl _) _).setCell (Nat.le_refl _) _
                    case measure => simp [intOf]; omega
                  · have hno := best_no (D := (⟨n, m, pm, pr, pd, cc, ch, cf⟩ : GP)) (L := L) (p := X) (c := q) (by rw [k1, hb, hS]; exact decide_eq_false hl)
                    have HN := Lib.hid hno
                    clear hno z10
                    go_wp2
                    go_roundw
                    case rel => exact ⟨q + 1, by omega, by go_num, Lib.hid (by rw [HN.out]; exact HK4.out), HB4.out⟩
                    case measure => simp [intOf]; omega
              · have hno := best_no (D := (⟨n, m, pm, pr, pd, cc, ch, cf⟩ : GP)) (L := L) (p := X) (c := q) (by rw [k1]; rfl)
                have HN := Lib.hid hno
                clear hno z10
                rcases kz with rfl | rfl
                all_goals
                  go_wp2
                  go_roundw
                all_goals first
                  | exact ⟨q + 1, by omega, by go_num, Lib.hid (by rw [HN.out]; exact HK4.out), HB4.out⟩
                  | (simp [intOf]; omega)
            · obtain rfl : m = q := by omega
              obtain ⟨wd, hwd⟩ : ∃ wd, wd = wi := ⟨_, rfl⟩
              subst hwd
              have z10 := hbk.out
              cases hb : (⟨n, m, pm, pr, pd, cc, ch, cf⟩ : GP).best L X m with
              | none =>
                rw [hb] at z10
                have x0 : wd.cell? ⟨w5.heap.size, 0, none⟩ = some (.int .i64 (-1)) := (z10.cell 0).trans rfl
                have x1 : wd.cell? ⟨w5.heap.size, 1, none⟩ = some (.int .i64 0) := (z10.cell 1).trans rfl
                have x2 : wd.cell? ⟨w5.heap.size, 2, none⟩ = some (.int .i64 0) := (z10.cell 2).trans rfl
                have x3 : wd.cell? ⟨w5.heap.size, 3, none⟩ = some (.int .i64 0) := (z10.cell 3).trans rfl
                have hgn : allB (⟨n, m, pm, pr, pd, cc, ch, cf⟩ : GP).got n = false := got_no hlt (by rw [HGK.out, hb]; rfl)
                have HGN := Lib.hid hgn
                clear hgn z10
                go_wp2
                exact bodyPost_ret (v := .tuple #[.slice none 0 0, .int .i64 3]) (by simp [results, Try.results20, go_sem]) rfl (GhOut.none HB3.out (GHL.out _ HGN.out) (GHC.out _ HGN.out))
              | some h =>
                rw [hb] at z10
                obtain ⟨-, -, -, -, hcN, hcm2, hc3, -, hp0⟩ := GP.best_bd HFT.out HFR.out hX0 (Nat.le_refl m) hb
                have hp1 : ¬ h.p < 0 := by omega
                clear hp0
                have x0 : wd.cell? ⟨w5.heap.size, 0, none⟩ = some (.int .i64 h.p) := (z10.cell 0).trans rfl
                have x1 : wd.cell? ⟨w5.heap.size, 1, none⟩ = some (.int .i64 h.c) := (z10.cell 1).trans rfl
                have x2 : wd.cell? ⟨w5.heap.size, 2, none⟩ = some (.int .i64 h.s) := (z10.cell 2).trans rfl
                have x3 : wd.cell? ⟨w5.heap.size, 3, none⟩ = some (.int .i64 h.e) := (z10.cell 3).trans rfl
                have hsn : (⟨n, m, pm, pr, pd, cc, ch, cf⟩ : GP).hs (k + 1) = L ++ [h] := by rw [HSK.out, hb]; rfl
                have hgn : (⟨n, m, pm, pr, pd, cc, ch, cf⟩ : GP).got k = true := by rw [HGK.out, hb]; rfl
                have HSN := Lib.hid hsn
                have HGN := Lib.hid hgn
                have HC3 := Lib.hid hc3
                have HOW := Lib.hid (own_keep hown5.out hbi)
                have HLT := Lib.hid hown5.out.lt
                have BG4 := Lib.hid (hbg5.out.keep hbi)
                have BD4 := Lib.hid (hbd5.out.keep hbi)
                have BK4 := Lib.hid z10
                have hbs := HBI.out.size
                have hgl := hbg5.out.lt
                have hll := HLEN.out
                obtain ⟨ax, hax⟩ : ∃ x, ar[X]? = some x := ⟨_, har.out X hX0⟩
                obtain ⟨cx, hcx⟩ : ∃ x, cu[hcN]? = some x := ⟨_, hcu.out hcN hcm2⟩
                have HAX := Lib.hid hax
                have HCX := Lib.hid hcx
                have ng1 : ¬ g = w3.heap.size := by omega
                have ng2 : ¬ w3.heap.size = g := by omega
                have ng3 : ¬ w5.heap.size = w3.heap.size := by omega
                have ng4 : ¬ w3.heap.size = w5.heap.size := by omega
                have ng5 : ¬ w5.heap.size = g := by omega
                have ng6 : ¬ g = w5.heap.size := by omega
                clear hsn hgn z10 hbi hbk hax hcx hc3
                go_wp2_with (at_builtin; refine wpList_append_own _ rfl _ _ 44 rfl (w3.heap.size + 1) 105 i1 (.agg #[.int .i64 0, .int .i64 0, .int .i64 0, .int .i64 0]) 4 32 Try.underlying44 hj hy0 hy1 hy2 rfl (by decide) _ _ _ rfl (HOW.out.alloc _) ⟨wd.heap.size, 0, none⟩ 1 1 (heatC h) rfl rfl (fun j u hj => by match j, hj with | 0, hj => simp [heatC] at hj; subst hj; simp [Addr.add] | 1, hj => simp [heatC] at hj; subst hj; simp [Addr.add] | 2, hj => simp [heatC] at hj; subst hj; simp [Addr.add] | 3, hj => simp [heatC] at hj; subst hj; simp [Addr.add]) (fun u hu => by simp [heatC] at hu; rcases hu with rfl | rfl | rfl | rfl <;> rfl) (by unfold maxLen; omega) (by omega) (by simp; omega) ?_; intro v' w9 hown' hgrow _; have BG9 := Lib.hid ((hgrow.block _ (BG4.out.alloc _).lt (fun e => by have := (HLT.out _ e.symm).1; omega)).trans (BG4.out.alloc _)); have BD9 := Lib.hid ((hgrow.block _ (BD4.out.alloc _).lt (fun e => by have := (HLT.out _ e.symm).1; omega)).trans (BD4.out.alloc _)); have BK9 := Lib.hid ((hgrow.block _ (BK4.out.alloc _).lt (fun e => by have := (HLT.out _ e.symm).2; omega)).trans (BK4.out.alloc _)); have B9 := Lib.hid ((HB3.out.alloc HB3.out.size _).grown hgrow (HB3.out.alloc HB3.out.size _).size (fun z hz => by have := (HLT.out z hz).1; omega)); rw [heatsL_snoc] at hown'; obtain ⟨A9, c9, rfl⟩ := own_slice hown'; have hs9 : w3.heap.size + 1 ≤ w9.heap.size := Nat.le_trans (show _ ≤ (wd.alloc _).heap.size by simp; omega) hgrow.size; have k1 : w9.cell? ⟨w5.heap.size, 1, none⟩ = some (.int .i64 hcN) := (show Blk _ _ _ _ from BK9.out).cell 1 |>.trans (by rw [← HC3.out]; rfl); have k3 : w9.cell? ⟨w5.heap.size, 3, none⟩ = some (.int .i64 h.e) := ((show Blk _ _ _ _ from BK9.out).cell 3).trans rfl; have d1 := ((show Blk _ _ _ _ from BD9.out).cell X).trans HAX.out; have d2 := (show Blk _ _ _ _ from BD9.out).frozen X; have d3 := ((show Blk _ _ _ _ from BG9.out).cell hcN).trans HCX.out; have d4 := (show Blk _ _ _ _ from BG9.out).frozen hcN; have HOWN := Lib.hid hown'; clear hown' hgrow x0 x1 x2 x3)
                go_roundw
                case rel =>
                  refine ⟨k + 1, A9, c9, cu.setIfInBounds hcN (.int .i64 h.e), ar.setIfInBounds X (.bool true), by omega, rfl, Lib.hid (by rw [show allB (⟨n, m, pm, pr, pd, cc, ch, cf⟩ : GP).got (k + 1) = (allB (⟨n, m, pm, pr, pd, cc, ch, cf⟩ : GP).got k && (⟨n, m, pm, pr, pd, cc, ch, cf⟩ : GP).got k) from rfl, hgood.out, HGN.out]; rfl), Lib.hid ?_, Lib.hid ?_, Lib.hid ?_, Lib.hid ?_, Lib.hid ?_, ?_, ?_⟩
                  · rw [HSN.out]
                    exact own_storeH (own_storeH HOWN.out (Nat.lt_succ_self _) _) (by show g < _; omega) _
                  · exact (Blk.far BG9.out ng1 _).set_ hcN _
                  · exact (Blk.set_ BD9.out X _).far ng2 _
                  · intro x hx
                    rw [HSN.out, GP.fr_snoc]
                    rcases Nat.decEq x hcN with hxx | rfl
                    · rw [Array.getElem?_setIfInBounds_ne (by omega), hcu.out x hx]
                      have hn2 : (h.c == (x : Int)) = false := by rw [HC3.out]; exact beq_eq_false_iff_ne.2 (by omega)
                      rw [hn2]; rfl
                    · rw [Array.getElem?_setIfInBounds_self_of_lt (Array.getElem?_eq_some_iff.1 (hcu.out _ hx)).1]
                      rw [HC3.out]; simp
                  · intro x hx
                    rw [HDK.out x]
                    rcases Nat.decEq x X with hxx | rfl
                    · rw [Array.getElem?_setIfInBounds_ne (by omega), har.out x hx]
                      have hn2 : (X == x) = false := beq_eq_false_iff_ne.2 (by omega)
                      rw [hn2, Bool.or_false]
                    · rw [Array.getElem?_setIfInBounds_self_of_lt (Array.getElem?_eq_some_iff.1 (har.out _ hx)).1]
                      simp
                  · exact (B9.out.setCell (by show _ ≤ w3.heap.size; omega) _).setCell (by show _ ≤ g; omega) _
                  · simpa using hs9
                case measure => simp [lenOf]; omega
        · obtain rfl : n = k := by omega
          obtain ⟨Ar, cr_, Gr, hv, hho, hgb⟩ := heatOwn_len (GP.hs_len n hgood.out) hown.out
          have HHO := Lib.hid hho
          have HV := Lib.hid hv
          clear hho hv
          go_wp2
          refine bodyPost_ret (v := .tuple #[.slice Ah n chp, .int .i64 0]) (by simp [results, Try.results20, go_sem]) rfl ?_
          unfold GhOut
          rw [GHC.out _ hgood.out, GHL.out _ hgood.out]
          exact ⟨_, rfl, Ar, cr_, Gr, HV.out, HHO.out, by omega, hbr⟩
end Go.Proofs.Ytonoeohmpaegdaa
