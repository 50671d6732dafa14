/- The alloy of a bell, in the program and in the reference. -/
import Derived.Test.YticnpibkpfpojaaGreatMix
import Derived.Test.YticnpibkpfpojaaGreatPossS
import Derived.Test.YticnpibkpfpojaaGreatIngots2
namespace Go.Proofs.YticnpibkpfpojaaGreat
set_option linter.unusedVariables false
set_option linter.unusedSimpArgs false
open Go.RowKit

/-- the melt of share k -/
def shM (g : Nat → MeltV) (m : Nat) (x : BellV) (k : Nat) : MeltV := g (mIx (fun q => (g q).id) m (x.ss k))
def abS (s0 : Nat → ByteArray) (n : Nat) (a1 r : Nat → Int) (g : Nat → MeltV) (m : Nat) (x : BellV) : Nat → Int
  | 0 => 0
  | k + 1 => abS s0 n a1 r g m x k + x.ms k * mT s0 n a1 r (shM g m x k).ss (shM g m x k).n
def abH (s0 : Nat → ByteArray) (n : Nat) (g : Nat → MeltV) (m : Nat) (x : BellV) (k : Nat) : Bool := allB (fun k => allHave s0 n (shM g m x k).ss (shM g m x k).n) k
noncomputable def abC (s0 : Nat → ByteArray) (a1 a2 a3 a4 : Nat → Int) (n : Nat) (g : Nat → MeltV) (m : Nat) (x : BellV) : Int := if okIngs s0 a1 a2 a3 a4 n = true then (if ioC g m x = 0 then (if abH s0 n g m x x.n = true then 0 else 3) else ioC g m x) else 1
def abQ (s0 : Nat → ByteArray) (n : Nat) (a1 r : Nat → Int) (g : Nat → MeltV) (m : Nat) (x : BellV) : Int := abS s0 n a1 r g m x x.n / (x.ma + x.fe)
noncomputable def abF (s0 : Nat → ByteArray) (a1 a2 a3 a4 : Nat → Int) (n : Nat) (g : Nat → MeltV) (m : Nat) (x : BellV) (f : Nat) : Int := if abC s0 a1 a2 a3 a4 n g m x = 0 then (if f = 0 then 1000000 - abQ s0 n a1 a3 g m x - abQ s0 n a1 a4 g m x else if f = 1 then abQ s0 n a1 a3 g m x else abQ s0 n a1 a4 g m x) else 0
theorem abF_no (s0 : Nat → ByteArray) (a1 a2 a3 a4 : Nat → Int) {n : Nat} {g : Nat → MeltV} {m : Nat} {x : BellV} (h : abC s0 a1 a2 a3 a4 n g m x ≠ 0) (f : Nat) : abF s0 a1 a2 a3 a4 n g m x f = 0 := by unfold abF; rw [if_neg h]
theorem abF_yes (s0 : Nat → ByteArray) (a1 a2 a3 a4 : Nat → Int) {n : Nat} {g : Nat → MeltV} {m : Nat} {x : BellV} (h : abC s0 a1 a2 a3 a4 n g m x = 0) : abF s0 a1 a2 a3 a4 n g m x 0 = 1000000 - abQ s0 n a1 a3 g m x - abQ s0 n a1 a4 g m x ∧ abF s0 a1 a2 a3 a4 n g m x 1 = abQ s0 n a1 a3 g m x ∧ abF s0 a1 a2 a3 a4 n g m x 2 = abQ s0 n a1 a4 g m x := by
  unfold abF
  rw [if_pos h, if_pos h, if_pos h]
  exact ⟨rfl, rfl, rfl⟩
theorem melt_one {w : World} {G : Nat} {T : TypeId} {x : MeltV} {AQ : Option Addr} {CQ : Nat} (h : Blk w G T #[.string x.id, .slice AQ x.n CQ, .int .i64 x.ma]) (hr : StrRow w AQ x.n x.ss) : MeltRow w (some ⟨G, 0, none⟩) 1 (fun _ => x) := fun _ =>
  ⟨G, 0, rfl, fun i hi => by
    obtain rfl : i = 0 := by omega
    exact ⟨AQ, CQ, (h.cell 0).trans rfl, (h.cell 1).trans rfl, (h.cell 2).trans rfl, hr⟩⟩
theorem mul_le7 {x y : Int} (hx : 0 ≤ x ∧ x ≤ 20000000) (hy : 0 ≤ y ∧ y ≤ 1000000) : 0 ≤ x * y ∧ x * y ≤ 20000000000000 := mul_le6 hx hy
theorem abS_bd {s0 : Nat → ByteArray} {n : Nat} {a1 r : Nat → Int} {g : Nat → MeltV} {m : Nat} {x : BellV} {N : Nat} (h : ∀ k, k < N → 0 ≤ x.ms k ∧ x.ms k ≤ 20000000) (h2 : ∀ k, k < N → 0 ≤ mT s0 n a1 r (shM g m x k).ss (shM g m x k).n ∧ mT s0 n a1 r (shM g m x k).ss (shM g m x k).n ≤ 1000000) : ∀ k, k ≤ N → 0 ≤ abS s0 n a1 r g m x k ∧ abS s0 n a1 r g m x k ≤ 20000000000000 * k
  | 0, _ => by simp [abS]
  | k + 1, hk => by
    have ih := abS_bd h h2 k (by omega)
    have h3 := mul_le7 (h k (by omega)) (h2 k (by omega))
    show 0 ≤ abS s0 n a1 r g m x k + x.ms k * mT s0 n a1 r (shM g m x k).ss (shM g m x k).n ∧ abS s0 n a1 r g m x k + x.ms k * mT s0 n a1 r (shM g m x k).ss (shM g m x k).n ≤ _
    omega
theorem bellV_whole {x : BellV} (h : bellV x = true) : (1 ≤ x.ma ∧ x.ma ≤ 20000000) ∧ (0 ≤ x.fe ∧ x.fe ≤ 20000000) ∧ 1 ≤ x.n := by
  unfold bellV bellB at h
  simp only [Bool.and_eq_true, decide_eq_true_eq] at h
  obtain ⟨-, -, -, h3, h4, h5, -⟩ := h
  exact ⟨inB_iff.1 h3, inB_iff.1 h4, by omega⟩
theorem io_parts {g : Nat → MeltV} {m : Nat} {x : BellV} (h : ioC g m x = 0) : okMelts g m = true ∧ bellV x = true ∧ knownB (fun q => (g q).id) m x = true := by
  unfold ioC at h
  split at h
  · rename_i h1
    simp only [Bool.and_eq_true] at h1
    split at h
    · rename_i h3; exact ⟨h1.1, h1.2, h3⟩
    · omega
  · omega
set_option maxRecDepth 20000 in
set_option maxHeartbeats 8000000 in
theorem AlloyOfBell_calls (A : Option Addr) (n c : Nat) (s0 : Nat → ByteArray) (a1 a2 a3 a4 : Nat → Int) (B : Option Addr) (m d : Nat) (g : Nat → MeltV) (s : ByteArray) (no ma fe : Int) (C : Option Addr) (p e2 : Nat) (ss : Nat → ByteArray) (ms : Nat → Int) (w : World) (h : IngotRow w A n s0 a1 a2 a3 a4) (hsz : ∀ i, i < n → (s0 i).size ≤ maxLen) (hn : n ≤ 1048576) (h2 : MeltRow w B m g) (hm : m ≤ 1048576) (hg : ∀ i, i < m → FineM (g i)) (hs : s.size ≤ maxLen) (h3 : ShareRow w C p ss ms) (hss : ∀ i, i < p → (ss i).size ≤ maxLen) (hp : p ≤ 1048576) (hd : m ≤ d) :
    Calls Tryz.prog 10 #[.slice A n c, .slice B m d, .agg #[.string s, .int .i64 no, .int .i64 ma, .int .i64 fe, .slice C p e2]] w fun e w' => e = .returned (.tuple #[.agg #[.int .i64 (abF s0 a1 a2 a3 a4 n g m (⟨s, no, ma, fe, p, ss, ms⟩ : BellV) 0), .int .i64 (abF s0 a1 a2 a3 a4 n g m (⟨s, no, ma, fe, p, ss, ms⟩ : BellV) 1), .int .i64 (abF s0 a1 a2 a3 a4 n g m (⟨s, no, ma, fe, p, ss, ms⟩ : BellV) 2)], .int .i64 (abC s0 a1 a2 a3 a4 n g m (⟨s, no, ma, fe, p, ss, ms⟩ : BellV))]) ∧ Below w.heap.size w w' := by
  have hn2 : n ≤ maxLen := by unfold maxLen; omega
  have hal := ((Below.refl w.heap.size w).alloc (Nat.le_refl _) (.cells #[.string s, .int .i64 no, .int .i64 ma, .int .i64 fe, .slice C p e2] 37)).alloc (by simp) (.cells #[.int .i64 0, .int .i64 0, .int .i64 0] 42)
  have HX := Lib.hid ((Blk.new w 37 #[.string s, .int .i64 no, .int .i64 ma, .int .i64 fe, .slice C p e2]).alloc (.cells #[.int .i64 0, .int .i64 0, .int .i64 0] 42))
  have HY := Lib.hid (Blk.new2 w (.cells #[.string s, .int .i64 no, .int .i64 ma, .int .i64 fe, .slice C p e2] 37) 42 #[.int .i64 0, .int .i64 0, .int .i64 0])
  have H := Lib.hid h
  have HM := Lib.hid h2
  have HG := Lib.hid hg
  have HSH := Lib.hid h3
  have HSS := Lib.hid hss
  have HAL := Lib.hid hal
  have HC1 := Lib.hid (impl_ValidIngots_calls A n c s0 a1 a2 a3 a4 _ (h.below hal (Nat.le_refl _)) hsz hn2)
  have HC2 := Lib.hid (fun (W : World) (hb : Below w.heap.size w W) => oneBell_calls B m d g s no ma fe C p e2 ss ms W (h2.keep hb) hm hd hg hs (ShareRow.keep h3 hb) hss hp)
  clear h h2 hg h3 hss hal hsz
  cases q1 : okIngs s0 a1 a2 a3 a4 n
  · have hc : abC s0 a1 a2 a3 a4 n g m (⟨s, no, ma, fe, p, ss, ms⟩ : BellV) = 1 := by simp [abC, q1]
    rw [abF_no s0 a1 a2 a3 a4 (by rw [hc]; omega), abF_no s0 a1 a2 a3 a4 (by rw [hc]; omega), abF_no s0 a1 a2 a3 a4 (by rw [hc]; omega), hc]
    rw [show (allB (goodAt (fun i => ingB (s0 i) (a1 i) (a2 i) (a3 i) (a4 i)) s0) n && decide ((n : Int) ≤ 16)) = _ from q1] at HC1
    clear hc
    go_enter Tryz.func10, Tryz.ntmps10
    go_wp2_with fail
    go_at_call 27
    with_reducible refine HC1.out.mono ?_
    rintro e w1 ⟨rfl, hb1⟩
    have hbr := HAL.out.trans (hb1.mono HAL.out.size)
    have R2 := HY.out.keep hb1
    have f0 := R2.frozen 0; have f1 := R2.frozen 1; have f2 := R2.frozen 2; have y0 := (R2.cell 0).trans rfl; have y1 := (R2.cell 1).trans rfl; have y2 := (R2.cell 2).trans rfl; have hl := R2.lt
    clear HC1 HY hb1
    go_wp2
    refine bodyPost_ret (v := .tuple #[.agg #[.int .i64 0, .int .i64 0, .int .i64 0], .int .i64 1]) (by simp [results, Tryz.results10, go_sem, y0, y1, y2, hl]) rfl ?_
    refine ⟨rfl, ?_⟩
    go_grown
  · rw [show (allB (goodAt (fun i => ingB (s0 i) (a1 i) (a2 i) (a3 i) (a4 i)) s0) n && decide ((n : Int) ≤ 16)) = _ from q1] at HC1
    by_cases h0 : ioC g m (⟨s, no, ma, fe, p, ss, ms⟩ : BellV) = 0
    · obtain ⟨t1, t2, t3⟩ := io_parts h0
      have hin := bellIn_of t1 t2 t3
      obtain ⟨⟨w1a, w1b⟩, ⟨w2a, w2b⟩, w3⟩ := bellV_whole t2
      have hfew := bellV_few t2
      have hp4 : p ≤ 4 := hin.n4
      have w1a : 1 ≤ ma := w1a
      have w1b : ma ≤ 20000000 := w1b
      have w2a : 0 ≤ fe := w2a
      have w2b : fe ≤ 20000000 := w2b
      have w3 : 1 ≤ p := w3
      have HIN := Lib.hid hin
      have HFEW := Lib.hid hfew
      have HS := Lib.hid (okIngs_srt q1)
      have HI := Lib.hid (okIngs_bd q1).1
      have HP := Lib.hid (okIngs_pos q1)
      have HMS := Lib.hid (okM_srt t1)
      have hcc : abC s0 a1 a2 a3 a4 n g m (⟨s, no, ma, fe, p, ss, ms⟩ : BellV) = if abH s0 n g m (⟨s, no, ma, fe, p, ss, ms⟩ : BellV) p = true then 0 else 3 := by simp [abC, q1, h0]
      have HCC := Lib.hid hcc
      rw [h0] at HC2
      obtain ⟨RC, hRC⟩ : ∃ RC, RC = abC s0 a1 a2 a3 a4 n g m (⟨s, no, ma, fe, p, ss, ms⟩ : BellV) := ⟨_, rfl⟩
      obtain ⟨F0, hF0⟩ : ∃ F, F = abF s0 a1 a2 a3 a4 n g m (⟨s, no, ma, fe, p, ss, ms⟩ : BellV) 0 := ⟨_, rfl⟩
      obtain ⟨F1, hF1⟩ : ∃ F, F = abF s0 a1 a2 a3 a4 n g m (⟨s, no, ma, fe, p, ss, ms⟩ : BellV) 1 := ⟨_, rfl⟩
      obtain ⟨F2, hF2⟩ : ∃ F, F = abF s0 a1 a2 a3 a4 n g m (⟨s, no, ma, fe, p, ss, ms⟩ : BellV) 2 := ⟨_, rfl⟩
      rw [← hRC, ← hF0, ← hF1, ← hF2]
      have HRC := Lib.hid hRC
      have HF0 := Lib.hid hF0
      have HF1 := Lib.hid hF1
      have HF2 := Lib.hid hF2
      clear hin hfew t1 t2 t3 hcc hRC hF0 hF1 hF2 q1 h0
      go_enter Tryz.func10, Tryz.ntmps10
      go_wp2_with fail
      go_at_call 27
      with_reducible refine HC1.out.mono ?_
      rintro e w1 ⟨rfl, hb1⟩
      have hbr := HAL.out.trans (hb1.mono HAL.out.size)
      have HX1 := Lib.hid (HX.out.keep hb1)
      have HY1 := Lib.hid (HY.out.keep hb1)
      have u0 := (HX1.out.cell 0).trans rfl
      have u1 := (HX1.out.cell 1).trans rfl
      have u2 := (HX1.out.cell 2).trans rfl
      have u3 := (HX1.out.cell 3).trans rfl
      have u4 := (HX1.out.cell 4).trans rfl
      clear HC1 HX HY hb1
      go_wp2_with fail
      go_at_call 25
      with_reducible refine (HC2.out _ hbr).mono ?_
      rintro e w2 ⟨rfl, hb2⟩
      have hbr2 := hbr.trans (hb2.mono hbr.size)
      have HX2 := Lib.hid (HX1.out.keep hb2)
      have HY2 := Lib.hid (HY1.out.keep hb2)
      clear u0 u1 u2 u3 u4
      have u4 := (HX2.out.cell 4).trans rfl
      clear HC2 HX1 HY1 hb2 hbr
      go_wp2
      go_loopw [9, 10, 32] (fun t o i wr => ∃ (k : Nat) (T O : Int), k ≤ p ∧ i = .int .i64 k ∧ t = .int .i64 T ∧ o = .int .i64 O ∧ Hid (T = abS s0 n a1 a3 g m (⟨s, no, ma, fe, p, ss, ms⟩ : BellV) k) ∧ Hid (O = abS s0 n a1 a4 g m (⟨s, no, ma, fe, p, ss, ms⟩ : BellV) k) ∧ Hid (abH s0 n g m (⟨s, no, ma, fe, p, ss, ms⟩ : BellV) k = true) ∧ Hid (Blk wr w.heap.size 37 #[.string s, .int .i64 no, .int .i64 ma, .int .i64 fe, .slice C p e2]) ∧ Hid (Blk wr (w.heap.size + 1) 42 #[.int .i64 0, .int .i64 0, .int .i64 0]) ∧ Below w.heap.size w wr) (fun _ _ i _ => p - (intOf i).toNat)
      case atStart => exact ⟨0, 0, 0, by omega, rfl, rfl, rfl, Lib.hid rfl, Lib.hid rfl, Lib.hid rfl, HX2, HY2, hbr2⟩
      case round =>
        clear HX2 HY2 hbr2 u4
        obtain ⟨k, T, O, hk, rfl, rfl, rfl, hT, hO, hgood, hx, hy, hbr⟩ := hrel
        have bdT := abS_bd (s0 := s0) (n := n) (a1 := a1) (r := a3) (g := g) (m := m) (x := (⟨s, no, ma, fe, p, ss, ms⟩ : BellV)) (N := k) (fun j hj => by have h_ : 1 ≤ ms j ∧ ms j ≤ 20000000 := HFEW.out.2 j (by show j < p; omega); show 0 ≤ ms j ∧ ms j ≤ 20000000; omega) (fun j hj => (mT_bd s0 a1 a2 a3 a4 (HIN.out.at_ j (by show j < p; omega)).2.2.2.1 (allB_of hgood.out j hj) HI.out HP.out).1) k (Nat.le_refl _)
        have bdO := abS_bd (s0 := s0) (n := n) (a1 := a1) (r := a4) (g := g) (m := m) (x := (⟨s, no, ma, fe, p, ss, ms⟩ : BellV)) (N := k) (fun j hj => by have h_ : 1 ≤ ms j ∧ ms j ≤ 20000000 := HFEW.out.2 j (by show j < p; omega); show 0 ≤ ms j ∧ ms j ≤ 20000000; omega) (fun j hj => (mT_bd s0 a1 a2 a3 a4 (HIN.out.at_ j (by show j < p; omega)).2.2.2.1 (allB_of hgood.out j hj) HI.out HP.out).2) k (Nat.le_refl _)
        rw [← hT.out] at bdT
        rw [← hO.out] at bdO
        by_cases hlt : k < p
        · obtain ⟨b2, o2, rfl, hrow2⟩ := HSH.out (by omega)
          obtain ⟨e0, e1⟩ := (hrow2 k hlt).below hbr (Nat.le_refl _)
          have HR2 := Lib.hid hrow2
          have hms := HFEW.out.2 k hlt
          have hms : 1 ≤ ms k ∧ ms k ≤ 20000000 := hms
          have hab := (Below.refl wr.heap.size wr).alloc (Nat.le_refl _) (.cells #[.string (ss k), .int .i64 (ms k)] 39)
          have hb1 := hbr.alloc hbr.size (.cells #[.string (ss k), .int .i64 (ms k)] 39)
          have HSB := Lib.hid (Blk.new wr 39 #[.string (ss k), .int .i64 (ms k)])
          have HX1 := Lib.hid (hx.out.keep hab)
          have HY1 := Lib.hid (hy.out.keep hab)
          have HN := Lib.hid (meltNamed_calls B m d g (ss k) _ (HM.out.keep hb1) hm)
          have HB1 := Lib.hid hb1
          obtain ⟨x1, hx1⟩ : ∃ x, x = ms k := ⟨_, rfl⟩
          rw [← hx1] at hms
          have HXX1 := Lib.hid hx1
          clear hrow2 hb1 hab hbr hx hy hx1
          go_wp2_with fail
          go_at_call 28
          with_reducible refine HN.out.mono ?_
          rintro e w3 ⟨hno, hb⟩
          have hb3 := HB1.out.trans (hb.mono HB1.out.size)
          have HX3 := Lib.hid (HX1.out.keep hb)
          have HY3 := Lib.hid (HY1.out.keep hb)
          have HSB3 := Lib.hid (HSB.out.keep hb)
          obtain ⟨g12, hg12⟩ : ∃ g12, g12 = wr.heap.size := ⟨_, rfl⟩
          rw [← hg12] at HSB3 ⊢
          obtain ⟨b1, bb2, bb3, b4, b5⟩ := HIN.out.at_ k hlt
          clear hb e0 e1 HX1 HY1 HSB hg12 HN HB1
          rcases hno with ⟨q, AQ, CQ, hq, heq, -, rfl, hrowq⟩ | ⟨hsrt, -⟩
          · have hqi : q = mIx (fun q => (g q).id) m (ss k) := srt_uniq HMS.out hq b1 heq bb2
            have hsm : shM g m (⟨s, no, ma, fe, p, ss, ms⟩ : BellV) k = g q := by rw [hqi]; rfl
            rw [← hqi] at b4 b5
            have HSM := Lib.hid hsm
            have hab := ((Below.refl w3.heap.size w3).alloc (Nat.le_refl _) (.cells #[.string (g q).id, .slice AQ (g q).n CQ, .int .i64 (g q).ma] 66)).alloc (by simp) (.cells #[.string (g q).id, .slice AQ (g q).n CQ, .int .i64 (g q).ma] 66)
            have hb5 := hb3.trans (hab.mono hb3.size)
            have HX5 := Lib.hid (HX3.out.keep hab)
            have HY5 := Lib.hid (HY3.out.keep hab)
            have HSB5 := Lib.hid (HSB3.out.keep hab)
            have HMB := Lib.hid ((Blk.new w3 66 #[.string (g q).id, .slice AQ (g q).n CQ, .int .i64 (g q).ma]).alloc (.cells #[.string (g q).id, .slice AQ (g q).n CQ, .int .i64 (g q).ma] 66))
            have HE := Lib.hid (exist_calls A n c s0 a1 a2 a3 a4 (some ⟨w3.heap.size + 1, 0, none⟩) 1 1 (fun _ => g q) _ (H.out.below hb5 (Nat.le_refl _)) hn HS.out (melt_one (Blk.new2 w3 (.cells #[.string (g q).id, .slice AQ (g q).n CQ, .int .i64 (g q).ma] 66) 66 #[.string (g q).id, .slice AQ (g q).n CQ, .int .i64 (g q).ma]) (hrowq.keep hab)) (by omega) (fun _ _ => by show (g q).n ≤ _; omega))
            have HROWQ := Lib.hid (hrowq.keep hab)
            rw [show existB s0 n (fun _ => g q) 1 = allHave s0 n (g q).ss (g q).n by simp [existB, allB]] at HE
            have HB5 := Lib.hid hb5
            clear hqi heq b1 bb2 bb3 hrowq hab HX3 HY3 HSB3 hsm hb5 hb3
            cases q9 : allHave s0 n (g q).ss (g q).n
            · rw [q9] at HE
              have HNO := Lib.hid (show abH s0 n g m (⟨s, no, ma, fe, p, ss, ms⟩ : BellV) p = false from allB_no hlt (by rw [HSM.out]; exact q9))
              go_wp2_with fail
              go_at_call 29
              with_reducible refine HE.out.mono ?_
              rintro e w6 ⟨rfl, hb6⟩
              have hbr := HB5.out.trans (hb6.mono HB5.out.size)
              have R2 := HY5.out.keep hb6
              have f0 := R2.frozen 0; have f1 := R2.frozen 1; have f2 := R2.frozen 2; have y0 := (R2.cell 0).trans rfl; have y1 := (R2.cell 1).trans rfl; have y2 := (R2.cell 2).trans rfl; have hl := R2.lt
              clear HE hb6 HX5 HY5 HSB5 HMB HROWQ HB5
              go_wp2
              refine bodyPost_ret (v := .tuple #[.agg #[.int .i64 0, .int .i64 0, .int .i64 0], .int .i64 3]) (by simp [results, Tryz.results10, go_sem, y0, y1, y2, hl]) rfl ?_
              have hR3 : RC = 3 := by rw [HRC.out, HCC.out, HNO.out]; rfl
              have hne : abC s0 a1 a2 a3 a4 n g m (⟨s, no, ma, fe, p, ss, ms⟩ : BellV) ≠ 0 := by rw [← HRC.out, hR3]; omega
              refine ⟨by rw [hR3, HF0.out, HF1.out, HF2.out, abF_no s0 a1 a2 a3 a4 hne, abF_no s0 a1 a2 a3 a4 hne, abF_no s0 a1 a2 a3 a4 hne], ?_⟩
              go_grown
            · rw [q9] at HE
              have bdq := mT_bd s0 a1 a2 a3 a4 b4 q9 HI.out HP.out
              obtain ⟨TQ, hTQ⟩ : ∃ TQ, TQ = mT s0 n a1 a3 (g q).ss (g q).n := ⟨_, rfl⟩
              obtain ⟨OQ, hOQ⟩ : ∃ OQ, OQ = mT s0 n a1 a4 (g q).ss (g q).n := ⟨_, rfl⟩
              have HAO := Lib.hid (fun (W : World) (hb : Below w.heap.size w W) (hr : StrRow W AQ (g q).n (g q).ss) => alloyOf_calls A n c s0 a1 a2 a3 a4 (g q).id AQ (g q).n CQ (g q).ss (g q).ma W (H.out.below hb (Nat.le_refl _)) hn HS.out hr b5 b4 q9 HI.out HP.out)
              rw [← hTQ, ← hOQ] at bdq HAO
              have n1 : Hid (T + x1 * TQ = abS s0 n a1 a3 g m (⟨s, no, ma, fe, p, ss, ms⟩ : BellV) (k + 1)) := Lib.hid (by rw [hT.out, HXX1.out, hTQ, ← HSM.out]; rfl)
              have n2 : Hid (O + x1 * OQ = abS s0 n a1 a4 g m (⟨s, no, ma, fe, p, ss, ms⟩ : BellV) (k + 1)) := Lib.hid (by rw [hO.out, HXX1.out, hOQ, ← HSM.out]; rfl)
              have n3 : Hid (abH s0 n g m (⟨s, no, ma, fe, p, ss, ms⟩ : BellV) (k + 1) = true) := Lib.hid (by rw [show abH s0 n g m (⟨s, no, ma, fe, p, ss, ms⟩ : BellV) (k + 1) = (abH s0 n g m (⟨s, no, ma, fe, p, ss, ms⟩ : BellV) k && allHave s0 n (shM g m (⟨s, no, ma, fe, p, ss, ms⟩ : BellV) k).ss (shM g m (⟨s, no, ma, fe, p, ss, ms⟩ : BellV) k).n) from rfl, hgood.out, HSM.out, q9]; rfl)
              have p1 := mul_le7 (x := x1) (y := TQ) ⟨by omega, by omega⟩ bdq.1
              have p2 := mul_le7 (x := x1) (y := OQ) ⟨by omega, by omega⟩ bdq.2
              clear hTQ hOQ hT hO hgood
              go_wp2_with fail
              go_at_call 29
              with_reducible refine HE.out.mono ?_
              rintro e w6 ⟨rfl, hb6⟩
              have HB6 := Lib.hid (HB5.out.trans (hb6.mono HB5.out.size))
              have HX6 := Lib.hid (HX5.out.keep hb6)
              have HY6 := Lib.hid (HY5.out.keep hb6)
              have HSB6 := Lib.hid (HSB5.out.keep hb6)
              have HMB6 := HMB.out.keep hb6
              have HROWQ6 := Lib.hid (HROWQ.out.keep hb6)
              have v0 := (HMB6.cell 0).trans rfl
              have v1 := (HMB6.cell 1).trans rfl
              have v2 := (HMB6.cell 2).trans rfl
              clear HE hb6 HX5 HY5 HSB5 HMB HROWQ HB5 HMB6
              go_wp2_with fail
              go_at_call 30
              with_reducible refine (HAO.out _ HB6.out HROWQ6.out).mono ?_
              rintro e w7 ⟨rfl, hb7⟩
              have hb7a := HB6.out.trans (hb7.mono HB6.out.size)
              have hal7 := (Below.refl w7.heap.size w7).alloc (Nat.le_refl _) (.cells #[.int .i64 (1000000 - TQ - OQ), .int .i64 TQ, .int .i64 OQ] 42)
              have HX8 := Lib.hid ((HX6.out.keep hb7).keep hal7)
              have HY8 := Lib.hid ((HY6.out.keep hb7).keep hal7)
              have SB7 := HSB6.out.keep hb7
              have s1 := (SB7.cell 1).trans (show _ = some (.int .i64 x1) by rw [HXX1.out]; rfl)
              have hsl := SB7.lt
              have HB8 := Lib.hid (hb7a.trans (hal7.mono hb7a.size))
              clear HAO hb7 hb7a HB6 HX6 HY6 HSB6 HROWQ6 v0 v1 v2 hal7 SB7
              go_wp2
              go_roundw
              case rel => exact ⟨k + 1, T + x1 * TQ, O + x1 * OQ, by omega, by go_num, rfl, rfl, n1, n2, n3, HX8, HY8, HB8.out⟩
              case measure => simp [intOf]; omega
          · exfalso
            have := hsrt HMS.out
            have bb3' : hasId (fun q => (g q).id) m (ss k) = true := bb3
            rw [bb3'] at this; cases this
        · obtain rfl : k = p := by omega
          have hs1 : RC = 0 := by rw [HRC.out, HCC.out, hgood.out]; rfl
          obtain ⟨g0, g1, g2⟩ := abF_yes s0 a1 a2 a3 a4 (x := (⟨s, no, ma, fe, k, ss, ms⟩ : BellV)) (by rw [← HRC.out]; exact hs1)
          have q1 : F1 = T / (ma + fe) := by rw [HF1.out, g1, hT.out]; rfl
          have q2 : F2 = O / (ma + fe) := by rw [HF2.out, g2, hO.out]; rfl
          have q0 : F0 = 1000000 - T / (ma + fe) - O / (ma + fe) := by rw [← q1, ← q2, HF0.out, g0, HF1.out, g1, HF2.out, g2]
          have HQ0 := Lib.hid q0
          have HQ1 := Lib.hid q1
          have HQ2 := Lib.hid q2
          have HQS := Lib.hid hs1
          have u2 := (hx.out.cell 2).trans rfl
          have u3 := (hx.out.cell 3).trans rfl
          have R2 := hy.out
          have f0 := R2.frozen 0; have f1 := R2.frozen 1; have f2 := R2.frozen 2; have y0 := (R2.cell 0).trans rfl; have y1 := (R2.cell 1).trans rfl; have y2 := (R2.cell 2).trans rfl; have hl := R2.lt
          have HBR := Lib.hid hbr
          have e1 := quo_nonneg (a := T) (b := ma + fe) (by omega) (by omega) (by omega)
          have e2 := quo_nonneg (a := O) (b := ma + fe) (by omega) (by omega) (by omega)
          have l1 := Int.ediv_le_self (ma + fe) bdT.1
          have l2 := Int.ediv_le_self (ma + fe) bdO.1
          have l3 := Int.ediv_nonneg bdT.1 (show 0 ≤ ma + fe by omega)
          have l4 := Int.ediv_nonneg bdO.1 (show 0 ≤ ma + fe by omega)
          have hM : ¬ ma + fe = 0 := by omega
          generalize T / (ma + fe) = QT at *
          generalize O / (ma + fe) = QO at *
          clear g0 g1 g2 q0 q1 q2 hs1 hT hO hgood hx hy R2 hbr HF0 HF1 HF2 HRC HCC
          go_wp2
          go_region
          all_goals go_wp2
          all_goals refine bodyPost_ret (v := .tuple #[.agg #[.int .i64 (1000000 - QT - QO), .int .i64 QT, .int .i64 QO], .int .i64 0]) (by simp [results, Tryz.results10, go_sem, y0, y1, y2, hl]) rfl ?_
          all_goals refine ⟨by rw [HQS.out, HQ0.out, HQ1.out, HQ2.out], ?_⟩
          all_goals (have hbr := HBR.out; go_grown)
    · have hc : abC s0 a1 a2 a3 a4 n g m (⟨s, no, ma, fe, p, ss, ms⟩ : BellV) = ioC g m (⟨s, no, ma, fe, p, ss, ms⟩ : BellV) := by simp [abC, q1, h0]
      rw [abF_no s0 a1 a2 a3 a4 (by rw [hc]; exact h0), abF_no s0 a1 a2 a3 a4 (by rw [hc]; exact h0), abF_no s0 a1 a2 a3 a4 (by rw [hc]; exact h0), hc]
      obtain ⟨Z, hZ⟩ : ∃ Z, Z = ioC g m (⟨s, no, ma, fe, p, ss, ms⟩ : BellV) := ⟨_, rfl⟩
      rw [← hZ] at HC2 h0 ⊢
      have hne : (Z == 0) = false := by simpa using h0
      clear hZ hc
      go_enter Tryz.func10, Tryz.ntmps10
      go_wp2_with fail
      go_at_call 27
      with_reducible refine HC1.out.mono ?_
      rintro e w1 ⟨rfl, hb1⟩
      have hbr := HAL.out.trans (hb1.mono HAL.out.size)
      have HX1 := Lib.hid (HX.out.keep hb1)
      have HY1 := Lib.hid (HY.out.keep hb1)
      have u0 := (HX1.out.cell 0).trans rfl
      have u1 := (HX1.out.cell 1).trans rfl
      have u2 := (HX1.out.cell 2).trans rfl
      have u3 := (HX1.out.cell 3).trans rfl
      have u4 := (HX1.out.cell 4).trans rfl
      clear HC1 HX HY hb1
      go_wp2_with fail
      go_at_call 25
      with_reducible refine (HC2.out _ hbr).mono ?_
      rintro e w2 ⟨rfl, hb2⟩
      have hbr2 := hbr.trans (hb2.mono hbr.size)
      have R2 := HY1.out.keep hb2
      have f0 := R2.frozen 0; have f1 := R2.frozen 1; have f2 := R2.frozen 2; have y0 := (R2.cell 0).trans rfl; have y1 := (R2.cell 1).trans rfl; have y2 := (R2.cell 2).trans rfl; have hl := R2.lt
      clear HC2 HY1 hb2 hbr u0 u1 u2 u3 u4
      have hbr := hbr2
      clear hbr2
      go_wp2
      refine bodyPost_ret (v := .tuple #[.agg #[.int .i64 0, .int .i64 0, .int .i64 0], .int .i64 Z]) (by simp [results, Tryz.results10, go_sem, y0, y1, y2, hl]) rfl ?_
      refine ⟨rfl, ?_⟩
      go_grown
end Go.Proofs.YticnpibkpfpojaaGreat
