/- FnSwinging: sines and cosines have their symmetries, longer arms swing more slowly, a counterweight makes the arm shorter, hung bells are read back: for every pair of codes; the listed variables read as the program's text lays them (tied). -/
import Derived.Test.YtflhkldfhndafaaGreatDoorCards
import Derived.Test.YtflhkldfhndafaaGreatDoorTie
import Derived.Test.YtflhkldfhndafaaGreatDoorFrame
import Derived.Test.YtflhkldfhndafaaGreatDoorHand
import Derived.Test.YtflhkldfhndafaaGreatDoorErrRow
import Derived.Test.YtflhkldfhndafaaGreatDoorReadIU
import Derived.Test.YtflhkldfhndafaaGreatDoorSwingQ
import Derived.Test.YtflhkldfhndafaaGreatDoorDraw
import Derived.Lib.LaidTab
import Derived.LaidMore
import Derived.Lay
import Derived.Stop.Joined
import Derived.Stop.LaidErr
import Derived.Deep.RegionWith
import Derived.Deep.DeepCutAuto
namespace Go.Proofs.YtflhkldfhndafaaGreatDoor.FnSwinging
set_option linter.unusedVariables false
open Go.ChangeShapes Go.WideShapes Go.ChangeAt Go.RowKit Go.Deep
open Go.ChangeMaps (open_string shut_string)

theorem hasAll_of {W : World} (hS : W.ShapedOpen Tryz.prog) (h : laidMetH Tryz.prog Rows.fnSwingingRow.laid W) : HasTab W ∧ HasLib W := by
  rw [MakeChecks.laidMetH_plain _ _ _ (by kernel_rfl)] at h
  have h3 := laidMet.tail (laidMet.tail h)
  have h5 := laidMet.tail (laidMet.tail h3)
  have h7 := laidMet.tail (laidMet.tail h5)
  refine ⟨?_, Lib.tabIs_of_head (by kernel_rfl) (by kernel_rfl : (Tryz.prog.globals[4]?).map (·.type) = some 117) Tryz.underlying117 Tryz.underlying53 (by kernel_rfl) (by kernel_rfl) h3, hasMax hS, ?_, ?_⟩
  · have ht : Lib.TabIs Tryz.prog W _ .i64 sinL := Lib.tabIs_of_head (by kernel_rfl) (by kernel_rfl : (Tryz.prog.globals[0]?).map (·.type) = some 37) Tryz.underlying37 Tryz.underlying2 (by kernel_rfl) (by kernel_rfl) h7
    exact fun i hi => ht.cell (by kernel_rfl) i hi
  · obtain ⟨a0, s0, hv0, -⟩ := laid_sentinel (laidMet.tail h5) gSyn (by kernel_rfl) Tryz.underlying71 errRow Tryz.underlying125 Tryz.underlying127 rfl rfl Tryz.underlying9 (by kernel_rfl) (by kernel_rfl)
    exact ⟨_, _, hv0⟩
  · obtain ⟨a0, s0, hv0, -⟩ := laid_sentinel h5 gRan (by kernel_rfl) Tryz.underlying71 errRow Tryz.underlying125 Tryz.underlying127 rfl rfl Tryz.underlying9 (by kernel_rfl) (by kernel_rfl)
    exact ⟨_, _, hv0⟩
set_option maxHeartbeats 400000 in
theorem r8Wide_calls (A : Option Addr) (n c : Nat) (i k : Int) (w : World) (hA : Code8 w A n) (hn : n ≤ maxLen) (i0 : 0 ≤ i) (i1 : i ≤ 100000) (k0 : 2 ≤ k) (k1 : k ≤ 1000000) :
    Calls Tryz.prog 5 #[.slice A n c, .int .i64 i, .int .i64 k] w fun e w' => (∃ v, (0 ≤ v ∧ v < k) ∧ e = .returned (.int .i64 v)) ∧ w = w' := by
  have HA := Lib.hid hA
  clear hA
  go_enter Tryz.func5, Tryz.ntmps5
  go_wp2_with fail
  go_at_call 9
  refine (r8At_calls _ _ _ _ _ _ HA.out hn (by omega) (by omega) (by omega) (by omega)).mono ?_
  rintro e w1 ⟨⟨u, ⟨u0, u1⟩, rfl⟩, rfl⟩
  go_wp2_with fail
  go_at_call 9
  refine (r8At_calls _ _ _ _ _ _ HA.out hn (by omega) (by omega) (by omega) (by omega)).mono ?_
  rintro e w1 ⟨⟨v, ⟨v0, v1⟩, rfl⟩, rfl⟩
  have q0 := Int.emod_nonneg (256 * u + v) (show k ≠ 0 by omega)
  have q1 := Int.emod_lt_of_pos (256 * u + v) (show 0 < k by omega)
  go_wp2
  go_ret
  exact ⟨⟨_, ⟨q0, q1⟩, rfl⟩, rfl⟩
theorem hung_long {s : ByteArray} {m a f g t : Int} (h : HungOk s m a f g) (t0 : 0 ≤ t) (t1 : t < 200) : hungB s m (a + t) f g = true := by
  obtain ⟨hn, hm, ha, hf, hg⟩ := h
  simp [hungB, nameB_yes hn, inB_yes (show 1 ≤ m by omega) (show m ≤ 20000000 by omega), inB_yes (show 1 ≤ a + t by omega) (show a + t ≤ 30000 by omega), inB_yes (show 1 ≤ f by omega) (show f ≤ 1000 by omega), inB_yes (show 1 ≤ g by omega) (show g ≤ 180 by omega)]
theorem hung_yes {s : ByteArray} {m a f g : Int} (h : HungOk s m a f g) : hungB s m a f g = true := by
  have := hung_long (t := 0) h (by omega) (by omega)
  rwa [Int.add_zero] at this
theorem per_yes {s : ByteArray} {m a f g : Int} (w : World) (hs : s.size ≤ maxLen) (hv : hungB s m a f g = true) (hT : HasTab w) :
    Calls Tryz.prog 10 #[.agg #[.string s, .int .i64 m, .int .i64 a, .int .i64 f, .int .i64 g]] w fun e w' => e = .returned (.tuple #[.int .i64 (perF a f g), .int .i64 0]) ∧ Below w.heap.size w w' := by
  have h := PeriodOf_calls s m a f g w hs hT
  rwa [hv, show okH true = 0 from rfl, show peV s m a f g = perF a f g by simp [peV, hv]] at h
theorem str_yes {s : ByteArray} {m a f g : Int} (w : World) (hs : s.size ≤ maxLen) (hv : hungB s m a f g = true) (h1 : 1 ≤ perF a f g) (hT : HasTab w) :
    Calls Tryz.prog 11 #[.agg #[.string s, .int .i64 m, .int .i64 a, .int .i64 f, .int .i64 g]] w fun e w' => e = .returned (.tuple #[.int .i64 (120000 / perF a f g), .int .i64 0]) ∧ Below w.heap.size w w' := by
  have h := StrokesOf_calls s m a f g w hs hT
  rwa [hv, show okH true = 0 from rfl, show stV s m a f g = 120000 / perF a f g by simp only [stV]; rw [if_pos hv, show max (perF a f g) 1 = perF a f g by omega]] at h
theorem text_is {s : ByteArray} {m a f g : Int} (hv : hungB s m a f g = true) : hungText s m a f g = nlT s [m, a, f, g] ∧ (hungText s m a f g).size ≤ 1048576 := by
  have e : hungText s m a f g = nameT s (l4 m a f g) 4 := by rw [hungText, if_pos hv]
  obtain ⟨hs10, hr⟩ := hung_rng hv
  have hjl := join_len (l4 m a f g) 4 (fun i hi => by have := hr i hi; omega)
  rw [← joinT_size] at hjl
  refine ⟨by rw [e, hungP_text], ?_⟩
  rw [e]
  unfold nameT
  rw [ByteArray.size_append, ByteArray.size_append]
  have e2 : (⟨#[32]⟩ : ByteArray).size = 1 := rfl
  omega
set_option maxRecDepth 100000 in
set_option maxHeartbeats 8000000 in
theorem walk (A : Option Addr) (n c : Nat) (B : Option Addr) (nb cb : Nat) (w : World) (hA : Code8 w A n) (hn : n ≤ maxLen) (hB : Code8 w B nb) (hnb : nb ≤ maxLen) (hTL : HasTab w ∧ HasLib w) :
    Calls Tryz.prog 3 #[.slice A n c, .slice B nb cb] w fun e w' => e = .returned (.bool true) ∧ Below w.heap.size w w' := by
  have HT := Lib.hid hTL.1
  have HL := Lib.hid hTL.2
  have hlt := hTL.1.lt
  have HA := Lib.hid hA
  have HB := Lib.hid hB
  clear hTL hA hB
  cases hl : (decide ((1048576 : Int) < n) || decide ((1048576 : Int) < nb))
  · go_enter Tryz.func3, Tryz.ntmps3
    go_wp2_with fail
    go_at_call 4
    refine (r8Long_calls _ _ _ _ _ _ _ hn hnb).mono ?_
    rw [hl]
    rintro e w1 ⟨rfl, rfl⟩
    go_wp2_with fail
    go_at_call 5
    refine (r8Wide_calls _ _ _ _ _ _ HB.out hnb (by omega) (by omega) (by omega) (by omega)).mono ?_
    rintro e w1 ⟨⟨d, ⟨d0, d1⟩, rfl⟩, rfl⟩
    have hD : -500 ≤ d - 500 ∧ d - 500 ≤ 499 := by omega
    go_wp2_with fail
    generalize d - 500 = D at *
    have HS1 := SineOf_calls D w HT.out
    have HC1 := CosineOf_calls D w HT.out
    have HS2 := SineOf_calls (-D) w HT.out
    have HC2 := CosineOf_calls (-D) w HT.out
    have HS3 := SineOf_calls (D + 180) w HT.out
    have HS4 := SineOf_calls (D + 360) w HT.out
    obtain ⟨⟨u1, u2⟩, u3, u4, u5, u6⟩ := sin_law D
    rw [u3] at HS2
    rw [u4] at HC2
    rw [u5] at HS3
    rw [u6] at HS4
    obtain ⟨b1, b2⟩ := sinF_bd D
    obtain ⟨b3, b4⟩ := cosF_bd D
    have p1 := mul_box b1 b2 b1 b2
    have p2 := mul_box b3 b4 b3 b4
    generalize sinF D = S at *
    generalize cosF D = C at *
    have HS1 := Lib.hid HS1
    have HC1 := Lib.hid HC1
    have HS2 := Lib.hid HS2
    have HC2 := Lib.hid HC2
    have HS3 := Lib.hid HS3
    have HS4 := Lib.hid HS4
    clear u3 u4 u5 u6
    go_wp2_with (first
      | (go_at_call 6; with_reducible refine HS1.out.mono ?_; rintro e w2 ⟨rfl, rfl⟩)
      | (go_at_call 7; with_reducible refine HC1.out.mono ?_; rintro e w2 ⟨rfl, rfl⟩)
      | (go_at_call 6; with_reducible refine HS2.out.mono ?_; rintro e w2 ⟨rfl, rfl⟩)
      | (go_at_call 7; with_reducible refine HC2.out.mono ?_; rintro e w2 ⟨rfl, rfl⟩)
      | (go_at_call 6; with_reducible refine HS3.out.mono ?_; rintro e w2 ⟨rfl, rfl⟩)
      | (go_at_call 6; with_reducible refine HS4.out.mono ?_; rintro e w2 ⟨rfl, rfl⟩))
    clear HS1 HC1 HS2 HC2 HS3 HS4
    go_at_call 8
    refine (R8Hung_calls _ _ _ _ HA.out hn).mono ?_
    rintro e w1 ⟨s, m, a, f, g, hok, rfl, hb1⟩
    have HOK := Lib.hid hok
    obtain ⟨hnm, ⟨m0, m1⟩, ⟨a0, a1⟩, ⟨f0, f1⟩, ⟨g0, g1⟩⟩ := hok
    have hs : s.size ≤ maxLen := by have := hnm.2.1; unfold maxLen; omega
    have kb := Lib.hid ((hb1.alloc hb1.size (.cells #[.string s, .int .i64 m, .int .i64 a, .int .i64 f, .int .i64 g] 27)).alloc (by have := hb1.size; simp; omega) (.cells #[.string s, .int .i64 m, .int .i64 a, .int .i64 f, .int .i64 g] 27))
    have G := Lib.hid ((Blk.new w1 27 #[.string s, .int .i64 m, .int .i64 a, .int .i64 f, .int .i64 g]).alloc (.cells #[.string s, .int .i64 m, .int .i64 a, .int .i64 f, .int .i64 g] 27))
    have L := Lib.hid (Blk.new2 w1 (.cells #[.string s, .int .i64 m, .int .i64 a, .int .i64 f, .int .i64 g] 27) 27 #[.string s, .int .i64 m, .int .i64 a, .int .i64 f, .int .i64 g])
    have hz1 := hb1.size
    have K0 := Lib.hid hb1
    clear hb1 hnm
    go_wp2_with fail
    have l2 := (L.out.cell 2).trans rfl
    have lf := L.out.frozen 2
    have ll := L.out.lt
    go_cut [4] (fun q wx => q = .bool false ∧ ∃ t, 0 ≤ t ∧ t < 200 ∧ Hid (Below w.heap.size w wx ∧ Blk wx w1.heap.size 27 #[.string s, .int .i64 m, .int .i64 a, .int .i64 f, .int .i64 g] ∧ Blk wx (w1.heap.size + 1) 27 #[.string s, .int .i64 m, .int .i64 (a + t), .int .i64 f, .int .i64 g]))
    case first =>
      go_region_with (go_at_call 9; refine (r8At_calls _ _ _ _ _ _ (by first | exact HB.out.below kb.out (Nat.le_refl _) | exact HB.out.below kb.out.drew (Nat.le_refl _)) hnb (by omega) (by omega) (by omega) (by omega)).mono ?_; rintro e w2 ⟨⟨t, ⟨t0, t1⟩, rfl⟩, rfl⟩)
      all_goals (go_wp2_with fail)
      all_goals go_meet
      all_goals refine ⟨rfl, t, t0, t1, Lib.hid ?_⟩
      all_goals (try rw [IntWalk.i64_in (a + t) ⟨by omega, by omega⟩])
      all_goals first
        | exact ⟨((K0.out.alloc hz1 _).alloc (by simp; omega) _).drew, ((Blk.new _ _ _).alloc _).drew, (Blk.new2 _ _ _ _).drew⟩
        | exact ⟨(K0.out.alloc hz1 _).alloc (by simp; omega) _, (Blk.new _ _ _).alloc _, Blk.new2 _ _ _ _⟩
    case rest =>
      obtain ⟨rfl, t, t0, t1, hcc⟩ := hcut
      obtain ⟨kx, Gx, Lx⟩ := hcc.out
      clear kb G L hcc l2 lf ll
      have kb := Lib.hid kx
      have G := Lib.hid Gx
      have L := Lib.hid Lx
      clear kx Gx Lx
      have hv := hung_yes HOK.out
      have hv2 := hung_long HOK.out t0 t1
      have h1 := perF_one g (show 1 ≤ a by omega) (show a ≤ 30000 by omega) (show 1 ≤ f by omega) (show f ≤ 1000 by omega)
      have h2 := perF_mono (a := a) (b := a + t) (f := f) g (by omega) (by omega)
      obtain ⟨-, q1⟩ := perF_bd g (show 1 ≤ a by omega) (show a ≤ 30000 by omega) (show 1 ≤ f by omega) (show f ≤ 1000 by omega)
      obtain ⟨q2, q3⟩ := perF_bd g (show 1 ≤ a + t by omega) (show a + t ≤ 30000 by omega) (show 1 ≤ f by omega) (show f ≤ 1000 by omega)
      have HP1 := Lib.hid (fun W hT => per_yes (s := s) (m := m) (a := a) (f := f) (g := g) W hs hv hT)
      have HP2 := Lib.hid (fun W hT => per_yes (s := s) (m := m) (a := a + t) (f := f) (g := g) W hs hv2 hT)
      have HST := Lib.hid (fun W hT => str_yes (s := s) (m := m) (a := a) (f := f) (g := g) W hs hv h1 hT)
      generalize perF a f g = P at *
      generalize perF (a + t) f g = Q at *
      have r1 := Int.ediv_nonneg (show (0 : Int) ≤ 120000 by omega) (show 0 ≤ P by omega)
      have r3 := Int.ediv_le_self P (show (0 : Int) ≤ 120000 by omega)
      have r2 : P < 120000 → 1 ≤ 120000 / P := fun h => by
        have := Int.ediv_le_ediv (c := P) (by omega) (show P ≤ 120000 by omega)
        rwa [Int.ediv_self (by omega)] at this
      generalize 120000 / P = ST at *
      obtain ⟨TT, hTT⟩ : ∃ TT, TT = hungText s m a f g := ⟨_, rfl⟩
      obtain ⟨e1, e2⟩ := text_is hv
      rw [← hTT] at e1 e2
      have HTX := Lib.hid (fun W hT => HungText_calls s m a f g W hs hT)
      rw [← hTT] at HTX
      have HRD := Lib.hid (fun W hL => ReadHung_calls TT W e2 hL)
      have HTR : Hid (nlOut hungP TT s [m, a, f, g] [0, 0, 0, 0] true) := Lib.hid (Or.inl ⟨rfl, ⟨m, a, f, g, rfl, hv⟩, e1.symm⟩)
      have HV := Lib.hid hv
      clear hTT e1 e2 hv hv2
      have x0 := (G.out.cell 0).trans rfl
      have x1 := (G.out.cell 1).trans rfl
      have x2 := (G.out.cell 2).trans rfl
      have x3 := (G.out.cell 3).trans rfl
      have x4 := (G.out.cell 4).trans rfl
      go_wp2_with fail
      go_at_call 10
      refine (HP1.out _ (HT.out.below kb.out hlt)).mono ?_
      rintro e w3 ⟨rfl, hb⟩
      clear x0 x1 x2 x3 x4
      replace kb := Lib.hid (kb.out.trans (hb.mono kb.out.size)); replace G := Lib.hid (G.out.keep hb); (try replace L := Lib.hid (L.out.keep hb)); (try replace R := Lib.hid (R.out.keep hb)); clear hb
      have x0 := (L.out.cell 0).trans rfl
      have x1 := (L.out.cell 1).trans rfl
      have x2 := (L.out.cell 2).trans rfl
      have x3 := (L.out.cell 3).trans rfl
      have x4 := (L.out.cell 4).trans rfl
      go_wp2_with fail
      go_at_call 10
      refine (HP2.out _ (HT.out.below kb.out hlt)).mono ?_
      rintro e w4 ⟨rfl, hb⟩
      clear x0 x1 x2 x3 x4
      replace kb := Lib.hid (kb.out.trans (hb.mono kb.out.size)); replace G := Lib.hid (G.out.keep hb); (try replace L := Lib.hid (L.out.keep hb)); (try replace R := Lib.hid (R.out.keep hb)); clear hb
      have x0 := (G.out.cell 0).trans rfl
      have x1 := (G.out.cell 1).trans rfl
      have x2 := (G.out.cell 2).trans rfl
      have x3 := (G.out.cell 3).trans rfl
      have x4 := (G.out.cell 4).trans rfl
      go_wp2_with fail
      go_at_call 11
      refine (HST.out _ (HT.out.below kb.out hlt)).mono ?_
      rintro e w5 ⟨rfl, hb⟩
      clear x0 x1 x2 x3 x4
      replace kb := Lib.hid (kb.out.trans (hb.mono kb.out.size)); replace G := Lib.hid (G.out.keep hb); (try replace L := Lib.hid (L.out.keep hb)); (try replace R := Lib.hid (R.out.keep hb)); clear hb
      have x0 := (G.out.cell 0).trans rfl
      have x1 := (G.out.cell 1).trans rfl
      have x2 := (G.out.cell 2).trans rfl
      have x3 := (G.out.cell 3).trans rfl
      have x4 := (G.out.cell 4).trans rfl
      go_wp2_with fail
      go_at_call 13
      refine (HTX.out _ (HL.out.keep kb.out).1).mono ?_
      rintro e w6 ⟨rfl, hb⟩
      clear x0 x1 x2 x3 x4
      replace kb := Lib.hid (kb.out.trans (hb.mono kb.out.size)); replace G := Lib.hid (G.out.keep hb); (try replace L := Lib.hid (L.out.keep hb)); (try replace R := Lib.hid (R.out.keep hb)); clear hb
      go_wp2_with fail
      go_at_call 12
      refine (HRD.out _ (HL.out.keep kb.out)).mono ?_
      rintro e w7 ⟨nm, m', r', d', q', b', rfl, hout, hb⟩
      obtain ⟨rfl, rfl, rfl, rfl, rfl, rfl⟩ := hungP_same HTR.out hout
      replace kb := Lib.hid (kb.out.trans (hb.mono kb.out.size)); replace G := Lib.hid (G.out.keep hb); (try replace L := Lib.hid (L.out.keep hb)); (try replace R := Lib.hid (R.out.keep hb)); clear hb
      clear L HP1 HP2 HST HTX HRD HTR hout
      have hal := (Below.refl w7.heap.size w7).alloc (Nat.le_refl _) (.cells #[.string s, .int .i64 m, .int .i64 a, .int .i64 f, .int .i64 g] 27)
      rcases (show (P < 120000 ∧ 1 ≤ ST) ∨ (¬ P < 120000) by by_cases h : P < 120000; exact Or.inl ⟨h, r2 h⟩; exact Or.inr h) with ⟨c1, c2⟩ | c1
      all_goals
        clear r2
        have x0 := (G.out.cell 0).trans rfl
        have x1 := (G.out.cell 1).trans rfl
        have x2 := (G.out.cell 2).trans rfl
        have x3 := (G.out.cell 3).trans rfl
        have x4 := (G.out.cell 4).trans rfl
        have hGl := G.out.lt
        go_wp2_with fail
        clear x0 x1 x2 x3 x4
        clear hGl
        replace kb := Lib.hid (kb.out.trans (hal.mono kb.out.size))
        replace G := Lib.hid (G.out.keep hal)
        clear hal
        go_at_call 5
        refine (r8Wide_calls _ _ _ _ _ _ (HB.out.below kb.out (Nat.le_refl _)) hnb (by omega) (by omega) (by omega) (by omega)).mono ?_
        rintro e w8 ⟨⟨ms, ⟨ms0, ms1⟩, rfl⟩, rfl⟩
        go_wp2_with fail
        go_at_call 5
        refine (r8Wide_calls _ _ _ _ _ _ (HB.out.below kb.out (Nat.le_refl _)) hnb (by omega) (by omega) (by omega) (by omega)).mono ?_
        rintro e w8 ⟨⟨ar, ⟨ar0, ar1⟩, rfl⟩, rfl⟩
        obtain ⟨y0, y1, y2, y3, y4, z, hx⟩ := cwOut s m a f g (1 + ms) (1 + ar)
        have hlaw := Lib.hid (cw_law HV.out (by omega) (by omega) (by omega) (by omega) hx)
        have HX := Lib.hid hx
        clear hx
        have x0 := (G.out.cell 0).trans rfl
        have x1 := (G.out.cell 1).trans rfl
        have x2 := (G.out.cell 2).trans rfl
        have x3 := (G.out.cell 3).trans rfl
        have x4 := (G.out.cell 4).trans rfl
        go_wp2_with fail
        go_at_call 14
        refine (counter_calls s m a f g (1 + ms) (1 + ar) y0 y1 y2 y3 y4 z _ hs HX.out).mono ?_
        rintro e w9 ⟨rfl, hb⟩
        clear x0 x1 x2 x3 x4
        replace kb := Lib.hid (kb.out.trans (hb.mono kb.out.size)); replace G := Lib.hid (G.out.keep hb); (try replace L := Lib.hid (L.out.keep hb)); (try replace R := Lib.hid (R.out.keep hb)); clear hb
        rcases hlaw.out with rfl | ⟨rfl, rfl, rfl, hle, hok2⟩
        · have k9 := kb.out
          go_wp2
          go_ret
          exact ⟨rfl, k9.alloc k9.size _⟩
        · have hal9 := (Below.refl w9.heap.size w9).alloc (Nat.le_refl _) (.cells #[.string y0, .int .i64 (m + (1 + ms)), .int .i64 y2, .int .i64 y3, .int .i64 y4] 27)
          have k9 := Lib.hid (kb.out.trans (hal9.mono kb.out.size))
          have x0 := (G.out.cell 0).trans rfl
          have x1 := (G.out.cell 1).trans rfl
          have x2 := (G.out.cell 2).trans rfl
          have x3 := (G.out.cell 3).trans rfl
          have x4 := (G.out.cell 4).trans rfl
          have hGl := G.out.lt
          go_wp2_with (go_at_call 15; refine (svalidHung_calls _ _ _ _ _ _ hs).mono ?_; rw [hok2]; rintro e w10 ⟨rfl, hb⟩; have kz := k9.out.trans (hb.mono k9.out.size))
          go_ret
          exact ⟨rfl, kz⟩
  · go_enter Tryz.func3, Tryz.ntmps3
    go_wp2_with (go_at_call 4; refine (r8Long_calls _ _ _ _ _ _ _ hn hnb).mono ?_; rw [hl]; rintro e w1 ⟨rfl, rfl⟩)
    go_ret
    exact ⟨rfl, Below.refl _ _⟩
theorem own : ownKnob Tryz.prog.godebug = none := by kernel_rfl
theorem laidOut : laidOutB Tryz.prog = true := by kernel_rfl
theorem door_met (os : Os) (args : Array Value) : laidMetH Tryz.prog Rows.fnSwingingRow.laid ((World.laidAll Tryz.prog os Rows.fnSwingingRow.laid).forCall (fun _ _ => 0) ⟨#[], args, []⟩).memory := by
  rw [MakeChecks.laidMetH_plain _ _ _ (by kernel_rfl)]
  exact laidMet_laidAll _ (by kernel_rfl) (by kernel_rfl)
set_option maxRecDepth 100000 in
theorem lifted (os : Os) (started : os.Started) (H : Type) (enc : TypeId × Value → H) :
    ReturnsInHanded {} Tryz.checked os 3 .any (fun w args => (Rows.fnSwingingSpec.pre enc Tryz.prog Tryz.f3 [] false w args ∧ laidMetH Tryz.prog Rows.fnSwingingRow.laid w) ∧ sizedMet enc Tryz.prog Tryz.f3 (OpenSpec.ofChange Rows.fnSwingingSpec) false w args)
      (Rows.fnSwingingSpec.post enc Tryz.prog Tryz.f3 false true false false) := by
  refine handed_shaped (C := Tryz.checked) (X := fun w _ => laidMetH Tryz.prog Rows.fnSwingingRow.laid w) (fun _ _ _ hh h => h.of_heap hh) own started (by kernel_rfl) Tryz.func3
    (ChangeSpec.witness_shaped (enc := enc) (C := Tryz.checked) (os := os) (X := fun w _ => laidMetH Tryz.prog Rows.fnSwingingRow.laid w) false (World.laidAll Tryz.prog os Rows.fnSwingingRow.laid) #[.slice none 0 0, .slice none 0 0] 8 (World.laidAll_os _ _ _) (World.shaped_of_ZipB (by kernel_rfl) (by kernel_rfl)) (by kernel_rfl) (by kernel_rfl) (by kernel_rfl) (door_met os _)) ?_
  intro W base args ds gs before hval0 hW hS hL
  have hval : ∀ (j : Nat) t v, Tryz.f3.params[j]? = some t → args[j]? = some v → Value.okWide Tryz.prog W .any base t v := hval0
  have hW' := hW
  obtain ⟨p, q, hA0, hV, rfl, hfz, hnd⟩ := hW
  have hA : DataW.TrodAll enc Tryz.prog W 0 (fun _ => true) true Tryz.f3.params.toList args.toList ds p := hA0
  rw [Tryz.params3] at hA hval
  obtain ⟨v0, vs0, d0, ds0, p0, q0, hargs, rfl, rfl, h0, r0⟩ := trodAll_cons hA
  obtain ⟨v1, vs1, d1, ds1, p1, q1, rfl, rfl, rfl, h1, r1⟩ := trodAll_cons r0
  obtain ⟨rfl, rfl, rfl⟩ := trodAll_nil r1
  obtain rfl : args = #[v0, v1] := by cases args; simp_all
  obtain ⟨vg, vt, vcs, vfuel, vd, vp, rfl, hg1, hg2, hg3, hg4, rfl⟩ := trodVars_one hV
  have k0 := h0
  have lt0 : ∀ x ∈ p0, x.block < W.heap.size := by obtain ⟨m, hm⟩ := k0; exact DataW.trod_lt m _ _ _ hm
  have k1 := h1
  have lt1 : ∀ x ∈ p1, x.block < W.heap.size := by obtain ⟨m, hm⟩ := k1; exact DataW.trod_lt m _ _ _ hm
  obtain ⟨A0, n0, m0, rfl⟩ := okWide_slice Tryz.underlying22 (hval 0 22 v0 rfl rfl)
  obtain ⟨fu0, hf0⟩ := h0
  obtain ⟨hr0, hn0⟩ := openBytes hf0
  obtain ⟨A1, n1, m1, rfl⟩ := okWide_slice Tryz.underlying22 (hval 1 22 v1 rfl rfl)
  obtain ⟨fu1, hf1⟩ := h1
  obtain ⟨hr1, hn1⟩ := openBytes hf1
  clear hA0 hval0
  refine (walk A0 n0 m0 A1 n1 m1 W hr0 hn0 hr1 hn1 (hasAll_of hS hL)).mono fun e W' ⟨he, bel⟩ => ?_
  subst he
  have hgt : vt = 37 := Option.some.inj (hg2.symm.trans ((show vg = 0 from Option.some.inj (hg1.symm.trans (by kernel_rfl))) ▸ (by kernel_rfl : (Tryz.prog.globals[0]?).map (·.type) = some 37)))
  subst hgt
  obtain ⟨vfuel', hg5⟩ := Below.trod laidOut (by kernel_rfl) (of_decide_eq_true (by kernel_rfl)) (v := .agg vcs) ⟨vfuel, by have h6 : DataW.trod enc Tryz.prog W 0 (fun _ => true) true vfuel 37 vcs.toList = some (vd, vp) := hg4; simpa [Value.cells] using h6⟩ bel (DataW.trod_lt vfuel _ _ _ hg4)
  have hv := trodVars_mk1 hg1 hg2 (var_below bel hg1 hg3) (by have h7 : DataW.trod enc Tryz.prog W' 0 (fun b => decide (b < W.heap.size)) true vfuel' 37 vcs.toList = some (vd, vp) := (by simpa [Value.cells] using hg5); exact h7)
  exact ⟨_, rfl, _, _, _, [], _, _, hW', trodAll_mk1 (shut_bool Tryz.underlying4 _), (trodAll_cons_mk (Below.trod laidOut (by kernel_rfl) (of_decide_eq_true (by kernel_rfl)) k0 bel lt0) (trodAll_cons_mk (Below.trod laidOut (by kernel_rfl) (of_decide_eq_true (by kernel_rfl)) k1 bel lt1) trodAll_mk0)), hv, bel.frame _, fun h => by cases h⟩
theorem said : Rows.FnSwingingSaid :=
  OpenClaim.holds_of_wide 3 Tryz.f3 rfl rfl rfl rfl rfl rfl rfl ⟨rfl, rfl, rfl, rfl, rfl⟩ rfl rfl rfl rfl rfl (by kernel_rfl) Tryz.func3 (by kernel_rfl)
    (of_decide_eq_true (by kernel_rfl)) (by unfold Func.isWrapper; first | (rw [if_pos (by decide +kernel)]; kernel_rfl) | (rw [if_neg (by decide +kernel)]; exact ⟨rfl, rfl⟩))
    (fun os started H enc _ => lifted os started H enc)
theorem plain (f : FuncId) (fn : Func) (hf : Tryz.pinned.checked.prog.funcNamed Tryz.f3.name = some f) (hfn : Tryz.pinned.checked.prog.funcs[f]? = some fn) :
    true = Tryz.pinned.checked.prog.looks [] ∧ ∀ (j : Nat) t, fn.params[j]? = some t → Tryz.pinned.checked.prog.wantsStandIn t = false := by
  obtain rfl : f = 3 := Option.some.inj ((show Tryz.prog.funcNamed Tryz.f3.name = some 3 by kernel_rfl).symm.trans hf) |>.symm
  obtain rfl : fn = Tryz.f3 := (Option.some.inj (Tryz.func3.symm.trans hfn)).symm
  refine ⟨by kernel_rfl, fun j t ht => ?_⟩
  rw [Tryz.params3] at ht
  have hm : t ∈ [22, 22] := by simpa using Array.mem_of_getElem? ht
  have hall : ([22, 22].all fun u => !Tryz.prog.wantsStandIn u) = true := by kernel_rfl
  exact (show Tryz.prog.wantsStandIn t = false by simpa using List.all_eq_true.1 hall t hm)
theorem proved : Rows.FnSwingingCardSaid :=
  Claim7.holds_tied_plain_at .later [] _ _ _ _ said (fun _ h => by cases h) (by kernel_rfl) (fun _ h => by cases h) fnSwinging_row_tie rfl ⟨rfl, rfl⟩ (by kernel_rfl) rfl plain (by kernel_rfl)
end Go.Proofs.YtflhkldfhndafaaGreatDoor.FnSwinging
