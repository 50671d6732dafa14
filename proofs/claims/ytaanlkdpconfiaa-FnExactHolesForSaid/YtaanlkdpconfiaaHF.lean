/- HolesFor, in the program and in the reference. -/
import Derived.Test.YtaanlkdpconfiaaFitS
import Derived.Test.YtaanlkdpconfiaaMouldS
namespace Go.Proofs.Ytaanlkdpconfiaa
set_option linter.unusedVariables false
open Go.RowKit

noncomputable def hfB (s : ByteArray) (n : Nat) (p q h : Nat → Int) (wall : Int) (m : Nat) (ht : Nat → ByteArray) (hr hd : Nat → Int) : Bool := profB s n p q h && ((allB (goodAt (fun i => holeB (ht i) (hr i) (hd i)) ht) m && decide ((m : Int) ≤ 8)) && inB wall 1 150000)
noncomputable def hfC (s : ByteArray) (n : Nat) (p q h : Nat → Int) (wall : Int) (m : Nat) (ht : Nat → ByteArray) (hr hd : Nat → Int) : Int := bif profB s n p q h then (bif (allB (goodAt (fun i => holeB (ht i) (hr i) (hd i)) ht) m && decide ((m : Int) ≤ 8)) then (bif inB wall 1 150000 then 0 else 2) else 1) else 1
def HfOut (w : World) (s : ByteArray) (n : Nat) (p q h : Nat → Int) (wall : Int) (m : Nat) (ht : Nat → ByteArray) (hr hd : Nat → Int) (e : Ending) (w' : World) : Prop :=
  ∃ v, e = .returned (.tuple #[v, .int .i64 (hfC s n p q h wall m ht hr hd)]) ∧ IntsOut w (bif hfB s n p q h wall m ht hr hd then (hits (fun i => fitH p h n wall (hr i) (hd i)) m).length else 0) (hitP (fun i => fitH p h n wall (hr i) (hd i)) m) v w'
theorem HfOut.none {w w' : World} {s : ByteArray} {n : Nat} {p q h : Nat → Int} {wall : Int} {m : Nat} {ht : Nat → ByteArray} {hr hd : Nat → Int} (hb : Below w.heap.size w w') {k : Int} (h1 : hfB s n p q h wall m ht hr hd = false) (h2 : hfC s n p q h wall m ht hr hd = k) : HfOut w s n p q h wall m ht hr hd (.returned (.tuple #[.slice none 0 0, .int .i64 k])) w' := by
  unfold HfOut
  rw [h1, h2]
  exact ⟨_, rfl, Option.none, 0, w.heap.size, rfl, fun h0 => absurd h0 (Nat.lt_irrefl _), Nat.le_refl _, hb⟩
theorem isMouldWall_calls (x : Int) (w : World) : Calls Try.prog 119 #[.int .i64 x] w fun e w' => e = .returned (.bool (inB x 1 150000)) ∧ w = w' := by
  go_enter Try.func119, Try.ntmps119
  go_wp2_with (go_at_call 92; refine (within_calls _ _ _ _).mono ?_; rintro e w1 ⟨rfl, rfl⟩)
  go_ret
  exact ⟨rfl, rfl⟩
set_option maxHeartbeats 4000000 in
theorem HolesFor_calls (s : ByteArray) (A : Option Addr) (n c : Nat) (p q h : Nat → Int) (wall : Int) (B : Option Addr) (m c2 : Nat) (ht : Nat → ByteArray) (hr hd : Nat → Int) (w : World) (hs : s.size ≤ maxLen) (hrow1 : RingRow w A n p q h) (hn : n ≤ 1048576) (hrow2 : HoleRow w B m ht hr hd) (hts : ∀ i, i < m → (ht i).size ≤ maxLen) (hm : m ≤ maxLen) (hm2 : m ≤ 1048576) :
    Calls Try.prog 65 #[.agg #[.string s, .slice A n c], .int .i64 wall, .slice B m c2] w fun e w' => HfOut w s n p q h wall m ht hr hd e w' := by
  have HR := Lib.hid hrow1
  have HH := Lib.hid hrow2
  have HS := Lib.hid hs
  have HT := Lib.hid hts
  have HAL := Lib.hid ((Below.refl w.heap.size w).alloc (Nat.le_refl _) (.cells #[.string s, .slice A n c] 84))
  clear hrow1 hrow2 hs hts
  cases q1 : profB s n p q h
  · go_enter Try.func65, Try.ntmps65
    go_wp2_with (go_at_call 117; refine (ValidProfile_calls _ _ _ _ _ _ _ _ HS.out (HR.out.below HAL.out (Nat.le_refl _)) hn).mono ?_; rintro e w1 ⟨rfl, hb⟩; rw [q1]; have R1 := (Blk.new w 84 #[.string s, .slice A n c]).keep hb; have x0 := (R1.cell 0).trans rfl; have x1 := (R1.cell 1).trans rfl; have HB := Lib.hid (HAL.out.trans (hb.mono HAL.out.size)); have HR1 := Lib.hid R1; clear R1 hb)
    exact bodyPost_ret (v := .tuple #[.slice none 0 0, .int .i64 1]) (by simp [results, Try.results65, go_sem]) rfl (HfOut.none HB.out (by simp only [hfB, q1]; rfl) (by simp only [hfC, q1]; rfl))
  · cases q2 : (allB (goodAt (fun i => holeB (ht i) (hr i) (hd i)) ht) m && decide ((m : Int) ≤ 8))
    · go_enter Try.func65, Try.ntmps65
      go_wp2_with (first | (go_at_call 117; refine (ValidProfile_calls _ _ _ _ _ _ _ _ HS.out (HR.out.below HAL.out (Nat.le_refl _)) hn).mono ?_; rintro e w1 ⟨rfl, hb⟩; rw [q1]; have R1 := (Blk.new w 84 #[.string s, .slice A n c]).keep hb; have x0 := (R1.cell 0).trans rfl; have x1 := (R1.cell 1).trans rfl; have HB := Lib.hid (HAL.out.trans (hb.mono HAL.out.size)); have HR1 := Lib.hid R1; clear R1 hb) | (go_at_call 118; refine (impl_ValidHoles_calls _ _ _ _ _ _ _ (HH.out.below HB.out (Nat.le_refl _)) HT.out hm).mono ?_; rintro e w2 ⟨rfl, hb⟩; rw [q2]; clear x0 x1; have x0 := ((HR1.out.keep hb).cell 0).trans rfl; have x1 := ((HR1.out.keep hb).cell 1).trans rfl; have HB2 := Lib.hid (HB.out.trans (hb.mono HB.out.size)); clear hb))
      exact bodyPost_ret (v := .tuple #[.slice none 0 0, .int .i64 1]) (by simp [results, Try.results65, go_sem]) rfl (HfOut.none HB2.out (by simp only [hfB, q1, q2]; rfl) (by simp only [hfC, q1, q2]; rfl))
    · cases q3 : inB wall 1 150000
      · go_enter Try.func65, Try.ntmps65
        go_wp2_with (first | (go_at_call 117; refine (ValidProfile_calls _ _ _ _ _ _ _ _ HS.out (HR.out.below HAL.out (Nat.le_refl _)) hn).mono ?_; rintro e w1 ⟨rfl, hb⟩; rw [q1]; have R1 := (Blk.new w 84 #[.string s, .slice A n c]).keep hb; have x0 := (R1.cell 0).trans rfl; have x1 := (R1.cell 1).trans rfl; have HB := Lib.hid (HAL.out.trans (hb.mono HAL.out.size)); have HR1 := Lib.hid R1; clear R1 hb) | (go_at_call 118; refine (impl_ValidHoles_calls _ _ _ _ _ _ _ (HH.out.below HB.out (Nat.le_refl _)) HT.out hm).mono ?_; rintro e w2 ⟨rfl, hb⟩; rw [q2]; clear x0 x1; have x0 := ((HR1.out.keep hb).cell 0).trans rfl; have x1 := ((HR1.out.keep hb).cell 1).trans rfl; have HB2 := Lib.hid (HB.out.trans (hb.mono HB.out.size)); clear hb) | (go_at_call 119; refine (isMouldWall_calls _ _).mono ?_; rintro e w3 ⟨rfl, rfl⟩; rw [q3]))
        exact bodyPost_ret (v := .tuple #[.slice none 0 0, .int .i64 2]) (by simp [results, Try.results65, go_sem]) rfl (HfOut.none HB2.out (by simp only [hfB, q1, q2, q3]; rfl) (by simp only [hfC, q1, q2, q3]; rfl))
      · obtain ⟨hn0, hn32, hx⟩ := prof_rng q1
        have HX := Lib.hid hx
        clear hx
        go_enter Try.func65, Try.ntmps65
        go_wp2_with (first | (go_at_call 117; refine (ValidProfile_calls _ _ _ _ _ _ _ _ HS.out (HR.out.below HAL.out (Nat.le_refl _)) hn).mono ?_; rintro e w1 ⟨rfl, hb⟩; rw [q1]; have R1 := (Blk.new w 84 #[.string s, .slice A n c]).keep hb; have x0 := (R1.cell 0).trans rfl; have x1 := (R1.cell 1).trans rfl; have HB := Lib.hid (HAL.out.trans (hb.mono HAL.out.size)); have HR1 := Lib.hid R1; clear R1 hb) | (go_at_call 118; refine (impl_ValidHoles_calls _ _ _ _ _ _ _ (HH.out.below HB.out (Nat.le_refl _)) HT.out hm).mono ?_; rintro e w2 ⟨rfl, hb⟩; rw [q2]; clear x0 x1; have x0 := ((HR1.out.keep hb).cell 0).trans rfl; have x1 := ((HR1.out.keep hb).cell 1).trans rfl; have HB2 := Lib.hid (HB.out.trans (hb.mono HB.out.size)); clear hb) | (go_at_call 119; refine (isMouldWall_calls _ _).mono ?_; rintro e w3 ⟨rfl, rfl⟩; rw [q3]) | (go_at_call 120; refine (holesFor_calls _ _ _ _ _ _ _ wall _ _ _ ht hr hd _ (HR.out.below HB2.out (Nat.le_refl _)) hn32 HX.out (inB_iff.1 q3) (HH.out.below HB2.out (Nat.le_refl _)) (by omega)).mono ?_; rintro e w4 ⟨v, rfl, A', c', G, rfl, hio, hG, hb4⟩; have HIO := Lib.hid hio; have HB4 := Lib.hid (HB2.out.trans (hb4.mono HB2.out.size)); have hz := HB2.out.size; clear hio hb4))
        have hB : hfB s n p q h wall m ht hr hd = true := by simp only [hfB, q1, q2, q3]; rfl
        have hC : hfC s n p q h wall m ht hr hd = 0 := by simp only [hfC, q1, q2, q3, cond_true]
        unfold HfOut
        rw [hB, hC]
        exact bodyPost_ret (v := .tuple #[.slice A' _ c', .int .i64 0]) (by simp [results, Try.results65, go_sem]) rfl ⟨_, rfl, A', c', G, rfl, HIO.out, by omega, HB4.out⟩
set_option maxRecDepth 20000 in
set_option maxHeartbeats 4000000 in
theorem sHolesFor_calls (s : ByteArray) (A : Option Addr) (n c : Nat) (p q h : Nat → Int) (wall : Int) (B : Option Addr) (m c2 : Nat) (ht : Nat → ByteArray) (hr hd : Nat → Int) (w : World) (hs : s.size ≤ maxLen) (hrow1 : RingRow w A n p q h) (hn : n ≤ 1048576) (hrow2 : HoleRow w B m ht hr hd) (hts : ∀ i, i < m → (ht i).size ≤ maxLen) (hm : m ≤ maxLen) (hm2 : m ≤ 1048576) :
    Calls Try.prog 64 #[.agg #[.string s, .slice A n c], .int .i64 wall, .slice B m c2] w fun e w' => HfOut w s n p q h wall m ht hr hd e w' := by
  have HR := Lib.hid hrow1
  have HH := Lib.hid hrow2
  have HS := Lib.hid hs
  have HT := Lib.hid hts
  have HAL := Lib.hid ((Below.refl w.heap.size w).alloc (Nat.le_refl _) (.cells #[.string s, .slice A n c] 84))
  clear hrow1 hrow2 hs hts
  have D1 := Lib.hid (show World.cell? (w.alloc (.cells #[.string s, .slice A n c] 84)) ⟨w.heap.size, 0, none⟩ = some (.string s) from ((Blk.new w 84 #[.string s, .slice A n c]).cell 0).trans rfl)
  have D2 := Lib.hid (show World.cell? (w.alloc (.cells #[.string s, .slice A n c] 84)) ⟨w.heap.size, 0 + 1, none⟩ = some (.slice A n c) from ((Blk.new w 84 #[.string s, .slice A n c]).cell 1).trans rfl)
  cases q1 : profB s n p q h
  · go_enter Try.func64, Try.ntmps64
    go_wp2_with (go_at_call 109; refine (l05Ok_below _ _ _ A n c p q h _ HS.out (HR.out.below HAL.out (Nat.le_refl _)) hn D1.out D2.out).mono ?_; rintro e w1 ⟨rfl, hb⟩; rw [q1]; have HR1 := Lib.hid ((Blk.new w 84 #[.string s, .slice A n c]).keep hb); have HB := Lib.hid (HAL.out.trans (hb.mono HAL.out.size)); clear hb)
    exact bodyPost_ret (v := .tuple #[.slice none 0 0, .int .i64 1]) (by simp [results, Try.results64, go_sem]) rfl (HfOut.none HB.out (by simp only [hfB, q1]; rfl) (by simp only [hfC, q1]; rfl))
  · cases q2 : (allB (goodAt (fun i => holeB (ht i) (hr i) (hd i)) ht) m && decide ((m : Int) ≤ 8))
    · go_enter Try.func64, Try.ntmps64
      go_wp2_with (first | (go_at_call 109; refine (l05Ok_below _ _ _ A n c p q h _ HS.out (HR.out.below HAL.out (Nat.le_refl _)) hn D1.out D2.out).mono ?_; rintro e w1 ⟨rfl, hb⟩; rw [q1]; have HR1 := Lib.hid ((Blk.new w 84 #[.string s, .slice A n c]).keep hb); have HB := Lib.hid (HAL.out.trans (hb.mono HAL.out.size)); clear hb) | (go_at_call 110; refine (spec_l15Holes_calls _ _ _ _ _ _ _ (HH.out.below HB.out (Nat.le_refl _)) HT.out hm).mono ?_; rintro e w2 ⟨rfl, hb⟩; rw [q2]; have HR3 := Lib.hid (HR1.out.keep hb); have HB2 := Lib.hid (HB.out.trans (hb.mono HB.out.size)); clear hb))
      exact bodyPost_ret (v := .tuple #[.slice none 0 0, .int .i64 1]) (by simp [results, Try.results64, go_sem]) rfl (HfOut.none HB2.out (by simp only [hfB, q1, q2]; rfl) (by simp only [hfC, q1, q2]; rfl))
    · cases q3 : inB wall 1 150000
      · go_enter Try.func64, Try.ntmps64
        go_wp2_with (first | (go_at_call 109; refine (l05Ok_below _ _ _ A n c p q h _ HS.out (HR.out.below HAL.out (Nat.le_refl _)) hn D1.out D2.out).mono ?_; rintro e w1 ⟨rfl, hb⟩; rw [q1]; have HR1 := Lib.hid ((Blk.new w 84 #[.string s, .slice A n c]).keep hb); have HB := Lib.hid (HAL.out.trans (hb.mono HAL.out.size)); clear hb) | (go_at_call 110; refine (spec_l15Holes_calls _ _ _ _ _ _ _ (HH.out.below HB.out (Nat.le_refl _)) HT.out hm).mono ?_; rintro e w2 ⟨rfl, hb⟩; rw [q2]; have HR3 := Lib.hid (HR1.out.keep hb); have HB2 := Lib.hid (HB.out.trans (hb.mono HB.out.size)); clear hb) | (go_at_call 85; refine (in_calls _ _ _ _).mono ?_; rintro e w3 ⟨rfl, rfl⟩; rw [q3]))
        exact bodyPost_ret (v := .tuple #[.slice none 0 0, .int .i64 2]) (by simp [results, Try.results64, go_sem]) rfl (HfOut.none HB2.out (by simp only [hfB, q1, q2, q3]; rfl) (by simp only [hfC, q1, q2, q3]; rfl))
      · obtain ⟨hn0, hn32, hx⟩ := prof_rng q1
        have HX := Lib.hid hx
        have hB : hfB s n p q h wall m ht hr hd = true := by simp only [hfB, q1, q2, q3]; rfl
        have hC : hfC s n p q h wall m ht hr hd = 0 := by simp only [hfC, q1, q2, q3, cond_true]
        unfold HfOut
        rw [hB, hC]
        obtain ⟨F, hF⟩ : ∃ F : Nat → Bool, F = (fun i => fitH p h n wall (hr i) (hd i)) := ⟨_, rfl⟩
        rw [← hF]
        have HF := Lib.hid hF
        obtain ⟨i0, hi, hz0, hz1, hz2⟩ := info_parts Int64_info
        clear hx hF hB hC
        go_enter Try.func64, Try.ntmps64
        go_wp2_with (first | (go_at_call 109; refine (l05Ok_below _ _ _ A n c p q h _ HS.out (HR.out.below HAL.out (Nat.le_refl _)) hn D1.out D2.out).mono ?_; rintro e w1 ⟨rfl, hb⟩; rw [q1]; have HR1 := Lib.hid ((Blk.new w 84 #[.string s, .slice A n c]).keep hb); have HB := Lib.hid (HAL.out.trans (hb.mono HAL.out.size)); clear hb) | (go_at_call 110; refine (spec_l15Holes_calls _ _ _ _ _ _ _ (HH.out.below HB.out (Nat.le_refl _)) HT.out hm).mono ?_; rintro e w2 ⟨rfl, hb⟩; rw [q2]; have HR3 := Lib.hid (HR1.out.keep hb); have HB2 := Lib.hid (HB.out.trans (hb.mono HB.out.size)); clear hb) | (go_at_call 85; refine (in_calls _ _ _ _).mono ?_; rintro e w3 ⟨rfl, rfl⟩; rw [q3]))
        have hs3 := HR3.out.lt
        have HL := Lib.hid (World.ownsRow_lit (base := w.heap.size + 1) (e := 2) (size := 1) w2 #[] 0 (by omega) (by unfold maxLen; omega) rfl)
        go_loopw [8, 9] (fun v i wr => ∃ k : Nat, k ≤ m ∧ i = .int .i64 k ∧ Hid (wr.ownsRow (w.heap.size + 1) 2 1 v (hits F k).length (hitV F k)) ∧ Hid (Blk wr w.heap.size 84 #[.string s, .slice A n c]) ∧ w.heap.size + 1 ≤ wr.heap.size ∧ Below w.heap.size w wr) (fun _ i _ => m - (intOf i).toNat)
        case atStart => exact ⟨0, by omega, rfl, HL, Lib.hid (HR3.out.alloc _), by simp; omega, HB2.out.alloc HB2.out.size _⟩
        case round =>
          obtain ⟨k, hk, rfl, hown, hob, hsz, hbr⟩ := hrel
          have hll := hits_len F k
          by_cases hlt : k < m
          · obtain ⟨b, o, rfl, hrow⟩ := HH.out (by omega)
            obtain ⟨u0, u1, u2⟩ := (hrow k hlt).below hbr (Nat.le_refl _)
            have a1 : wr.cell? ⟨w.heap.size, 0 + 1, none⟩ = some (.slice A n c) := (hob.out.cell 1).trans rfl
            have HR2 := Lib.hid hrow
            clear hrow
            go_wp2_with fail
            go_at_call 111
            refine (l15Fits_calls w.heap.size 0 _ _ A n c p q h wall (hr k) (hd k) _ (HR.out.below hbr (Nat.le_refl _)) hn32 HX.out (inB_iff.1 q3) a1 u1 u2).mono ?_
            rintro e w1 ⟨rfl, hb⟩
            have own1 := Lib.hid (own_keep hown.out hb)
            have ob1 := Lib.hid (hob.out.keep hb)
            have br1 := Lib.hid (hbr.trans (hb.mono hbr.size))
            have sz1 := hb.size
            have hq : fitH p h n wall (hr k) (hd k) = F k := by rw [HF.out]
            rw [hq]
            clear hb hq u0 u1 u2 a1 hbr hown hob
            cases q4 : F k
            · go_wp2
              go_roundw
              case rel => exact ⟨k + 1, by omega, by go_num, Lib.hid (by unfold hitV; rw [hits_no q4]; exact own1.out), ob1, by omega, br1.out⟩
              case measure => simp [intOf]; omega
            · go_wp2_with (at_builtin; refine wpList_append_own _ rfl _ _ 43 rfl (w.heap.size + 1) 2 i0 (.int .i64 0) 1 8 Try.underlying43 hi hz0 hz1 hz2 rfl (by decide) _ _ _ rfl (own1.out.alloc _) ⟨w1.heap.size, 0, none⟩ 1 1 [.int .i64 (k : Int)] rfl rfl (fun j u hj => by match j, hj with | 0, hj => simp at hj; subst hj; simp [Addr.add]) (fun u hu => by simp at hu; subst hu; rfl) (by unfold maxLen; omega) (by omega) (by simp; omega) ?_; intro v' w5 hown' hgrow _; have hlt2 := own1.out.lt; have hb2 : Below w.heap.size w w5 := (br1.out.alloc br1.out.size _).grown hgrow (by have := br1.out.size; simp; omega) (fun j hj => by have := (hlt2 j hj).1; omega); have hob2 : Blk w5 w.heap.size 84 #[.string s, .slice A n c] := (hgrow.block _ (ob1.out.alloc _).lt (fun e => by have := (hlt2 _ e.symm).1; omega)).trans (ob1.out.alloc _); rw [← hitV_yes q4] at hown'; have HOWN := Lib.hid hown'; have HOB := Lib.hid hob2; have HB5 := Lib.hid hb2; have hs2 := hgrow.size; simp at hs2; clear hown' hgrow hob2 hb2 hlt2)
              go_roundw
              case rel => exact ⟨k + 1, by omega, by go_num, Lib.hid (by rw [hits_yes q4, List.length_append]; exact HOWN.out), HOB, by omega, HB5.out⟩
              case measure => simp [intOf]; omega
          · obtain rfl : k = m := by omega
            obtain ⟨A', c', G, rfl, hio, hG⟩ := intOwn_of (f := hitP F k) (hit_ints F k ▸ hown.out) hsz
            have HIO := Lib.hid hio
            clear hio
            go_wp2
            exact bodyPost_ret (v := .tuple #[.slice A' _ c', .int .i64 0]) (by simp [results, Try.results64, go_sem]) rfl ⟨_, rfl, A', c', G, rfl, HIO.out, by omega, hbr⟩
end Go.Proofs.Ytaanlkdpconfiaa
