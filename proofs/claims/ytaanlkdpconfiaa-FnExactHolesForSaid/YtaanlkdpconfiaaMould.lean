/- scaled, isShrink, MouldFor and CastFrom (the program's way). -/
import Derived.Test.YtaanlkdpconfiaaReshape
namespace Go.Proofs.Ytaanlkdpconfiaa
set_option linter.unusedVariables false
open Go.RowKit

theorem Blk.new4 (w : World) (o o2 o3 : Obj) (t : TypeId) (cs : Array Value) : Blk ((((w.alloc o).alloc o2).alloc o3).alloc (.cells cs t)) (w.heap.size + 1 + 1 + 1) t cs := by
  have := Blk.new (((w.alloc o).alloc o2).alloc o3) t cs
  simpa using this
theorem prof_rng {s : ByteArray} {n : Nat} {p q h : Nat → Int} (hp : profB s n p q h = true) : 0 < n ∧ n ≤ 32 ∧ ∀ i, i < n → (0 ≤ p i ∧ p i ≤ 300000) ∧ (0 ≤ q i ∧ q i ≤ 300000) ∧ (0 ≤ h i ∧ h i ≤ 300000) := by
  simp only [profB, Bool.and_eq_true, decide_eq_true_eq] at hp
  obtain ⟨-, h1, h2, h3, -, -⟩ := hp
  refine ⟨h1, h2, fun i hi => ?_⟩
  have := ringB_of (allB_of h3 i hi)
  omega
set_option maxHeartbeats 2000000 in
theorem scaled_calls (s : ByteArray) (A : Option Addr) (n c : Nat) (p q h : Nat → Int) (num den : Int) (w : World) (hs : s.size ≤ maxLen) (hr : RingRow w A n p q h) (hn0 : 0 < n) (hn : n ≤ 32) (hx : ∀ i, i < n → (0 ≤ p i ∧ p i ≤ 300000) ∧ (0 ≤ q i ∧ q i ≤ 300000) ∧ (0 ≤ h i ∧ h i ≤ 300000)) (hnum : 1 ≤ num ∧ num ≤ 2000) (hden : 1 ≤ den ∧ den ≤ 2000) :
    Calls Try.prog 130 #[.agg #[.string s, .slice A n c], .int .i64 num, .int .i64 den] w fun e w' => ProfOut w (bif profB s n (rs p num den) (rs q num den) (rs h num den) then s else ⟨#[]⟩) (bif profB s n (rs p num den) (rs q num den) (rs h num den) then n else 0) (rs p num den) (rs q num den) (rs h num den) (bif profB s n (rs p num den) (rs q num den) (rs h num den) then 0 else 6) e w' := by
  have HR := Lib.hid hr
  have HX := Lib.hid hx
  have HS := Lib.hid hs
  have HAL := Lib.hid (((((Below.refl w.heap.size w).alloc (Nat.le_refl _) (.cells #[.string s, .slice A n c] 84)).alloc (by simp) (.cells #[.int .i64 num] 2)).alloc (by simp; omega) (.cells #[.int .i64 den] 2)).alloc (by simp; omega) (.cells #[.string ⟨#[]⟩, .slice none 0 0] 84))
  have D1 := Lib.hid (show World.cell? ((((w.alloc (.cells #[.string s, .slice A n c] 84)).alloc (.cells #[.int .i64 num] 2)).alloc (.cells #[.int .i64 den] 2)).alloc (.cells #[.string ⟨#[]⟩, .slice none 0 0] 84)) ⟨w.heap.size + 1, 0, none⟩ = some (.int .i64 num) from ((((Blk.new2 w _ 2 #[.int .i64 num]).alloc _).alloc _).cell 0).trans rfl)
  have D2 := Lib.hid (show World.cell? ((((w.alloc (.cells #[.string s, .slice A n c] 84)).alloc (.cells #[.int .i64 num] 2)).alloc (.cells #[.int .i64 den] 2)).alloc (.cells #[.string ⟨#[]⟩, .slice none 0 0] 84)) ⟨w.heap.size + 1 + 1, 0, none⟩ = some (.int .i64 den) from (((Blk.new3 w _ _ 2 #[.int .i64 den]).alloc _).cell 0).trans rfl)
  clear hr hx hs
  go_enter Try.func130, Try.ntmps130
  go_wp2_with (go_at_call 168; refine (reshaped_calls _ _ _ _ _ _ _ num den (w.heap.size + 1) (w.heap.size + 1 + 1) _ D1.out D2.out HS.out (HR.out.below HAL.out (Nat.le_refl _)) hn0 hn HX.out hnum hden).mono ?_; rintro e w1 ⟨A', c', G, rfl, hro, hG, hb⟩; have R2 := (Blk.new4 w _ _ _ _ _).keep hb; have y0 := (R2.cell 0).trans rfl; have y1 := (R2.cell 1).trans rfl; have f2 := R2.frozen; have HB := Lib.hid (HAL.out.trans (hb.mono HAL.out.size)); have HRO := Lib.hid hro; simp at hG; clear R2 hb hro)
  refine bodyPost_ret (v := .tuple #[.agg #[.string _, .slice A' _ c'], .int .i64 _]) (by simp [results, Try.results130, go_sem, y0, y1]) rfl ⟨A', c', G, rfl, ?_, by omega, ?_⟩
  · refine HRO.out.same ?_
    repeat (refine (Below.heap_setCell _ _ _ _ (by simp <;> omega)).trans ?_)
    rfl
  · repeat (refine Below.setCell ?_ (by simp <;> omega) _)
    exact HB.out
theorem isShrink_calls (x : Int) (w : World) : Calls Try.prog 129 #[.int .i64 x] w fun e w' => e = .returned (.bool (inB x 0 50)) ∧ w = w' := by
  go_enter Try.func129, Try.ntmps129
  go_wp2_with (go_at_call 92; refine (within_calls _ _ _ _).mono ?_; rintro e w1 ⟨rfl, rfl⟩)
  go_ret
  exact ⟨rfl, rfl⟩
/-- whether a profile of another size is had -/
noncomputable def hadB (s : ByteArray) (n : Nat) (p q h : Nat → Int) (num den x : Int) : Bool := profB s n p q h && (inB x 0 50 && profB s n (rs p num den) (rs q num den) (rs h num den))
noncomputable def hadC (s : ByteArray) (n : Nat) (p q h : Nat → Int) (num den x : Int) : Int := bif profB s n p q h then (bif inB x 0 50 then (bif profB s n (rs p num den) (rs q num den) (rs h num den) then 0 else 6) else 2) else 1
def HadOut (w : World) (s : ByteArray) (n : Nat) (p q h : Nat → Int) (num den x : Int) (e : Ending) (w' : World) : Prop :=
  ProfOut w (bif hadB s n p q h num den x then s else ⟨#[]⟩) (bif hadB s n p q h num den x then n else 0) (rs p num den) (rs q num den) (rs h num den) (hadC s n p q h num den x) e w'
theorem HadOut.none {w w' : World} {s : ByteArray} {n : Nat} {p q h : Nat → Int} {num den x : Int} (hb : Below w.heap.size w w') {k : Int} (h1 : hadB s n p q h num den x = false) (h2 : hadC s n p q h num den x = k) : HadOut w s n p q h num den x (.returned (.tuple #[.agg #[.string ⟨#[]⟩, .slice none 0 0], .int .i64 k])) w' := by
  unfold HadOut
  rw [h1, h2]
  exact ⟨Option.none, 0, w.heap.size, rfl, fun h0 => absurd h0 (Nat.lt_irrefl _), Nat.le_refl _, hb⟩
set_option maxHeartbeats 4000000 in
theorem MouldFor_calls (s : ByteArray) (A : Option Addr) (n c : Nat) (p q h : Nat → Int) (x : Int) (w : World) (hs : s.size ≤ maxLen) (hr : RingRow w A n p q h) (hn : n ≤ 1048576) :
    Calls Try.prog 61 #[.agg #[.string s, .slice A n c], .int .i64 x] w fun e w' => HadOut w s n p q h (1000 + x) 1000 x e w' := by
  have HR := Lib.hid hr
  have HS := Lib.hid hs
  have HAL := Lib.hid (((Below.refl w.heap.size w).alloc (Nat.le_refl _) (.cells #[.string s, .slice A n c] 84)).alloc (by simp) (.cells #[.string ⟨#[]⟩, .slice none 0 0] 84))
  clear hr hs
  cases q1 : profB s n p q h
  · go_enter Try.func61, Try.ntmps61
    go_wp2_with (go_at_call 117; refine (ValidProfile_calls _ _ _ _ _ _ _ _ HS.out (HR.out.below HAL.out (Nat.le_refl _)) hn).mono ?_; rintro e w1 ⟨rfl, hb⟩; rw [q1]; have R1 := ((Blk.new w 84 #[.string s, .slice A n c]).alloc (.cells #[.string ⟨#[]⟩, .slice none 0 0] 84)).keep hb; have R2 := (Blk.new2 w (.cells #[.string s, .slice A n c] 84) 84 #[.string ⟨#[]⟩, .slice none 0 0]).keep hb; have x0 := (R1.cell 0).trans rfl; have x1 := (R1.cell 1).trans rfl; have y0 := (R2.cell 0).trans rfl; have y1 := (R2.cell 1).trans rfl; have f2 := R2.frozen; have HB := Lib.hid (HAL.out.trans (hb.mono HAL.out.size)); have HR2 := Lib.hid R2; have hsz := HB.out.size; have hl2 := R2.lt; clear R1 R2 hb)
    refine bodyPost_ret (v := .tuple #[.agg #[.string ⟨#[]⟩, .slice none 0 0], .int .i64 1]) (by simp [results, Try.results61, go_sem, y0, y1]) rfl (HadOut.none ?_ (by simp only [hadB, q1]; rfl) (by simp only [hadC, q1]; rfl))
    repeat (refine Below.setCell ?_ (by simp <;> omega) _)
    exact HB.out
  · cases q2 : inB x 0 50
    · go_enter Try.func61, Try.ntmps61
      go_wp2_with (first | (go_at_call 117; refine (ValidProfile_calls _ _ _ _ _ _ _ _ HS.out (HR.out.below HAL.out (Nat.le_refl _)) hn).mono ?_; rintro e w1 ⟨rfl, hb⟩; rw [q1]; have R1 := ((Blk.new w 84 #[.string s, .slice A n c]).alloc (.cells #[.string ⟨#[]⟩, .slice none 0 0] 84)).keep hb; have R2 := (Blk.new2 w (.cells #[.string s, .slice A n c] 84) 84 #[.string ⟨#[]⟩, .slice none 0 0]).keep hb; have x0 := (R1.cell 0).trans rfl; have x1 := (R1.cell 1).trans rfl; have y0 := (R2.cell 0).trans rfl; have y1 := (R2.cell 1).trans rfl; have f2 := R2.frozen; have HB := Lib.hid (HAL.out.trans (hb.mono HAL.out.size)); have HR2 := Lib.hid R2; have hsz := HB.out.size; have hl2 := R2.lt; clear R1 R2 hb) | (go_at_call 129; refine (isShrink_calls _ _).mono ?_; rintro e w2 ⟨rfl, rfl⟩; rw [q2]))
      refine bodyPost_ret (v := .tuple #[.agg #[.string ⟨#[]⟩, .slice none 0 0], .int .i64 2]) (by simp [results, Try.results61, go_sem, y0, y1]) rfl (HadOut.none ?_ (by simp only [hadB, q1, q2]; rfl) (by simp only [hadC, q1, q2]; rfl))
      repeat (refine Below.setCell ?_ (by simp <;> omega) _)
      exact HB.out
    · obtain ⟨hn0, hn32, hx⟩ := prof_rng q1
      have HX := Lib.hid hx
      obtain ⟨g0, g1⟩ := inB_iff.1 q2
      have e1 : IntKind.i64.wrap (1000 + x) = 1000 + x := IntWalk.i64_in _ ⟨by omega, by omega⟩
      clear hx
      go_enter Try.func61, Try.ntmps61
      go_wp2_with (first | (go_at_call 117; refine (ValidProfile_calls _ _ _ _ _ _ _ _ HS.out (HR.out.below HAL.out (Nat.le_refl _)) hn).mono ?_; rintro e w1 ⟨rfl, hb⟩; rw [q1]; have R1 := ((Blk.new w 84 #[.string s, .slice A n c]).alloc (.cells #[.string ⟨#[]⟩, .slice none 0 0] 84)).keep hb; have R2 := (Blk.new2 w (.cells #[.string s, .slice A n c] 84) 84 #[.string ⟨#[]⟩, .slice none 0 0]).keep hb; have x0 := (R1.cell 0).trans rfl; have x1 := (R1.cell 1).trans rfl; have y0 := (R2.cell 0).trans rfl; have y1 := (R2.cell 1).trans rfl; have f2 := R2.frozen; have HB := Lib.hid (HAL.out.trans (hb.mono HAL.out.size)); have HR2 := Lib.hid R2; have hsz := HB.out.size; have hl2 := R2.lt; clear R1 R2 hb) | (go_at_call 129; refine (isShrink_calls _ _).mono ?_; rintro e w2 ⟨rfl, rfl⟩; rw [q2]) | (go_at_call 130; refine (scaled_calls _ _ _ _ _ _ _ _ _ _ HS.out (HR.out.below HB.out (Nat.le_refl _)) hn0 hn32 HX.out (by omega) (by omega)).mono ?_; rintro e w3 ⟨A', c', G, rfl, hro, hG, hb3⟩; clear x0 x1 y0 y1 f2; have R3 := HR2.out.keep hb3; have y0 := (R3.cell 0).trans rfl; have y1 := (R3.cell 1).trans rfl; have f2 := R3.frozen; have HB3 := Lib.hid (HB.out.trans (hb3.mono hsz)); have HRO := Lib.hid hro; clear R3 hb3 hro))
      have hB : hadB s n p q h (1000 + x) 1000 x = profB s n (rs p (1000 + x) 1000) (rs q (1000 + x) 1000) (rs h (1000 + x) 1000) := by simp only [hadB, q1, q2, Bool.true_and]
      have hC : hadC s n p q h (1000 + x) 1000 x = bif profB s n (rs p (1000 + x) 1000) (rs q (1000 + x) 1000) (rs h (1000 + x) 1000) then 0 else 6 := by simp only [hadC, q1, q2, cond_true]
      unfold HadOut
      rw [hB, hC]
      refine bodyPost_ret (v := .tuple #[.agg #[.string _, .slice A' _ c'], .int .i64 _]) (by simp [results, Try.results61, go_sem, y0, y1]) rfl ⟨A', c', G, rfl, ?_, by omega, ?_⟩
      · refine HRO.out.same ?_
        repeat (refine (Below.heap_setCell _ _ _ _ (by simp <;> omega)).trans ?_)
        rfl
      · repeat (refine Below.setCell ?_ (by simp <;> omega) _)
        exact HB3.out
set_option maxHeartbeats 4000000 in
theorem CastFrom_calls (s : ByteArray) (A : Option Addr) (n c : Nat) (p q h : Nat → Int) (x : Int) (w : World) (hs : s.size ≤ maxLen) (hr : RingRow w A n p q h) (hn : n ≤ 1048576) :
    Calls Try.prog 56 #[.agg #[.string s, .slice A n c], .int .i64 x] w fun e w' => HadOut w s n p q h 1000 (1000 + x) x e w' := by
  have HR := Lib.hid hr
  have HS := Lib.hid hs
  have HAL := Lib.hid (((Below.refl w.heap.size w).alloc (Nat.le_refl _) (.cells #[.string s, .slice A n c] 84)).alloc (by simp) (.cells #[.string ⟨#[]⟩, .slice none 0 0] 84))
  clear hr hs
  cases q1 : profB s n p q h
  · go_enter Try.func56, Try.ntmps56
    go_wp2_with (go_at_call 117; refine (ValidProfile_calls _ _ _ _ _ _ _ _ HS.out (HR.out.below HAL.out (Nat.le_refl _)) hn).mono ?_; rintro e w1 ⟨rfl, hb⟩; rw [q1]; have R1 := ((Blk.new w 84 #[.string s, .slice A n c]).alloc (.cells #[.string ⟨#[]⟩, .slice none 0 0] 84)).keep hb; have R2 := (Blk.new2 w (.cells #[.string s, .slice A n c] 84) 84 #[.string ⟨#[]⟩, .slice none 0 0]).keep hb; have x0 := (R1.cell 0).trans rfl; have x1 := (R1.cell 1).trans rfl; have y0 := (R2.cell 0).trans rfl; have y1 := (R2.cell 1).trans rfl; have f2 := R2.frozen; have HB := Lib.hid (HAL.out.trans (hb.mono HAL.out.size)); have HR2 := Lib.hid R2; have hsz := HB.out.size; have hl2 := R2.lt; clear R1 R2 hb)
    refine bodyPost_ret (v := .tuple #[.agg #[.string ⟨#[]⟩, .slice none 0 0], .int .i64 1]) (by simp [results, Try.results56, go_sem, y0, y1]) rfl (HadOut.none ?_ (by simp only [hadB, q1]; rfl) (by simp only [hadC, q1]; rfl))
    repeat (refine Below.setCell ?_ (by simp <;> omega) _)
    exact HB.out
  · cases q2 : inB x 0 50
    · go_enter Try.func56, Try.ntmps56
      go_wp2_with (first | (go_at_call 117; refine (ValidProfile_calls _ _ _ _ _ _ _ _ HS.out (HR.out.below HAL.out (Nat.le_refl _)) hn).mono ?_; rintro e w1 ⟨rfl, hb⟩; rw [q1]; have R1 := ((Blk.new w 84 #[.string s, .slice A n c]).alloc (.cells #[.string ⟨#[]⟩, .slice none 0 0] 84)).keep hb; have R2 := (Blk.new2 w (.cells #[.string s, .slice A n c] 84) 84 #[.string ⟨#[]⟩, .slice none 0 0]).keep hb; have x0 := (R1.cell 0).trans rfl; have x1 := (R1.cell 1).trans rfl; have y0 := (R2.cell 0).trans rfl; have y1 := (R2.cell 1).trans rfl; have f2 := R2.frozen; have HB := Lib.hid (HAL.out.trans (hb.mono HAL.out.size)); have HR2 := Lib.hid R2; have hsz := HB.out.size; have hl2 := R2.lt; clear R1 R2 hb) | (go_at_call 129; refine (isShrink_calls _ _).mono ?_; rintro e w2 ⟨rfl, rfl⟩; rw [q2]))
      refine bodyPost_ret (v := .tuple #[.agg #[.string ⟨#[]⟩, .slice none 0 0], .int .i64 2]) (by simp [results, Try.results56, go_sem, y0, y1]) rfl (HadOut.none ?_ (by simp only [hadB, q1, q2]; rfl) (by simp only [hadC, q1, q2]; rfl))
      repeat (refine Below.setCell ?_ (by simp <;> omega) _)
      exact HB.out
    · obtain ⟨hn0, hn32, hx⟩ := prof_rng q1
      have HX := Lib.hid hx
      obtain ⟨g0, g1⟩ := inB_iff.1 q2
      have e1 : IntKind.i64.wrap (1000 + x) = 1000 + x := IntWalk.i64_in _ ⟨by omega, by omega⟩
      clear hx
      go_enter Try.func56, Try.ntmps56
      go_wp2_with (first | (go_at_call 117; refine (ValidProfile_calls _ _ _ _ _ _ _ _ HS.out (HR.out.below HAL.out (Nat.le_refl _)) hn).mono ?_; rintro e w1 ⟨rfl, hb⟩; rw [q1]; have R1 := ((Blk.new w 84 #[.string s, .slice A n c]).alloc (.cells #[.string ⟨#[]⟩, .slice none 0 0] 84)).keep hb; have R2 := (Blk.new2 w (.cells #[.string s, .slice A n c] 84) 84 #[.string ⟨#[]⟩, .slice none 0 0]).keep hb; have x0 := (R1.cell 0).trans rfl; have x1 := (R1.cell 1).trans rfl; have y0 := (R2.cell 0).trans rfl; have y1 := (R2.cell 1).trans rfl; have f2 := R2.frozen; have HB := Lib.hid (HAL.out.trans (hb.mono HAL.out.size)); have HR2 := Lib.hid R2; have hsz := HB.out.size; have hl2 := R2.lt; clear R1 R2 hb) | (go_at_call 129; refine (isShrink_calls _ _).mono ?_; rintro e w2 ⟨rfl, rfl⟩; rw [q2]) | (go_at_call 130; refine (scaled_calls _ _ _ _ _ _ _ _ _ _ HS.out (HR.out.below HB.out (Nat.le_refl _)) hn0 hn32 HX.out (by omega) (by omega)).mono ?_; rintro e w3 ⟨A', c', G, rfl, hro, hG, hb3⟩; clear x0 x1 y0 y1 f2; have R3 := HR2.out.keep hb3; have y0 := (R3.cell 0).trans rfl; have y1 := (R3.cell 1).trans rfl; have f2 := R3.frozen; have HB3 := Lib.hid (HB.out.trans (hb3.mono hsz)); have HRO := Lib.hid hro; clear R3 hb3 hro))
      have hB : hadB s n p q h 1000 (1000 + x) x = profB s n (rs p 1000 (1000 + x)) (rs q 1000 (1000 + x)) (rs h 1000 (1000 + x)) := by simp only [hadB, q1, q2, Bool.true_and]
      have hC : hadC s n p q h 1000 (1000 + x) x = bif profB s n (rs p 1000 (1000 + x)) (rs q 1000 (1000 + x)) (rs h 1000 (1000 + x)) then 0 else 6 := by simp only [hadC, q1, q2, cond_true]
      unfold HadOut
      rw [hB, hC]
      refine bodyPost_ret (v := .tuple #[.agg #[.string _, .slice A' _ c'], .int .i64 _]) (by simp [results, Try.results56, go_sem, y0, y1]) rfl ⟨A', c', G, rfl, ?_, by omega, ?_⟩
      · refine HRO.out.same ?_
        repeat (refine (Below.heap_setCell _ _ _ _ (by simp <;> omega)).trans ?_)
        rfl
      · repeat (refine Below.setCell ?_ (by simp <;> omega) _)
        exact HB3.out
end Go.Proofs.Ytaanlkdpconfiaa
