/- The holes into which a mould fits (the program's way). -/
import Derived.Test.YtonoeohmpaegdaaFitH
namespace Go.Proofs.Ytonoeohmpaegdaa
set_option linter.unusedVariables false
open Go.RowKit

/-- the indices among the first k that meet f -/
def hits (f : Nat → Bool) : Nat → List Int
  | 0 => []
  | k + 1 => bif f k then hits f k ++ [(k : Int)] else hits f k
def hitV (f : Nat → Bool) (k : Nat) : List Value := (hits f k).map (Value.int .i64)
theorem hits_len (f : Nat → Bool) : ∀ k, (hits f k).length ≤ k
  | 0 => Nat.le_refl _
  | k + 1 => by
    have := hits_len f k
    unfold hits
    cases f k
    · show (hits f k).length ≤ k + 1; omega
    · show (hits f k ++ [(k : Int)]).length ≤ k + 1
      rw [List.length_append]
      simp
      omega
theorem hits_yes {f : Nat → Bool} {k : Nat} (h : f k = true) : hits f (k + 1) = hits f k ++ [(k : Int)] := by simp only [hits, h, cond_true]
theorem hits_no {f : Nat → Bool} {k : Nat} (h : f k = false) : hits f (k + 1) = hits f k := by simp only [hits, h, cond_false]
theorem hitV_yes {f : Nat → Bool} {k : Nat} (h : f k = true) : hitV f (k + 1) = hitV f k ++ [.int .i64 (k : Int)] := by simp only [hitV, hits_yes h, List.map_append, List.map_cons, List.map_nil]
def hitP (f : Nat → Bool) (n : Nat) : Nat → Int := fun i => (hits f n)[i]?.getD 0
theorem hit_ints (f : Nat → Bool) (n : Nat) : hitV f n = intsL (hitP f n) (hits f n).length := by
  apply List.ext_getElem?
  intro i
  rcases Nat.lt_or_ge i (hits f n).length with h | h
  · rw [intsL_at _ h]
    simp [hitV, hitP, h]
  · simp [hitV, intsL, h]
/-- a list of numbers that a call has returned -/
def IntsOut (w : World) (L : Nat) (p : Nat → Int) (v : Value) (w' : World) : Prop := ∃ A c G, v = .slice A L c ∧ IntOwn w' A L p G ∧ w.heap.size ≤ G ∧ Below w.heap.size w w'
set_option maxRecDepth 20000 in
set_option maxHeartbeats 4000000 in
theorem holesFor_calls (s : ByteArray) (A : Option Addr) (n c : Nat) (p q h : Nat → Int) (wall : Int) (B : Option Addr) (m c2 : Nat) (ht : Nat → ByteArray) (hr hd : Nat → Int) (w : World) (hrow1 : RingRow w A n p q h) (hn : n ≤ 32) (hx : ∀ i, i < n → (0 ≤ p i ∧ p i ≤ 300000) ∧ (0 ≤ q i ∧ q i ≤ 300000) ∧ (0 ≤ h i ∧ h i ≤ 300000)) (hw : 1 ≤ wall ∧ wall ≤ 150000) (hrow2 : HoleRow w B m ht hr hd) (hm : m ≤ 1048576) :
    Calls Try.prog 46 #[.agg #[.string s, .slice A n c], .int .i64 wall, .slice B m c2] w fun e w' => ∃ v, e = .returned v ∧ IntsOut w (hits (fun i => fitH p h n wall (hr i) (hd i)) m).length (hitP (fun i => fitH p h n wall (hr i) (hd i)) m) v w' := by
  obtain ⟨i0, hi, hz0, hz1, hz2⟩ := info_parts Int64_info
  have HR := Lib.hid hrow1
  have HH := Lib.hid hrow2
  have HX := Lib.hid hx
  have HAL := Lib.hid ((Below.refl w.heap.size w).alloc (Nat.le_refl _) (.cells #[.string s, .slice A n c] 69))
  obtain ⟨F, hF⟩ : ∃ F : Nat → Bool, F = (fun i => fitH p h n wall (hr i) (hd i)) := ⟨_, rfl⟩
  rw [← hF]
  have HF := Lib.hid hF
  clear hrow1 hrow2 hx hF
  go_enter Try.func46, Try.ntmps46
  go_wp2
  go_loopw [7, 12] (fun v i wr => ∃ k : Nat, k ≤ m ∧ i = .int .i64 k ∧ Hid (wr.ownsRow (w.heap.size + 1) 2 1 v (hits F k).length (hitV F k)) ∧ Hid (Blk wr w.heap.size 69 #[.string s, .slice A n c]) ∧ w.heap.size + 1 ≤ wr.heap.size ∧ Below w.heap.size w wr) (fun _ i _ => m - (intOf i).toNat)
  case atStart => exact ⟨0, by omega, rfl, Lib.hid (World.ownsRow_nil _ _ _ _), Lib.hid (Blk.new _ _ _), by simp, HAL.out⟩
  case round =>
    obtain ⟨k, hk, rfl, hown, hob, hsz, hbr⟩ := hrel
    have hll := hits_len F k
    by_cases hlt : k < m
    · obtain ⟨b, o, rfl, hrow⟩ := HH.out (by omega)
      obtain ⟨u0, u1, u2⟩ := (hrow k hlt).below hbr (Nat.le_refl _)
      have a0a := cell_al ((hob.out.cell 0).trans rfl)
      have a1a := cell_al ((hob.out.cell 1).trans rfl)
      have HR2 := Lib.hid hrow
      clear hrow
      go_wp2_with fail
      go_at_call 88
      have hal := (Below.refl wr.heap.size wr).alloc (Nat.le_refl _) (.cells #[.string (ht k), .int .i64 (hr k), .int .i64 (hd k)] 79)
      refine (fitsHole_calls s A n c p q h wall _ _ _ _ ((HR.out.below hbr (Nat.le_refl _)).below hal (Nat.le_refl _)) hn HX.out hw).mono ?_
      rintro e w1 ⟨rfl, hb0⟩
      have hb := hal.trans (hb0.mono hal.size)
      have own1 := Lib.hid (own_keep hown.out hb)
      have ob1 := Lib.hid (hob.out.keep hb)
      have br1 := Lib.hid (hbr.trans (hb.mono hbr.size))
      have sz1 := hb.size
      have hq : fitH p h n wall (hr k) (hd k) = F k := by rw [HF.out]
      rw [hq]
      clear hb hb0 hal hq u0 u1 u2 a0a a1a hbr hown hob
      cases q1 : F k
      · go_wp2
        go_roundw
        case rel => exact ⟨k + 1, by omega, by go_num, Lib.hid (by unfold hitV; rw [hits_no q1]; exact own1.out), ob1, by omega, br1.out⟩
        case measure => simp [intOf]; omega
      · go_wp2_with (at_builtin; refine wpList_append_own _ rfl _ _ 26 rfl (w.heap.size + 1) 2 i0 (.int .i64 0) 1 8 Try.underlying26 hi hz0 hz1 hz2 rfl (by decide) _ _ _ rfl (own1.out.alloc _) ⟨w1.heap.size, 0, none⟩ 1 1 [.int .i64 (k : Int)] rfl rfl (fun j u hj => by match j, hj with | 0, hj => simp at hj; subst hj; simp [Addr.add]) (fun u hu => by simp at hu; subst hu; rfl) (by unfold maxLen; omega) (by omega) (by simp; omega) ?_; intro v' w2 hown' hgrow _; have hlt2 := own1.out.lt; have hb2 : Below w.heap.size w w2 := (br1.out.alloc br1.out.size _).grown hgrow (by have := br1.out.size; simp; omega) (fun j hj => by have := (hlt2 j hj).1; omega); have hob2 : Blk w2 w.heap.size 69 #[.string s, .slice A n c] := (hgrow.block _ (ob1.out.alloc _).lt (fun e => by have := (hlt2 _ e.symm).1; omega)).trans (ob1.out.alloc _); rw [← hitV_yes q1] at hown'; have HOWN := Lib.hid hown'; have HOB := Lib.hid hob2; have HB2 := Lib.hid hb2; have hs2 := hgrow.size; simp at hs2; clear hown' hgrow hob2 hb2 hlt2)
        go_roundw
        case rel => exact ⟨k + 1, by omega, by go_num, Lib.hid (by rw [hits_yes q1, List.length_append]; exact HOWN.out), HOB, by omega, HB2.out⟩
        case measure => simp [intOf]; omega
    · obtain rfl : k = m := by omega
      obtain ⟨A', c', G, rfl, hio, hG⟩ := intOwn_of (f := hitP F k) (hit_ints F k ▸ hown.out) hsz
      have HIO := Lib.hid hio
      clear hio
      go_wp2
      go_ret
      exact ⟨_, rfl, A', c', G, rfl, HIO.out, by omega, hbr⟩
end Go.Proofs.Ytonoeohmpaegdaa
