/- The source of choices that the drawing functions read: what each of its methods leaves, for every code and every state. -/
import Derived.Test.YtflhkldfhndafaaGreatDoorRowBase
import Derived.Test.YtflhkldfhndafaaGreatDoorName
import Derived.Handy
import Derived.Test.YtflhkldfhndafaaGreatDoorFrame
import Derived.Deep.DeepCutAuto
import Derived.Deep.Slices
import Derived.Laws.Bits64b
namespace Go.Proofs.YtflhkldfhndafaaGreatDoor
set_option linter.unusedVariables false
set_option linter.unusedSimpArgs false
open Go.RowKit
/-- of the old blocks only block b may have changed -/
structure Only (b : Nat) (w w' : World) : Prop where
  os : w'.os = w.os
  tape : w'.tape = w.tape
  output : w'.output = w.output
  size : w.heap.size ≤ w'.heap.size
  block : ∀ k, k ≠ b → k < w.heap.size → w'.heap[k]? = w.heap[k]?
theorem Only.refl (b : Nat) (w : World) : Only b w w := ⟨rfl, rfl, rfl, Nat.le_refl _, fun _ _ _ => rfl⟩
theorem Only.trans {b : Nat} {u v w : World} (h : Only b u v) (k : Only b v w) : Only b u w :=
  ⟨k.os.trans h.os, k.tape.trans h.tape, k.output.trans h.output, Nat.le_trans h.size k.size, fun i hi hl => (k.block i hi (Nat.lt_of_lt_of_le hl h.size)).trans (h.block i hi hl)⟩
theorem Only.drew {b : Nat} {u v : World} (h : Only b u v) : Only b u v.drew := ⟨h.os, h.tape, h.output, h.size, h.block⟩
theorem Only.drewN {b : Nat} {u v : World} (h : Only b u v) (n : Nat) : Only b u (v.drewN n) := ⟨h.os, h.tape, h.output, h.size, h.block⟩
theorem Only.set_ {b : Nat} {u v : World} (h : Only b u v) (o : Nat) (x : Value) : Only b u (v.setCell ⟨b, o, none⟩ x) :=
  h.trans ⟨rfl, rfl, rfl, by simp [World.setCell], fun k hk _ => Below.heap_setCell _ _ _ _ hk⟩
theorem Only.alloc {b : Nat} {u v : World} (h : Only b u v) (o : Obj) : Only b u (v.alloc o) :=
  h.trans ⟨rfl, rfl, rfl, by simp, fun k _ hl => Below.heap_alloc _ _ _ hl⟩
theorem Only.keep {b g o : Nat} {x : Value} {u v : World} (h : Only b u v) (hg : g ≠ b) (hc : u.cell? ⟨g, o, none⟩ = some x) : v.cell? ⟨g, o, none⟩ = some x := (World.cell?_of_block (w := u) (a := ⟨g, o, none⟩) (h.block g hg (cell_lt hc))).trans hc
theorem Only.below {b B : Nat} {u v : World} (h : Only b u v) (hB : B ≤ b) (hb : B ≤ u.heap.size) : Below B u v := ⟨h.os, h.tape, h.output, h.size, fun k hk => h.block k (by omega) (by omega)⟩
theorem Only.blk {b g : Nat} {T : TypeId} {cs : Array Value} {u v : World} (h : Only b u v) (hg : g ≠ b) (k : Blk u g T cs) : Blk v g T cs := (h.block g hg k.lt).trans k
/-- the bytes of a code -/
def Bytes (w : World) (A : Option Addr) (n : Nat) (b : Nat) : Prop := ∀ i, i < n → ∃ g o v, A = some ⟨g, o, none⟩ ∧ g < b ∧ 0 ≤ v ∧ v ≤ 255 ∧ w.cell? ⟨g, o + i, none⟩ = some (.int .u8 v)
theorem Bytes.only {w w' : World} {A : Option Addr} {n b : Nat} (h : Bytes w A n b) (hb : Only b w w') : Bytes w' A n b := fun i hi => by
  obtain ⟨g, o, v, h1, h2, h3, h4, h5⟩ := h i hi
  exact ⟨g, o, v, h1, h2, h3, h4, hb.keep (Nat.ne_of_lt h2) h5⟩
theorem Bytes.alloc {w : World} {A : Option Addr} {n b : Nat} (h : Bytes w A n b) (x : Obj) : Bytes (w.alloc x) A n b := fun i hi => by
  obtain ⟨g, o, v, h1, h2, h3, h4, h5⟩ := h i hi
  exact ⟨g, o, v, h1, h2, h3, h4, cell_keep ((Below.refl _ _).alloc (Nat.le_refl _) _) h5⟩
/-- block b is a source that has read at most m bytes -/
def Src (w : World) (b m : Nat) : Prop := ∃ (A : Option Addr) (n c k : Nat) (x : Int), Blk w b 55 #[.slice A n c, .int .i64 k, .int .u64 x] ∧ k ≤ m ∧ n ≤ maxLen ∧ Bytes w A n b
theorem Src.mono {w : World} {b m m2 : Nat} (h : Src w b m) (hm : m ≤ m2) : Src w b m2 := by
  obtain ⟨A, n, c, k, x, h1, h2, h3, h4⟩ := h
  exact ⟨A, n, c, k, x, h1, by omega, h3, h4⟩
theorem Src.alloc {w : World} {b m : Nat} (h : Src w b m) (o : Obj) : Src (w.alloc o) b m := by
  obtain ⟨A, n, c, k, x, h1, h2, h3, h4⟩ := h
  exact ⟨A, n, c, k, x, h1.alloc _, h2, h3, h4.alloc _⟩
theorem Src.far {w : World} {b m : Nat} (h : Src w b m) {G : Nat} (hG : b < G) (o : Nat) (x : Value) : Src (w.setCell ⟨G, o, none⟩ x) b m := by
  obtain ⟨A, n, c, k, y, h1, h2, h3, h4⟩ := h
  refine ⟨A, n, c, k, y, h1.far (Nat.ne_of_lt hG) _, h2, h3, fun i hi => ?_⟩
  obtain ⟨g, q, v, e1, e2, e3, e4, e5⟩ := h4 i hi
  exact ⟨g, q, v, e1, e2, e3, e4, (World.cell?_of_block (w := w) (a := ⟨g, q + i, none⟩) (Below.heap_setCell _ _ _ _ (show g ≠ G by omega))).trans e5⟩
theorem Only.setNew {b : Nat} {u v : World} (h : Only b u v) {G : Nat} (hG : u.heap.size ≤ G) (o : Nat) (x : Value) : Only b u (v.setCell ⟨G, o, none⟩ x) :=
  ⟨h.os, h.tape, h.output, by simp [World.setCell, h.size], fun k hk hl => (Below.heap_setCell _ _ _ _ (show k ≠ G by omega)).trans (h.block k hk hl)⟩
theorem Src.lt {w : World} {b m : Nat} (h : Src w b m) : b < w.heap.size := by
  obtain ⟨A, n, c, k, x, h1, h2, h3, h4⟩ := h
  exact h1.lt
/-- a number with P comes out, the source has read m bytes at most, nothing else has changed -/
def Drawn (P : Int → Prop) (b m : Nat) (w : World) (e : Ending) (w' : World) : Prop := ∃ v, P v ∧ e = .returned (.int .i64 v) ∧ Src w' b m ∧ Only b w w'
theorem drawn_mk {P : Int → Prop} {b m n c k : Nat} {A : Option Addr} {w w' : World} {v x : Int} (hP : P v) (hB : Blk w' b 55 #[.slice A n c, .int .i64 k, .int .u64 x]) (hk : k ≤ m) (hn : n ≤ maxLen) (hy : Bytes w A n b) (ho : Only b w w') : Drawn P b m w (.returned (.int .i64 v)) w' :=
  ⟨v, hP, rfl, ⟨A, n, c, k, x, hB, hk, hn, hy.only ho⟩, ho⟩
def Byte (v : Int) : Prop := 0 ≤ v ∧ v ≤ 255
theorem byte_and (z : Int) : Byte (wrap64 (bits BinOp.and IntKind.u64 (IntKind.u64.wrap z / 1099511627776) 255)) := by
  have h0 : 0 ≤ IntKind.u64.wrap z ∧ IntKind.u64.wrap z < 18446744073709551616 := by rw [IntKind.wrap_u64]; omega
  generalize IntKind.u64.wrap z = y at *
  have h := bits_and_u64_nat (y / 1099511627776).toNat 255 (by omega) (by omega)
  have e : (((y / 1099511627776).toNat : Nat) : Int) = y / 1099511627776 := by omega
  have e2 : ((255 : Nat) : Int) = 255 := rfl
  rw [e, e2] at h
  have h2 : (y / 1099511627776).toNat &&& 255 ≤ 255 := Nat.and_le_right
  rw [h]
  unfold Byte
  rw [IntWalk.wrap64_in _ (by omega)]
  omega
set_option maxHeartbeats 1000000 in
theorem next_calls (b m : Nat) (w : World) (h : Src w b m) (hm : m ≤ 1000000000000) :
    Calls Tryz.prog 44 #[.pointer (some ⟨b, 0, none⟩)] w fun e w' => Drawn Byte b (m + 1) w e w' := by
  obtain ⟨A, n, c, k, x, h1, h2, h3, h4⟩ := h
  have c0 := (h1.cell 0).trans rfl
  have c1 := (h1.cell 1).trans rfl
  have c2 := (h1.cell 2).trans rfl
  have hf := h1.frozen
  have HB := Lib.hid h1
  have H4 := Lib.hid h4
  unfold maxLen at h3
  clear h1 h4
  by_cases hk : k < n
  · obtain ⟨g, o, v, rfl, hg, v0, v1, hc⟩ := H4.out k hk
    go_enter Tryz.func44, Tryz.ntmps44
    go_wp2_with fail
    go_quiet (fail)
    go_wp2_with fail
    go_quiet (fail)
    go_wp2_with fail
    go_quiet (fail)
    go_wp2
    go_ret
    exact drawn_mk (k := k + 1) ⟨v0, v1⟩ ((((HB.out.drewN _).set_ 1 _).set_ 2 _).drewN _) (by omega) h3 H4.out ((((Only.refl b w).drewN _).set_ 1 _).set_ 2 _ |>.drewN _)
  · go_enter Tryz.func44, Tryz.ntmps44
    go_wp2_with fail
    go_quiet (fail)
    go_wp2_with fail
    go_quiet (fail)
    go_wp2
    go_ret
    exact drawn_mk (k := k + 1) (byte_and _) ((((HB.out.drewN _).set_ 1 _).set_ 2 _).drewN _) (by omega) h3 H4.out ((((Only.refl b w).drewN _).set_ 1 _).set_ 2 _ |>.drewN _)
/-- a choice among n -/
def PickP (n v : Int) : Prop := 0 ≤ v ∧ (v < n ∨ v = 0)
set_option maxHeartbeats 1000000 in
theorem pick_calls (b m : Nat) (n : Int) (w : World) (h : Src w b m) (hm : m ≤ 1000000000) (hn : n ≤ 1000000) :
    Calls Tryz.prog 30 #[.pointer (some ⟨b, 0, none⟩), .int .i64 n] w fun e w' => Drawn (PickP n) b (m + 2) w e w' := by
  by_cases h1 : n ≤ 1
  · go_enter Tryz.func30, Tryz.ntmps30
    go_wp2
    go_ret
    exact ⟨0, ⟨by omega, .inr rfl⟩, rfl, h.mono (by omega), Only.refl _ _⟩
  · by_cases h2 : n ≤ 200
    · go_enter Tryz.func30, Tryz.ntmps30
      go_wp2_with (go_at_call 44; refine (next_calls b _ _ h (by omega)).mono ?_; rintro e w1 ⟨v, ⟨v0, v1⟩, rfl, hs1, ho1⟩)
      go_ret
      have q0 := Int.emod_nonneg v (show n ≠ 0 by omega)
      have q1 := Int.emod_lt_of_pos v (show 0 < n by omega)
      exact ⟨v % n, ⟨q0, .inl q1⟩, rfl, hs1.mono (by omega), ho1⟩
    · go_enter Tryz.func30, Tryz.ntmps30
      go_wp2_with (go_at_call 44; refine (next_calls b _ _ (by assumption) (by omega)).mono ?_; (first | (have hz := hs1; clear hz; rintro e w2 ⟨u, ⟨u0, u1⟩, rfl, hs2, ho2⟩) | rintro e w1 ⟨v, ⟨v0, v1⟩, rfl, hs1, ho1⟩))
      go_ret
      have q0 := Int.emod_nonneg (v * 256 + u) (show n ≠ 0 by omega)
      have q1 := Int.emod_lt_of_pos (v * 256 + u) (show 0 < n by omega)
      exact ⟨(v * 256 + u) % n, ⟨q0, .inl q1⟩, rfl, hs2, ho1.trans ho2⟩
/-- all cells are numbers with p -/
def allI (p : Int → Bool) : List Value → Bool
  | [] => true
  | .int .i64 v :: r => p v && allI p r
  | _ => false
theorem allI_at {p : Int → Bool} : ∀ {l : List Value}, allI p l = true → ∀ i, i < l.length → ∃ v, p v = true ∧ l[i]? = some (.int .i64 v)
  | [], _, i, hi => by simp at hi
  | .int .i64 v :: r, h, 0, _ => by
    simp only [allI, Bool.and_eq_true] at h
    exact ⟨v, h.1, rfl⟩
  | .int .i64 v :: r, h, i + 1, hi => by
    simp only [allI, Bool.and_eq_true] at h
    obtain ⟨u, h1, h2⟩ := allI_at h.2 i (by simpa using hi)
    exact ⟨u, h1, by simpa using h2⟩
def allT (p : ByteArray → Bool) : List Value → Bool
  | [] => true
  | .string v :: r => p v && allT p r
  | _ => false
theorem allT_at {p : ByteArray → Bool} : ∀ {l : List Value}, allT p l = true → ∀ i, i < l.length → ∃ v, p v = true ∧ l[i]? = some (.string v)
  | [], _, i, hi => by simp at hi
  | .string v :: r, h, 0, _ => by
    simp only [allT, Bool.and_eq_true] at h
    exact ⟨v, h.1, rfl⟩
  | .string v :: r, h, i + 1, hi => by
    simp only [allT, Bool.and_eq_true] at h
    obtain ⟨u, h1, h2⟩ := allT_at h.2 i (by simpa using hi)
    exact ⟨u, h1, by simpa using h2⟩
theorem allI_cell {p : Int → Bool} {cs : Array Value} {w : World} {g T n i : Nat} (h : allI p cs.toList = true) (hB : Blk w g T cs) (hn : cs.size = n) (hi : i < n) : ∃ u, p u = true ∧ w.cell? ⟨g, i, none⟩ = some (.int .i64 u) := by
  obtain ⟨u, hu, hc⟩ := allI_at h i (by simp; omega)
  refine ⟨u, hu, (hB.cell i).trans ?_⟩
  rw [← hc]
  simp
theorem allT_cell {p : ByteArray → Bool} {cs : Array Value} {w : World} {g T n i : Nat} (h : allT p cs.toList = true) (hB : Blk w g T cs) (hn : cs.size = n) (hi : i < n) : ∃ u, p u = true ∧ w.cell? ⟨g, i, none⟩ = some (.string u) := by
  obtain ⟨u, hu, hc⟩ := allT_at h i (by simp; omega)
  refine ⟨u, hu, (hB.cell i).trans ?_⟩
  rw [← hc]
  simp
def DrawnB (b m : Nat) (w : World) (e : Ending) (w' : World) : Prop := ∃ v : Bool, e = .returned (.bool v) ∧ Src w' b m ∧ Only b w w'
def DrawnT (P : ByteArray → Prop) (b m : Nat) (w : World) (e : Ending) (w' : World) : Prop := ∃ v : ByteArray, P v ∧ e = .returned (.string v) ∧ Src w' b m ∧ Only b w w'
set_option maxHeartbeats 400000 in
theorem text_calls (p : ByteArray → Bool) (b m g T : Nat) (cs : Array Value) (n c : Nat) (w : World) (h : Src w b m) (hm : m ≤ 1000000000) (hB : Blk w g T cs) (hg : g ≠ b) (hall : allT p cs.toList = true) (hn : cs.size = n) (h1 : 1 ≤ n) (h2 : n ≤ 1000) :
    Calls Tryz.prog 29 #[.pointer (some ⟨b, 0, none⟩), .slice (some ⟨g, 0, none⟩) n c] w fun e w' => DrawnT (fun v => p v = true) b (m + 2) w e w' := by
  have HB := Lib.hid hB
  have HN := Lib.hid hn
  have HA := Lib.hid hall
  clear hB hn hall
  go_enter Tryz.func29, Tryz.ntmps29
  go_wp2_with fail
  go_at_call 30
  refine (pick_calls _ _ _ _ h (by omega) (by omega)).mono ?_
  rintro e w1 ⟨v, ⟨v0, v1⟩, rfl, hs1, ho1⟩
  obtain ⟨i, rfl⟩ := Int.eq_ofNat_of_zero_le v0
  have hi : i < n := by omega
  obtain ⟨u, hu, hc⟩ := allT_cell HA.out (ho1.blk hg HB.out) HN.out hi
  clear v1
  go_wp2
  go_ret
  exact ⟨u, hu, rfl, hs1, ho1⟩
instance (s : ByteArray) (k : Nat) : Decidable (okAt s k) := by unfold okAt; infer_instance
instance (s : ByteArray) : Decidable (nameP s) := by unfold nameP; infer_instance
/-- a hung bell that was drawn -/
def HungOk (s : ByteArray) (m a f g : Int) : Prop := nameP s ∧ (1000 ≤ m ∧ m ≤ 3000000) ∧ (100 ≤ a ∧ a ≤ 9099) ∧ (500 ≤ f ∧ f ≤ 949) ∧ (20 ≤ g ∧ g ≤ 119)
set_option maxHeartbeats 2000000 in
theorem l19Draw_calls (b m : Nat) (w : World) (h : Src w b m) (hm : m ≤ 100000000) :
    Calls Tryz.prog 18 #[.pointer (some ⟨b, 0, none⟩)] w fun e w' => ∃ s ma a f g, HungOk s ma a f g ∧ e = .returned (.agg #[.string s, .int .i64 ma, .int .i64 a, .int .i64 f, .int .i64 g]) ∧ Src w' b (m + 10) ∧ Only b w w' := by
  have hlt := h.lt
  go_enter Tryz.func18, Tryz.ntmps18
  go_wp2_with fail
  go_at_call 29
  refine (text_calls (fun s => decide (nameP s)) _ _ _ _ _ _ _ _ (by exact (h.alloc _).alloc _) (by omega) (by exact Blk.new2 _ _ _ _) (by omega) (by decide +kernel) (by rfl) (by omega) (by omega)).mono ?_
  rintro e w1 ⟨s, hsn, rfl, hs1, ho1⟩
  have hz1 := ho1.size
  simp at hz1
  have hn := of_decide_eq_true hsn
  have HN := Lib.hid hn
  have R1 := Lib.hid (ho1.blk (show w.heap.size ≠ b by omega) ((Blk.new w 27 #[.string ⟨#[]⟩, .int .i64 0, .int .i64 0, .int .i64 0, .int .i64 0]).alloc _))
  have hb1 := Lib.hid ((((Only.refl b w).alloc _).alloc _).trans ho1)
  clear hsn hn ho1
  go_wp2_with fail
  go_at_call 30
  refine (pick_calls _ _ _ _ hs1 (by omega) (by omega)).mono ?_
  rintro e w2 ⟨p, ⟨p0, p1⟩, rfl, hs2, ho2⟩
  have p2 : p ≤ 2999 := by omega
  have hz2 := ho2.size
  have R2 := Lib.hid (ho2.blk (show w.heap.size ≠ b by omega) R1.out)
  have hb2 := Lib.hid (hb1.out.trans ho2)
  clear p1 ho2 hs1 R1 hb1
  go_wp2_with fail
  go_at_call 30
  refine (pick_calls _ _ _ _ (hs2.alloc _) (by omega) (by omega)).mono ?_
  rintro e w3 ⟨a, ⟨a0, a1⟩, rfl, hs3, ho3⟩
  have a2 : a ≤ 8999 := by omega
  have hz3 := ho3.size
  simp at hz3
  have R3 := Lib.hid (ho3.blk (show w.heap.size ≠ b by omega) (R2.out.alloc _))
  have G3 := ho3.blk (show w2.heap.size ≠ b by omega) (Blk.new w2 27 #[.string s, .int .i64 (1000 * (1 + p)), .int .i64 0, .int .i64 0, .int .i64 0])
  have hb3 := Lib.hid ((hb2.out.alloc _).trans ho3)
  have gf := G3.frozen
  have gc := (G3.cell 2).trans rfl
  have HG3 := Lib.hid G3
  clear a1 ho3 hs2 R2 hb2 G3
  go_wp2_with fail
  go_at_call 30
  refine (pick_calls _ _ _ _ (hs3.far (show b < w2.heap.size by omega) _ _) (by omega) (by omega)).mono ?_
  rintro e w4 ⟨f, ⟨f0, f1⟩, rfl, hs4, ho4⟩
  have f2 : f ≤ 449 := by omega
  have hz4 := ho4.size
  simp at hz4
  have R4 := Lib.hid (ho4.blk (show w.heap.size ≠ b by omega) (R3.out.far (show w.heap.size ≠ w2.heap.size by omega) _))
  have G4 := ho4.blk (show w2.heap.size ≠ b by omega) (HG3.out.set_ 2 _)
  have hb4 := Lib.hid ((hb3.out.setNew (show w.heap.size ≤ w2.heap.size by omega) _ _).trans ho4)
  have gf4 := G4.frozen
  have gc4 := (G4.cell 3).trans rfl
  have HG4 := Lib.hid G4
  clear f1 ho4 hs3 R3 hb3 G4 gf gc HG3
  go_wp2_with fail
  go_at_call 30
  refine (pick_calls _ _ _ _ (hs4.far (show b < w2.heap.size by omega) _ _) (by omega) (by omega)).mono ?_
  rintro e w5 ⟨g, ⟨g0, g1⟩, rfl, hs5, ho5⟩
  have g2 : g ≤ 99 := by omega
  have hz5 := ho5.size
  simp at hz5
  have R5 := ho5.blk (show w.heap.size ≠ b by omega) (R4.out.far (show w.heap.size ≠ w2.heap.size by omega) _)
  have G5 := ho5.blk (show w2.heap.size ≠ b by omega) (HG4.out.set_ 3 _)
  have hb5 := Lib.hid ((hb4.out.setNew (show w.heap.size ≤ w2.heap.size by omega) _ _).trans ho5)
  have gf5 := G5.frozen
  have rf5 := R5.frozen
  have x0 := (G5.cell 0).trans rfl
  have x1 := (G5.cell 1).trans rfl
  have x2 := (G5.cell 2).trans rfl
  have x3 := (G5.cell 3).trans rfl
  have x4 := (G5.cell 4).trans rfl
  have y0 := (R5.cell 0).trans rfl
  have y1 := (R5.cell 1).trans rfl
  have y2 := (R5.cell 2).trans rfl
  have y3 := (R5.cell 3).trans rfl
  have y4 := (R5.cell 4).trans rfl
  have hne : w.heap.size ≠ w2.heap.size := by omega
  clear g1 ho5 hs4 R4 hb4 G5 R5 gf4 gc4 HG4
  go_wp2
  refine bodyPost_ret (v := .agg #[.string s, .int .i64 (1000 * (1 + p)), .int .i64 (100 + a), .int .i64 (500 + f), .int .i64 (20 + g)]) (by simp [results, Tryz.results18, go_sem, y0, y1, y2, y3, y4]) rfl ?_
  refine ⟨s, 1000 * (1 + p), 100 + a, 500 + f, 20 + g, ⟨HN.out, by omega, by omega, by omega, by omega⟩, rfl, ?_, ?_⟩
  · repeat (refine Src.far ?_ (by omega) _ _)
    exact hs5
  · repeat (refine Only.setNew ?_ (by omega) _ _)
    exact hb5.out
/-- a code that came in -/
def Code8 (w : World) (A : Option Addr) (n : Nat) : Prop := ∀ i, i < n → ∃ g o v, A = some ⟨g, o, none⟩ ∧ 0 ≤ v ∧ v ≤ 255 ∧ w.cell? ⟨g, o + i, none⟩ = some (.int .u8 v)
theorem Code8.below {w w' : World} {A : Option Addr} {n B : Nat} (h : Code8 w A n) (hb : Below B w w') (hB : w.heap.size ≤ B) : Code8 w' A n := fun i hi => by
  obtain ⟨g, o, v, h1, h3, h4, h5⟩ := h i hi
  exact ⟨g, o, v, h1, h3, h4, (hb.cell (p := ⟨_, _, none⟩) (Nat.lt_of_lt_of_le (cell_lt h5) hB)).trans h5⟩
theorem src_new {w : World} {A : Option Addr} {n : Nat} (c : Nat) (h : Code8 w A n) (hn : n ≤ maxLen) : Src (w.alloc (.cells #[.slice A n c, .int .i64 0, .int .u64 0] 55)) w.heap.size 0 :=
  ⟨A, n, c, 0, 0, Blk.new _ _ _, Nat.le_refl _, hn, fun i hi => by
    obtain ⟨g, o, v, h1, h3, h4, h5⟩ := h i hi
    exact ⟨g, o, v, h1, cell_lt h5, h3, h4, cell_keep ((Below.refl _ _).alloc (Nat.le_refl _) _) h5⟩⟩
set_option maxHeartbeats 400000 in
theorem from_calls (A : Option Addr) (n c : Nat) (w : World) :
    Calls Tryz.prog 17 #[.slice A n c] w fun e w' => e = .returned (.pointer (some ⟨w.heap.size, 0, none⟩)) ∧ w.alloc (.cells #[.slice A n c, .int .i64 0, .int .u64 0] 55) = w' := by
  go_enter Tryz.func17, Tryz.ntmps17
  go_wp2
  go_ret
  exact ⟨rfl, rfl⟩
def okI (lo hi v : Int) : Bool := decide (lo ≤ v ∧ v ≤ hi)
theorem okI_iff {lo hi v : Int} : okI lo hi v = true ↔ lo ≤ v ∧ v ≤ hi := by simp [okI]
open Go.ChangeShapes Go.WideShapes Go.Deep in
theorem openBytes {H : Type} {enc : TypeId × Value → H} {w : World} {base : Nat} {spare : Nat → Bool} {held : Bool} {fuel : Nat} {A : Option Addr} {n c : Nat} {x : DataW H × List MemPlace} (h : DataW.trod enc Tryz.prog w base spare held fuel 22 [.slice A n c] = some x) :
    Code8 w A n ∧ n ≤ maxLen := by
  rcases open_slice1 Tryz.underlying22 (by kernel_rfl) h with ⟨hcs, hx⟩ | ⟨a, len, cap, m, fu, V, D, Pl, hcs, hb, hl, hm, hmm, hx, hi⟩
  · simp only [List.cons.injEq, Value.slice.injEq, and_true] at hcs
    obtain ⟨rfl, rfl, rfl⟩ := hcs
    exact ⟨fun i h0 => by omega, by unfold maxLen; omega⟩
  · simp only [List.cons.injEq, Value.slice.injEq, and_true] at hcs
    obtain ⟨rfl, rfl, rfl⟩ := hcs
    have hlm : n ≤ m := by rw [hmm]; split <;> omega
    refine ⟨fun i h0 => ?_, by omega⟩
    obtain ⟨hc, ht⟩ := hi i (by omega)
    obtain ⟨v, e, _, q⟩ := DataW.trod_int Tryz.underlying5 ht
    have e1 := one_cell e
    rw [e1] at hc
    have hv : 0 ≤ v ∧ v ≤ 255 := by
      simp only [Lit.wf, IntKind.min, IntKind.max, IntKind.signed, IntKind.bits, Bool.and_eq_true] at q
      simpa using q
    have hspot : a.spot = none := by
      obtain ⟨hc0, -⟩ := hi 0 (by omega)
      simpa [Addr.add] using Go.World.cell?_spot hc0
    obtain ⟨g, o, spot⟩ := a
    simp only at hspot
    subst hspot
    exact ⟨g, o, v, rfl, hv.1, hv.2, cell_add hc rfl⟩
set_option maxHeartbeats 1000000 in
theorem R8Hung_calls (A : Option Addr) (n c : Nat) (w : World) (hA : Code8 w A n) (hn : n ≤ maxLen) :
    Calls Tryz.prog 8 #[.slice A n c] w fun e w' => ∃ s m a f g, HungOk s m a f g ∧ e = .returned (.agg #[.string s, .int .i64 m, .int .i64 a, .int .i64 f, .int .i64 g]) ∧ Below w.heap.size w w' := by
  have hA2 : Code8 (w.alloc (.cells #[.string ⟨#[]⟩, .int .i64 0, .int .i64 0, .int .i64 0, .int .i64 0] 27)) A n := hA.below ((Below.refl _ _).alloc (Nat.le_refl _) _) (Nat.le_refl _)
  have hs0 := src_new c hA2 hn
  go_enter Tryz.func8, Tryz.ntmps8
  go_wp2_with (go_at_call 17; refine (from_calls _ _ _ _).mono ?_; rintro e w1 ⟨rfl, rfl⟩)
  rw [show (w.alloc (.cells #[.string ⟨#[]⟩, .int .i64 0, .int .i64 0, .int .i64 0, .int .i64 0] 27)).heap.size = w.heap.size + 1 by simp] at hs0
  go_at_call 18
  refine (l19Draw_calls _ _ _ hs0 (by omega)).mono ?_
  rintro e w1 ⟨s, m, a, f, g, hok, rfl, hs1, ho1⟩
  have HOK := Lib.hid hok
  have R := ho1.blk (show w.heap.size ≠ w.heap.size + 1 by omega) (((Blk.new w 27 #[.string ⟨#[]⟩, .int .i64 0, .int .i64 0, .int .i64 0, .int .i64 0]).alloc _))
  have rf := R.frozen
  have y0 := (R.cell 0).trans rfl
  have y1 := (R.cell 1).trans rfl
  have y2 := (R.cell 2).trans rfl
  have y3 := (R.cell 3).trans rfl
  have y4 := (R.cell 4).trans rfl
  have hb := Lib.hid ((((Below.refl w.heap.size w).alloc (Nat.le_refl _) (.cells #[.string ⟨#[]⟩, .int .i64 0, .int .i64 0, .int .i64 0, .int .i64 0] 27)).alloc (by simp) (.cells #[.slice A n c, .int .i64 0, .int .u64 0] 55)).trans (ho1.below (by omega) (by simp <;> omega)))
  clear hok R ho1
  go_wp2
  refine bodyPost_ret (v := .agg #[.string s, .int .i64 m, .int .i64 a, .int .i64 f, .int .i64 g]) (by simp [results, Tryz.results8, go_sem, y0, y1, y2, y3, y4]) rfl ?_
  refine ⟨s, m, a, f, g, HOK.out, rfl, ?_⟩
  exact (((((hb.out.setCell (by simp) _).setCell (by simp) _).setCell (by simp) _).setCell (by simp) _).setCell (by simp) _)
set_option maxHeartbeats 400000 in
theorem r8Long_calls (A : Option Addr) (n c : Nat) (B : Option Addr) (nb cb : Nat) (w : World) (hn : n ≤ maxLen) (hnb : nb ≤ maxLen) :
    Calls Tryz.prog 4 #[.slice A n c, .slice B nb cb] w fun e w' => e = .returned (.bool (decide ((1048576 : Int) < n) || decide ((1048576 : Int) < nb))) ∧ w = w' := by
  unfold maxLen at hn hnb
  go_enter Tryz.func4, Tryz.ntmps4
  go_wp2
  all_goals
    go_ret
    exact ⟨rfl, rfl⟩
set_option maxHeartbeats 400000 in
theorem r8At_calls (A : Option Addr) (n c : Nat) (i k : Int) (w : World) (hA : Code8 w A n) (hn : n ≤ maxLen) (i0 : 0 ≤ i) (i1 : i ≤ 1000000) (k0 : 1 ≤ k) (k1 : k ≤ 1000000) :
    Calls Tryz.prog 9 #[.slice A n c, .int .i64 i, .int .i64 k] w fun e w' => (∃ v, (0 ≤ v ∧ v < k) ∧ e = .returned (.int .i64 v)) ∧ w = w' := by
  unfold maxLen at hn
  obtain ⟨j, rfl⟩ := Int.eq_ofNat_of_zero_le i0
  have HA := Lib.hid hA
  clear hA
  by_cases hk : k ≤ 1
  · go_enter Tryz.func9, Tryz.ntmps9
    go_wp2
    go_ret
    exact ⟨⟨0, ⟨by omega, by omega⟩, rfl⟩, rfl⟩
  · by_cases hj : j < n
    · obtain ⟨g, o, v, rfl, v0, v1, hc⟩ := HA.out j hj
      have q0 := Int.emod_nonneg v (show k ≠ 0 by omega)
      have q1 := Int.emod_lt_of_pos v (show 0 < k by omega)
      go_enter Tryz.func9, Tryz.ntmps9
      go_wp2
      go_ret
      exact ⟨⟨_, ⟨q0, q1⟩, rfl⟩, rfl⟩
    · go_enter Tryz.func9, Tryz.ntmps9
      go_wp2
      go_ret
      exact ⟨⟨0, ⟨by omega, by omega⟩, rfl⟩, rfl⟩
end Go.Proofs.YtflhkldfhndafaaGreatDoor
