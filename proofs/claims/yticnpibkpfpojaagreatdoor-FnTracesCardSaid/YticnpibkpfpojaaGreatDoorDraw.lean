/- The source of choices that the drawing functions read: what each of its methods leaves, for every code and every state. -/
import Derived.Test.YticnpibkpfpojaaGreatDoorRowBase
import Derived.Handy
import Derived.Test.YticnpibkpfpojaaGreatDoorFrame
import Derived.Deep.DeepCutAuto
import Derived.Deep.Slices
import Derived.Laws.Bits64b
namespace Go.Proofs.YticnpibkpfpojaaGreatDoor
set_option linter.unusedVariables false
open Go.RowKit
/-- of the old blocks only block b may have changed -/
structure Only (b : Nat) (w w' : World) : Prop where
  os : w'.os = w.os
  tape : w'.tape = w.tape
  output : w'.output = w.output
  size : w.heap.size ≤ w'.heap.size
  block : ∀ k, k ≠ b → k < w.heap.size → w'.heap[k]? = w.heap[k]?
theorem Only.refl (b : Nat) (w : World) : Only b w w := ⟨rfl, rfl, rfl, Nat.le_refl _, fun _ _ _ => rfl⟩
theorem Only.trans {b : Nat} {u v w : World} (h : Only b u v) (k : Only b v w) : Only b u w :=
  ⟨k.os.trans h.os, k.tape.trans h.tape, k.output.trans h.output, Nat.le_trans h.size k.size, fun i hi hl => (k.block i hi (Nat.lt_of_lt_of_le hl h.size)).trans (h.block i hi hl)⟩
theorem Only.drew {b : Nat} {u v : World} (h : Only b u v) : Only b u v.drew := ⟨h.os, h.tape, h.output, h.size, h.block⟩
theorem Only.drewN {b : Nat} {u v : World} (h : Only b u v) (n : Nat) : Only b u (v.drewN n) := ⟨h.os, h.tape, h.output, h.size, h.block⟩
theorem Only.set_ {b : Nat} {u v : World} (h : Only b u v) (o : Nat) (x : Value) : Only b u (v.setCell ⟨b, o, none⟩ x) :=
  h.trans ⟨rfl, rfl, rfl, by simp [World.setCell], fun k hk _ => Below.heap_setCell _ _ _ _ hk⟩
theorem Only.alloc {b : Nat} {u v : World} (h : Only b u v) (o : Obj) : Only b u (v.alloc o) :=
  h.trans ⟨rfl, rfl, rfl, by simp, fun k _ hl => Below.heap_alloc _ _ _ hl⟩
theorem Only.keep {b g o : Nat} {x : Value} {u v : World} (h : Only b u v) (hg : g ≠ b) (hc : u.cell? ⟨g, o, none⟩ = some x) : v.cell? ⟨g, o, none⟩ = some x := (World.cell?_of_block (w := u) (a := ⟨g, o, none⟩) (h.block g hg (cell_lt hc))).trans hc
theorem Only.below {b B : Nat} {u v : World} (h : Only b u v) (hB : B ≤ b) (hb : B ≤ u.heap.size) : Below B u v := ⟨h.os, h.tape, h.output, h.size, fun k hk => h.block k (by omega) (by omega)⟩
theorem Only.blk {b g : Nat} {T : TypeId} {cs : Array Value} {u v : World} (h : Only b u v) (hg : g ≠ b) (k : Blk u g T cs) : Blk v g T cs := (h.block g hg k.lt).trans k
/-- the bytes of a code -/
def Bytes (w : World) (A : Option Addr) (n : Nat) (b : Nat) : Prop := ∀ i, i < n → ∃ g o v, A = some ⟨g, o, none⟩ ∧ g < b ∧ 0 ≤ v ∧ v ≤ 255 ∧ w.cell? ⟨g, o + i, none⟩ = some (.int .u8 v)
theorem Bytes.only {w w' : World} {A : Option Addr} {n b : Nat} (h : Bytes w A n b) (hb : Only b w w') : Bytes w' A n b := fun i hi => by
  obtain ⟨g, o, v, h1, h2, h3, h4, h5⟩ := h i hi
  exact ⟨g, o, v, h1, h2, h3, h4, hb.keep (Nat.ne_of_lt h2) h5⟩
theorem Bytes.alloc {w : World} {A : Option Addr} {n b : Nat} (h : Bytes w A n b) (x : Obj) : Bytes (w.alloc x) A n b := fun i hi => by
  obtain ⟨g, o, v, h1, h2, h3, h4, h5⟩ := h i hi
  exact ⟨g, o, v, h1, h2, h3, h4, cell_keep ((Below.refl _ _).alloc (Nat.le_refl _) _) h5⟩
/-- block b is a source that has read at most m bytes -/
def Src (w : World) (b m : Nat) : Prop := ∃ (A : Option Addr) (n c k : Nat) (x : Int), Blk w b 80 #[.slice A n c, .int .i64 k, .int .u64 x] ∧ k ≤ m ∧ n ≤ maxLen ∧ Bytes w A n b
theorem Src.mono {w : World} {b m m2 : Nat} (h : Src w b m) (hm : m ≤ m2) : Src w b m2 := by
  obtain ⟨A, n, c, k, x, h1, h2, h3, h4⟩ := h
  exact ⟨A, n, c, k, x, h1, by omega, h3, h4⟩
theorem Src.alloc {w : World} {b m : Nat} (h : Src w b m) (o : Obj) : Src (w.alloc o) b m := by
  obtain ⟨A, n, c, k, x, h1, h2, h3, h4⟩ := h
  exact ⟨A, n, c, k, x, h1.alloc _, h2, h3, h4.alloc _⟩
theorem Src.far {w : World} {b m : Nat} (h : Src w b m) {G : Nat} (hG : b < G) (o : Nat) (x : Value) : Src (w.setCell ⟨G, o, none⟩ x) b m := by
  obtain ⟨A, n, c, k, y, h1, h2, h3, h4⟩ := h
  refine ⟨A, n, c, k, y, h1.far (Nat.ne_of_lt hG) _, h2, h3, fun i hi => ?_⟩
  obtain ⟨g, q, v, e1, e2, e3, e4, e5⟩ := h4 i hi
  exact ⟨g, q, v, e1, e2, e3, e4, (World.cell?_of_block (w := w) (a := ⟨g, q + i, none⟩) (Below.heap_setCell _ _ _ _ (show g ≠ G by omega))).trans e5⟩
theorem Only.setNew {b : Nat} {u v : World} (h : Only b u v) {G : Nat} (hG : u.heap.size ≤ G) (o : Nat) (x : Value) : Only b u (v.setCell ⟨G, o, none⟩ x) :=
  ⟨h.os, h.tape, h.output, by simp [World.setCell, h.size], fun k hk hl => (Below.heap_setCell _ _ _ _ (show k ≠ G by omega)).trans (h.block k hk hl)⟩
theorem Src.lt {w : World} {b m : Nat} (h : Src w b m) : b < w.heap.size := by
  obtain ⟨A, n, c, k, x, h1, h2, h3, h4⟩ := h
  exact h1.lt
/-- a number with P comes out, the source has read m bytes at most, nothing else has changed -/
def Drawn (P : Int → Prop) (b m : Nat) (w : World) (e : Ending) (w' : World) : Prop := ∃ v, P v ∧ e = .returned (.int .i64 v) ∧ Src w' b m ∧ Only b w w'
theorem drawn_mk {P : Int → Prop} {b m n c k : Nat} {A : Option Addr} {w w' : World} {v x : Int} (hP : P v) (hB : Blk w' b 80 #[.slice A n c, .int .i64 k, .int .u64 x]) (hk : k ≤ m) (hn : n ≤ maxLen) (hy : Bytes w A n b) (ho : Only b w w') : Drawn P b m w (.returned (.int .i64 v)) w' :=
  ⟨v, hP, rfl, ⟨A, n, c, k, x, hB, hk, hn, hy.only ho⟩, ho⟩
def Byte (v : Int) : Prop := 0 ≤ v ∧ v ≤ 255
theorem byte_and (z : Int) : Byte (wrap64 (bits BinOp.and IntKind.u64 (IntKind.u64.wrap z / 1099511627776) 255)) := by
  have h0 : 0 ≤ IntKind.u64.wrap z ∧ IntKind.u64.wrap z < 18446744073709551616 := by rw [IntKind.wrap_u64]; omega
  generalize IntKind.u64.wrap z = y at *
  have h := bits_and_u64_nat (y / 1099511627776).toNat 255 (by omega) (by omega)
  have e : (((y / 1099511627776).toNat : Nat) : Int) = y / 1099511627776 := by omega
  have e2 : ((255 : Nat) : Int) = 255 := rfl
  rw [e, e2] at h
  have h2 : (y / 1099511627776).toNat &&& 255 ≤ 255 := Nat.and_le_right
  rw [h]
  unfold Byte
  rw [IntWalk.wrap64_in _ (by omega)]
  omega
set_option maxHeartbeats 1000000 in
theorem next_calls (b m : Nat) (w : World) (h : Src w b m) (hm : m ≤ 1000000000000) :
    Calls Tryz.prog 75 #[.pointer (some ⟨b, 0, none⟩)] w fun e w' => Drawn Byte b (m + 1) w e w' := by
  obtain ⟨A, n, c, k, x, h1, h2, h3, h4⟩ := h
  have c0 := (h1.cell 0).trans rfl
  have c1 := (h1.cell 1).trans rfl
  have c2 := (h1.cell 2).trans rfl
  have hf := h1.frozen
  have HB := Lib.hid h1
  have H4 := Lib.hid h4
  unfold maxLen at h3
  clear h1 h4
  by_cases hk : k < n
  · obtain ⟨g, o, v, rfl, hg, v0, v1, hc⟩ := H4.out k hk
    go_enter Tryz.func75, Tryz.ntmps75
    go_wp2_with fail
    go_quiet (fail)
    go_wp2_with fail
    go_quiet (fail)
    go_wp2_with fail
    go_quiet (fail)
    go_wp2
    go_ret
    exact drawn_mk (k := k + 1) ⟨v0, v1⟩ ((((HB.out.drewN _).set_ 1 _).set_ 2 _).drewN _) (by omega) h3 H4.out ((((Only.refl b w).drewN _).set_ 1 _).set_ 2 _ |>.drewN _)
  · go_enter Tryz.func75, Tryz.ntmps75
    go_wp2_with fail
    go_quiet (fail)
    go_wp2_with fail
    go_quiet (fail)
    go_wp2
    go_ret
    exact drawn_mk (k := k + 1) (byte_and _) ((((HB.out.drewN _).set_ 1 _).set_ 2 _).drewN _) (by omega) h3 H4.out ((((Only.refl b w).drewN _).set_ 1 _).set_ 2 _ |>.drewN _)
/-- a choice among n -/
def PickP (n v : Int) : Prop := 0 ≤ v ∧ (v < n ∨ v = 0)
set_option maxHeartbeats 1000000 in
theorem pick_calls (b m : Nat) (n : Int) (w : World) (h : Src w b m) (hm : m ≤ 1000000000) (hn : n ≤ 1000000) :
    Calls Tryz.prog 40 #[.pointer (some ⟨b, 0, none⟩), .int .i64 n] w fun e w' => Drawn (PickP n) b (m + 2) w e w' := by
  by_cases h1 : n ≤ 1
  · go_enter Tryz.func40, Tryz.ntmps40
    go_wp2
    go_ret
    exact ⟨0, ⟨by omega, .inr rfl⟩, rfl, h.mono (by omega), Only.refl _ _⟩
  · by_cases h2 : n ≤ 200
    · go_enter Tryz.func40, Tryz.ntmps40
      go_wp2_with (go_at_call 75; refine (next_calls b _ _ h (by omega)).mono ?_; rintro e w1 ⟨v, ⟨v0, v1⟩, rfl, hs1, ho1⟩)
      go_ret
      have q0 := Int.emod_nonneg v (show n ≠ 0 by omega)
      have q1 := Int.emod_lt_of_pos v (show 0 < n by omega)
      exact ⟨v % n, ⟨q0, .inl q1⟩, rfl, hs1.mono (by omega), ho1⟩
    · go_enter Tryz.func40, Tryz.ntmps40
      go_wp2_with (go_at_call 75; refine (next_calls b _ _ (by assumption) (by omega)).mono ?_; (first | (have hz := hs1; clear hz; rintro e w2 ⟨u, ⟨u0, u1⟩, rfl, hs2, ho2⟩) | rintro e w1 ⟨v, ⟨v0, v1⟩, rfl, hs1, ho1⟩))
      go_ret
      have q0 := Int.emod_nonneg (v * 256 + u) (show n ≠ 0 by omega)
      have q1 := Int.emod_lt_of_pos (v * 256 + u) (show 0 < n by omega)
      exact ⟨(v * 256 + u) % n, ⟨q0, .inl q1⟩, rfl, hs2, ho1.trans ho2⟩
/-- all cells are numbers with p -/
def allI (p : Int → Bool) : List Value → Bool
  | [] => true
  | .int .i64 v :: r => p v && allI p r
  | _ => false
theorem allI_at {p : Int → Bool} : ∀ {l : List Value}, allI p l = true → ∀ i, i < l.length → ∃ v, p v = true ∧ l[i]? = some (.int .i64 v)
  | [], _, i, hi => by simp at hi
  | .int .i64 v :: r, h, 0, _ => by
    simp only [allI, Bool.and_eq_true] at h
    exact ⟨v, h.1, rfl⟩
  | .int .i64 v :: r, h, i + 1, hi => by
    simp only [allI, Bool.and_eq_true] at h
    obtain ⟨u, h1, h2⟩ := allI_at h.2 i (by simpa using hi)
    exact ⟨u, h1, by simpa using h2⟩
def allT (p : ByteArray → Bool) : List Value → Bool
  | [] => true
  | .string v :: r => p v && allT p r
  | _ => false
theorem allT_at {p : ByteArray → Bool} : ∀ {l : List Value}, allT p l = true → ∀ i, i < l.length → ∃ v, p v = true ∧ l[i]? = some (.string v)
  | [], _, i, hi => by simp at hi
  | .string v :: r, h, 0, _ => by
    simp only [allT, Bool.and_eq_true] at h
    exact ⟨v, h.1, rfl⟩
  | .string v :: r, h, i + 1, hi => by
    simp only [allT, Bool.and_eq_true] at h
    obtain ⟨u, h1, h2⟩ := allT_at h.2 i (by simpa using hi)
    exact ⟨u, h1, by simpa using h2⟩
theorem allI_cell {p : Int → Bool} {cs : Array Value} {w : World} {g T n i : Nat} (h : allI p cs.toList = true) (hB : Blk w g T cs) (hn : cs.size = n) (hi : i < n) : ∃ u, p u = true ∧ w.cell? ⟨g, i, none⟩ = some (.int .i64 u) := by
  obtain ⟨u, hu, hc⟩ := allI_at h i (by simp; omega)
  refine ⟨u, hu, (hB.cell i).trans ?_⟩
  rw [← hc]
  simp
theorem allT_cell {p : ByteArray → Bool} {cs : Array Value} {w : World} {g T n i : Nat} (h : allT p cs.toList = true) (hB : Blk w g T cs) (hn : cs.size = n) (hi : i < n) : ∃ u, p u = true ∧ w.cell? ⟨g, i, none⟩ = some (.string u) := by
  obtain ⟨u, hu, hc⟩ := allT_at h i (by simp; omega)
  refine ⟨u, hu, (hB.cell i).trans ?_⟩
  rw [← hc]
  simp
def DrawnB (b m : Nat) (w : World) (e : Ending) (w' : World) : Prop := ∃ v : Bool, e = .returned (.bool v) ∧ Src w' b m ∧ Only b w w'
def DrawnT (P : ByteArray → Prop) (b m : Nat) (w : World) (e : Ending) (w' : World) : Prop := ∃ v : ByteArray, P v ∧ e = .returned (.string v) ∧ Src w' b m ∧ Only b w w'
set_option maxHeartbeats 400000 in
theorem one_calls (b m : Nat) (n : Int) (w : World) (h : Src w b m) (hm : m ≤ 1000000000) (hn : n ≤ 1000000) :
    Calls Tryz.prog 43 #[.pointer (some ⟨b, 0, none⟩), .int .i64 n] w fun e w' => DrawnB b (m + 2) w e w' := by
  go_enter Tryz.func43, Tryz.ntmps43
  go_wp2_with (go_at_call 40; refine (pick_calls _ _ _ _ h (by omega) (by omega)).mono ?_; rintro e w1 ⟨v, hv, rfl, hs1, ho1⟩)
  go_ret
  exact ⟨_, rfl, hs1, ho1⟩
set_option maxHeartbeats 400000 in
theorem among_calls (p : Int → Bool) (b m g T : Nat) (cs : Array Value) (n c : Nat) (w : World) (h : Src w b m) (hm : m ≤ 1000000000) (hB : Blk w g T cs) (hg : g ≠ b) (hall : allI p cs.toList = true) (hn : cs.size = n) (h1 : 1 ≤ n) (h2 : n ≤ 1000) :
    Calls Tryz.prog 41 #[.pointer (some ⟨b, 0, none⟩), .slice (some ⟨g, 0, none⟩) n c] w fun e w' => Drawn (fun v => p v = true) b (m + 2) w e w' := by
  have HB := Lib.hid hB
  have HN := Lib.hid hn
  have HA := Lib.hid hall
  clear hB hn hall
  go_enter Tryz.func41, Tryz.ntmps41
  go_wp2_with fail
  go_at_call 40
  refine (pick_calls _ _ _ _ h (by omega) (by omega)).mono ?_
  rintro e w1 ⟨v, ⟨v0, v1⟩, rfl, hs1, ho1⟩
  obtain ⟨i, rfl⟩ := Int.eq_ofNat_of_zero_le v0
  have hi : i < n := by omega
  obtain ⟨u, hu, hc⟩ := allI_cell HA.out (ho1.blk hg HB.out) HN.out hi
  clear v1
  go_wp2
  go_ret
  exact ⟨u, hu, rfl, hs1, ho1⟩
set_option maxHeartbeats 400000 in
theorem text_calls (p : ByteArray → Bool) (b m g T : Nat) (cs : Array Value) (n c : Nat) (w : World) (h : Src w b m) (hm : m ≤ 1000000000) (hB : Blk w g T cs) (hg : g ≠ b) (hall : allT p cs.toList = true) (hn : cs.size = n) (h1 : 1 ≤ n) (h2 : n ≤ 1000) :
    Calls Tryz.prog 42 #[.pointer (some ⟨b, 0, none⟩), .slice (some ⟨g, 0, none⟩) n c] w fun e w' => DrawnT (fun v => p v = true) b (m + 2) w e w' := by
  have HB := Lib.hid hB
  have HN := Lib.hid hn
  have HA := Lib.hid hall
  clear hB hn hall
  go_enter Tryz.func42, Tryz.ntmps42
  go_wp2_with fail
  go_at_call 40
  refine (pick_calls _ _ _ _ h (by omega) (by omega)).mono ?_
  rintro e w1 ⟨v, ⟨v0, v1⟩, rfl, hs1, ho1⟩
  obtain ⟨i, rfl⟩ := Int.eq_ofNat_of_zero_le v0
  have hi : i < n := by omega
  obtain ⟨u, hu, hc⟩ := allT_cell HA.out (ho1.blk hg HB.out) HN.out hi
  clear v1
  go_wp2
  go_ret
  exact ⟨u, hu, rfl, hs1, ho1⟩
/-- a code that came in -/
def Code8 (w : World) (A : Option Addr) (n : Nat) : Prop := ∀ i, i < n → ∃ g o v, A = some ⟨g, o, none⟩ ∧ 0 ≤ v ∧ v ≤ 255 ∧ w.cell? ⟨g, o + i, none⟩ = some (.int .u8 v)
theorem Code8.below {w w' : World} {A : Option Addr} {n B : Nat} (h : Code8 w A n) (hb : Below B w w') (hB : w.heap.size ≤ B) : Code8 w' A n := fun i hi => by
  obtain ⟨g, o, v, h1, h3, h4, h5⟩ := h i hi
  exact ⟨g, o, v, h1, h3, h4, (hb.cell (p := ⟨_, _, none⟩) (Nat.lt_of_lt_of_le (cell_lt h5) hB)).trans h5⟩
theorem src_new {w : World} {A : Option Addr} {n : Nat} (c : Nat) (h : Code8 w A n) (hn : n ≤ maxLen) : Src (w.alloc (.cells #[.slice A n c, .int .i64 0, .int .u64 0] 80)) w.heap.size 0 :=
  ⟨A, n, c, 0, 0, Blk.new _ _ _, Nat.le_refl _, hn, fun i hi => by
    obtain ⟨g, o, v, h1, h3, h4, h5⟩ := h i hi
    exact ⟨g, o, v, h1, cell_lt h5, h3, h4, cell_keep ((Below.refl _ _).alloc (Nat.le_refl _) _) h5⟩⟩
set_option maxHeartbeats 400000 in
theorem from_calls (A : Option Addr) (n c : Nat) (w : World) :
    Calls Tryz.prog 12 #[.slice A n c] w fun e w' => e = .returned (.pointer (some ⟨w.heap.size, 0, none⟩)) ∧ w.alloc (.cells #[.slice A n c, .int .i64 0, .int .u64 0] 80) = w' := by
  go_enter Tryz.func12, Tryz.ntmps12
  go_wp2
  go_ret
  exact ⟨rfl, rfl⟩
def okI (lo hi v : Int) : Bool := decide (lo ≤ v ∧ v ≤ hi)
theorem okI_iff {lo hi v : Int} : okI lo hi v = true ↔ lo ≤ v ∧ v ≤ hi := by simp [okI]
open Go.ChangeShapes Go.WideShapes Go.Deep in
theorem openBytes {H : Type} {enc : TypeId × Value → H} {w : World} {base : Nat} {spare : Nat → Bool} {held : Bool} {fuel : Nat} {A : Option Addr} {n c : Nat} {x : DataW H × List MemPlace} (h : DataW.trod enc Tryz.prog w base spare held fuel 22 [.slice A n c] = some x) :
    Code8 w A n ∧ n ≤ maxLen := by
  rcases open_slice1 Tryz.underlying22 (by kernel_rfl) h with ⟨hcs, hx⟩ | ⟨a, len, cap, m, fu, V, D, Pl, hcs, hb, hl, hm, hmm, hx, hi⟩
  · simp only [List.cons.injEq, Value.slice.injEq, and_true] at hcs
    obtain ⟨rfl, rfl, rfl⟩ := hcs
    exact ⟨fun i h0 => by omega, by unfold maxLen; omega⟩
  · simp only [List.cons.injEq, Value.slice.injEq, and_true] at hcs
    obtain ⟨rfl, rfl, rfl⟩ := hcs
    have hlm : n ≤ m := by rw [hmm]; split <;> omega
    refine ⟨fun i h0 => ?_, by omega⟩
    obtain ⟨hc, ht⟩ := hi i (by omega)
    obtain ⟨v, e, _, q⟩ := DataW.trod_int Tryz.underlying5 ht
    have e1 := one_cell e
    rw [e1] at hc
    have hv : 0 ≤ v ∧ v ≤ 255 := by
      simp only [Lit.wf, IntKind.min, IntKind.max, IntKind.signed, IntKind.bits, Bool.and_eq_true] at q
      simpa using q
    have hspot : a.spot = none := by
      obtain ⟨hc0, -⟩ := hi 0 (by omega)
      simpa [Addr.add] using Go.World.cell?_spot hc0
    obtain ⟨g, o, spot⟩ := a
    simp only at hspot
    subst hspot
    exact ⟨g, o, v, rfl, hv.1, hv.2, cell_add hc rfl⟩
set_option maxHeartbeats 400000 in
theorem b10Long_calls (A : Option Addr) (n c : Nat) (w : World) (hn : n ≤ maxLen) :
    Calls Tryz.prog 4 #[.slice A n c] w fun e w' => e = .returned (.bool (decide (1048576 < n))) ∧ w = w' := by
  unfold maxLen at hn
  go_enter Tryz.func4, Tryz.ntmps4
  go_wp2
  go_ret
  exact ⟨ret_bool (by simp only [decide_eq_decide]; omega), rfl⟩
end Go.Proofs.YticnpibkpfpojaaGreatDoor
