import Derived.Test.YticnpibkpfpojaaGreatDoorJMelt
import Derived.Test.YticnpibkpfpojaaGreatDoorJDrM
/- Lists of bells that the drawing functions make; a row of shares that append may write. No program in sight. -/
namespace Go.Proofs.YticnpibkpfpojaaGreatDoor
set_option linter.unusedVariables false
open Go.RowKit
/-- a drawn bell's bounds -/
def SmallB (x : BellV) : Prop := Fine x ∧ 0 ≤ x.ma ∧ x.ma ≤ 100000000 ∧ x.n ≤ 1000
theorem BellsL.congr {w : World} {xs : List Value} {k : Nat} {f f' : Nat → BellV} (h : BellsL w xs k f) (he : ∀ i, i < k → f' i = f i) : BellsL w xs k f' := ⟨h.1, fun i hi => by rw [he i hi]; exact h.2 i hi⟩
/-- k bells among cells, each fine -/
def BellsP (w : World) (xs : List Value) (k : Nat) : Prop := ∃ F : Nat → BellV, BellsL w xs k F ∧ ∀ j, j < k → Fine (F j)
theorem BellsP.nil (w : World) : BellsP w [] 0 := ⟨fun _ => ⟨⟨#[]⟩, 0, 0, 0, 0, fun _ => ⟨#[]⟩, fun _ => 0⟩, BellsL.nil _ _, fun j hj => absurd hj (Nat.not_lt_zero _)⟩
theorem BellsP.fix {S : TypeId → Prop} {w w' : World} {xs : List Value} {k : Nat} (h : BellsP w xs k) (hf : Fix S w w') (hs : S 41) : BellsP w' xs k := by
  obtain ⟨F, h1, h2⟩ := h
  exact ⟨F, h1.fix hf hs, h2⟩
theorem BellsP.snoc {w : World} {xs : List Value} {k c : Nat} {A : Option Addr} {x : BellV} (h : BellsP w xs k) (hn : ShareT w A x.n x.ss x.ms) (hx : Fine x) : BellsP w (xs ++ bellC x (.slice A x.n c)) (k + 1) := by
  obtain ⟨F, h1, h2⟩ := h
  obtain ⟨F2, hF2⟩ : ∃ F2 : Nat → BellV, F2 = fun j => if j = k then x else F j := ⟨_, rfl⟩
  have e : F2 k = x := by rw [hF2]; exact if_pos rfl
  have h3 : BellsL w xs k F2 := h1.congr fun i hi => by rw [hF2]; exact if_neg (by omega)
  have h4 := h3.snoc (c := c) (A := A) (by rw [e]; exact hn)
  rw [e] at h4
  refine ⟨F2, h4, fun j hj => ?_⟩
  rw [hF2]
  show Fine (if j = k then x else F j)
  split
  · exact hx
  · exact h2 j (by omega)
theorem bellP_of {w : World} {base k : Nat} {v : Value} {xs : List Value} (ho : w.ownsRow base 28 5 v k xs) (h : BellsP w xs k) : ∃ A c F, v = .slice A k c ∧ k ≤ c ∧ BellT w A k F ∧ ∀ j, j < k → Fine (F j) := by
  obtain ⟨F, h1, h2⟩ := h
  obtain ⟨A, c, h3, h4, h5⟩ := bellT_of ho h1
  exact ⟨A, c, F, h3, h4, h5, h2⟩
/-- a list of bells as the drawing functions leave it -/
def BellsD (w : World) (A : Option Addr) (n c : Nat) (f : Nat → BellV) : Prop := n ≤ c ∧ n ≤ 25 ∧ BellT w A n f ∧ ∀ j, j < n → Fine (f j)
theorem BellsD.fix {S : TypeId → Prop} {w w' : World} {A : Option Addr} {n c : Nat} {f : Nat → BellV} (h : BellsD w A n c f) (hf : Fix S w w') (hs : S 41) (hm : S 28) : BellsD w' A n c f := ⟨h.1, h.2.1, h.2.2.1.fix hf hs hm, h.2.2.2⟩
/-- a list of melts as the drawing functions leave it -/
def MeltsD (w : World) (B : Option Addr) (m d : Nat) (g : Nat → MeltV) : Prop := m ≤ d ∧ m ≤ 13 ∧ MeltT w B m g ∧ ∀ j, j < m → FineM (g j)
theorem MeltsD.fix {S : TypeId → Prop} {w w' : World} {A : Option Addr} {n c : Nat} {f : Nat → MeltV} (h : MeltsD w A n c f) (hf : Fix S w w') (hs : S 9) (hm : S 74) : MeltsD w' A n c f := ⟨h.1, h.2.1, h.2.2.1.fix hf hs hm, h.2.2.2⟩
theorem MeltT.tail {w : World} {g o m : Nat} {f : Nat → MeltV} (h : MeltT w (some ⟨g, o, none⟩) m f) : MeltT w (some ⟨g, o + 3, none⟩) (m - 1) (fun i => f (i + 1)) := fun hn => by
  obtain ⟨g2, o2, arr, hA, hb, hx⟩ := h (by omega)
  simp only [Option.some.injEq, Addr.mk.injEq, and_true] at hA
  obtain ⟨rfl, rfl⟩ := hA
  refine ⟨g, o + 3, arr, rfl, hb, fun i hi => (hx (i + 1) (by omega)).congr fun j hj => ?_⟩
  show arr[o + 3 + i * 3 + j]? = arr[o + (i + 1) * 3 + j]?
  congr 1
  omega
/-- the first melt's mass written -/
theorem MeltT.mass {w : World} {g o m : Nat} {f : Nat → MeltV} {v : Int} (h : MeltT w (some ⟨g, o, none⟩) m f) (hm : 0 < m) : MeltT (w.setCell ⟨g, o + 2, none⟩ (.int .i64 v)) (some ⟨g, o, none⟩) m (fun i => if i = 0 then ⟨(f 0).id, (f 0).n, (f 0).ss, v⟩ else f i) := fun _ => by
  obtain ⟨g2, o2, arr, hA, hb, hx⟩ := h hm
  simp only [Option.some.injEq, Addr.mk.injEq, and_true] at hA
  obtain ⟨rfl, rfl⟩ := hA
  refine ⟨g, o, _, rfl, hb.set_ (o + 2) _, fun i hi => ?_⟩
  have hf := Fix.set_ hb (o + 2) (.int .i64 v)
  have hlt : o + 2 < arr.size := by
    obtain ⟨A, c, h0, h1, h2, h3⟩ := hx 0 hm
    rcases Nat.lt_or_ge (o + 2) arr.size with q | q
    · exact q
    · simp only [Nat.zero_mul, Nat.add_zero] at h2
      rw [Array.getElem?_eq_none q] at h2; cases h2
  obtain ⟨A, c, h0, h1, h2, h3⟩ := (hx i hi).fix hf (show NotT 74 9 by unfold NotT; decide)
  rcases Nat.eq_zero_or_pos i with z | z
  · subst z
    show MeltL _ _ (if 0 = 0 then (⟨(f 0).id, (f 0).n, (f 0).ss, v⟩ : MeltV) else f 0)
    rw [if_pos rfl]
    refine ⟨A, c, ?_, ?_, ?_, h3⟩
    · show (arr.setIfInBounds (o + 2) _)[o + 0 * 3 + 0]? = _
      rw [Array.getElem?_setIfInBounds_ne (by omega)]; exact h0
    · show (arr.setIfInBounds (o + 2) _)[o + 0 * 3 + 1]? = _
      rw [Array.getElem?_setIfInBounds_ne (by omega)]; exact h1
    · show (arr.setIfInBounds (o + 2) _)[o + 0 * 3 + 2]? = _
      rw [show o + 0 * 3 + 2 = o + 2 by omega, Array.getElem?_setIfInBounds_self_of_lt hlt]
  · show MeltL _ _ (if i = 0 then (⟨(f 0).id, (f 0).n, (f 0).ss, v⟩ : MeltV) else f i)
    rw [if_neg (by omega)]
    refine ⟨A, c, ?_, ?_, ?_, h3⟩
    · show (arr.setIfInBounds (o + 2) _)[o + i * 3 + 0]? = _
      rw [Array.getElem?_setIfInBounds_ne (by omega)]; exact h0
    · show (arr.setIfInBounds (o + 2) _)[o + i * 3 + 1]? = _
      rw [Array.getElem?_setIfInBounds_ne (by omega)]; exact h1
    · show (arr.setIfInBounds (o + 2) _)[o + i * 3 + 2]? = _
      rw [Array.getElem?_setIfInBounds_ne (by omega)]; exact h2
theorem IngT.tail {w : World} {g o n : Nat} {s0 : Nat → ByteArray} {a1 a2 a3 a4 : Nat → Int} (h : IngT w (some ⟨g, o, none⟩) n s0 a1 a2 a3 a4) : IngT w (some ⟨g, o + 5, none⟩) (n - 1) (fun i => s0 (i + 1)) (fun i => a1 (i + 1)) (fun i => a2 (i + 1)) (fun i => a3 (i + 1)) (fun i => a4 (i + 1)) := fun hn => by
  obtain ⟨g2, o2, arr, hA, hb, hx⟩ := h (by omega)
  simp only [Option.some.injEq, Addr.mk.injEq, and_true] at hA
  obtain ⟨rfl, rfl⟩ := hA
  refine ⟨g, o + 5, arr, rfl, hb, fun i hi => ?_⟩
  have := hx (i + 1) (by omega)
  rw [show o + 5 + i * 5 = o + (i + 1) * 5 by omega]
  exact this
/-- a step that writes two blocks alone -/
structure Two (b G : Nat) (u v : World) : Prop where
  os : v.os = u.os
  tape : v.tape = u.tape
  output : v.output = u.output
  size : u.heap.size ≤ v.heap.size
  block : ∀ k, k ≠ b → k ≠ G → k < u.heap.size → v.heap[k]? = u.heap[k]?
theorem Only.two {b G : Nat} {u v : World} (h : Only b u v) : Two b G u v := ⟨h.os, h.tape, h.output, h.size, fun k hb _ hk => h.block k hb hk⟩
theorem Two.trans {b G : Nat} {u v w : World} (h : Two b G u v) (k : Two b G v w) : Two b G u w := ⟨k.os.trans h.os, k.tape.trans h.tape, k.output.trans h.output, Nat.le_trans h.size k.size, fun j hb hG hj => (k.block j hb hG (Nat.lt_of_lt_of_le hj h.size)).trans (h.block j hb hG hj)⟩
theorem Two.only {b G : Nat} {t u v : World} (h : Two b G u v) (k : Only b t u) (hG : t.heap.size ≤ G) : Only b t v := ⟨h.os.trans k.os, h.tape.trans k.tape, h.output.trans k.output, Nat.le_trans k.size h.size, fun j hb hj => (h.block j hb (by omega) (Nat.lt_of_lt_of_le hj k.size)).trans (k.block j hb hj)⟩
theorem Two.grow {b G : Nat} {u w w' : World} {r : Option Nat} (h : Two b G u w) (hg : w.grownBy w' r) (hr : ∀ k, r = some k → k = G ∨ u.heap.size ≤ k) : Two b G u w' :=
  ⟨hg.os.trans h.os, hg.tape.trans h.tape, hg.output.trans h.output, Nat.le_trans h.size hg.size, fun k hb hG hl => (hg.block k (Nat.lt_of_lt_of_le hl h.size) (fun e => by rcases hr k e.symm with z | z <;> omega)).trans (h.block k hb hG hl)⟩
theorem Two.fix {S : TypeId → Prop} {b G : Nat} {u v : World} {T T2 : TypeId} {ds ds2 : Array Value} (h : Two b G u v) (hb : Blk u b T ds) (hT : ¬ S T) (hG : Blk u G T2 ds2) (hT2 : ¬ S T2) : Fix S u v := fun g t cs hs hk =>
  (h.block g (fun e => by subst e; rw [hk.type hb] at hs; exact hT hs) (fun e => by subst e; rw [hk.type hG] at hs; exact hT2 hs) hk.lt).trans hk
/-- shares in a block of their own, as a row that append may write -/
theorem ShareOwnC.row2 {w : World} {n G c : Nat} {s : Nat → ByteArray} {m : Nat → Int} (h : ShareOwnC w n s m G c) : w.ownsRow G 41 2 (.slice (some ⟨G, 0, none⟩) n c) n (shW s m n) := by
  obtain ⟨arr, hb, hs, hn, hc, hx⟩ := h
  refine ⟨shW_len _ _ _, .inr ⟨G, c, arr, rfl, Nat.le_refl _, hb, hn, hc, hs, ?_⟩⟩
  apply List.ext_getElem?
  intro j
  rw [List.getElem?_take]
  by_cases hj : j < n * 2
  · rw [if_pos hj]
    obtain ⟨d0, d1⟩ := shW_at s m n (j / 2) (by omega)
    obtain ⟨e0, e1⟩ := hx (j / 2) (by omega)
    rw [Array.getElem?_toList]
    rcases (show j = j / 2 * 2 ∨ j = j / 2 * 2 + 1 by omega) with q | q
    · rw [q, d0, e0]
    · rw [q, d1, e1]
  · rw [if_neg hj, List.getElem?_eq_none (by rw [shW_len]; omega)]
def updS (s : Nat → ByteArray) (k : Nat) (x : ByteArray) : Nat → ByteArray := fun j => if j = k then x else s j
def updI (s : Nat → Int) (k : Nat) (x : Int) : Nat → Int := fun j => if j = k then x else s j
theorem shW_congr {s t : Nat → ByteArray} {m p : Nat → Int} : ∀ {k}, (∀ j, j < k → s j = t j ∧ m j = p j) → shW s m k = shW t p k
  | 0, _ => rfl
  | k + 1, h => by
    show shW s m k ++ _ = shW t p k ++ _
    rw [shW_congr (k := k) (fun j hj => h j (by omega)), (h k (by omega)).1, (h k (by omega)).2]
theorem shW_upd (s : Nat → ByteArray) (m : Nat → Int) (k : Nat) (x : ByteArray) (v : Int) : shW s m k ++ [.string x, .int .i64 v] = shW (updS s k x) (updI m k v) (k + 1) := by
  show _ = shW (updS s k x) (updI m k v) k ++ [.string (updS s k x k), .int .i64 (updI m k v k)]
  rw [show updS s k x k = x from if_pos rfl, show updI m k v k = v from if_pos rfl]
  congr 1
  exact shW_congr fun j hj => ⟨(if_neg (by omega)).symm, (if_neg (by omega)).symm⟩
theorem updS_all {s : Nat → ByteArray} {k : Nat} {x : ByteArray} {C : ByteArray → Prop} (h : ∀ j, j < k → C (s j)) (hx : C x) : ∀ j, j < k + 1 → C (updS s k x j) := fun j hj => by
  unfold updS
  split
  · exact hx
  · exact h j (by omega)
theorem updI_all {s : Nat → Int} {k : Nat} {x : Int} {C : Int → Prop} (h : ∀ j, j < k → C (s j)) (hx : C x) : ∀ j, j < k + 1 → C (updI s k x j) := fun j hj => by
  unfold updI
  split
  · exact hx
  · exact h j (by omega)
end Go.Proofs.YticnpibkpfpojaaGreatDoor

/- Drawn ingots and melts: what the drawing function leaves, for every source. -/
namespace Go.Proofs.YticnpibkpfpojaaGreatDoor
set_option linter.unusedVariables false
open Go.RowKit

theorem ingD_sz {w : World} {A : Option Addr} {n c : Nat} {s0 : Nat → ByteArray} {a1 a2 a3 a4 : Nat → Int} (h : IngD w A n c s0 a1 a2 a3 a4) : ∀ i, i < n → (s0 i).size ≤ maxLen := fun i hi => by
  rw [(h.2.2.2 i hi).1, letter_size]; unfold maxLen; omega
set_option maxRecDepth 20000 in
set_option maxHeartbeats 4000000 in
theorem l14DrawOk_calls (b m : Nat) (w : World) (h : Src w b m) (hm : m ≤ 1000000) :
    Calls Tryz.prog 73 #[.pointer (some ⟨b, 0, none⟩)] w fun e w' => ∃ A n c s0 a1 a2 a3 a4 B q d g, e = .returned (.tuple #[.slice A n c, .slice B q d]) ∧ IngD w' A n c s0 a1 a2 a3 a4 ∧ MeltsD w' B q d g ∧ (0 < q → Loc w.heap.size B) ∧ Src w' b (m + 300) ∧ Only b w w' := by
  have hlt := h.lt
  go_enter Tryz.func73, Tryz.ntmps73
  go_wp2_with fail
  go_at_call 97
  refine (l13Draw_calls b m _ h (by omega)).mono ?_
  rintro e w1 ⟨A, n, c, s0, a1, a2, a3, a4, rfl, hD, hs1, ho1⟩
  have HD1 := Lib.hid hD
  have O1 := Lib.hid ho1
  have hz1 := ho1.size
  clear hD ho1 h
  go_wp2_with fail
  go_at_call 40
  refine (pick_calls _ _ _ _ (hs1.alloc _) (by omega) (by omega)).mono ?_
  rintro e w2 ⟨p, ⟨p0, p1⟩, rfl, hs2, ho2⟩
  obtain ⟨k0, rfl⟩ := Int.eq_ofNat_of_zero_le p0
  have hk0 : k0 ≤ 4 := by omega
  have S2 := Lib.hid hs2
  have O2 := Lib.hid ((O1.out.alloc _).trans ho2)
  have HD2 := Lib.hid ((HD1.out.fix (S := fun _ => True) (Fix.alloc _) trivial).fix ((hs1.alloc _).fix ho2) (by unfold NotT; decide))
  clear hs1 hs2 ho2 O1 HD1 p0 p1
  go_wp2_with fail
  go_loopw [5, 6] (fun v i wr => ∃ (k q d : Nat) (B : Option Addr) (g : Nat → MeltV), k ≤ k0 ∧ i = .int .i64 k ∧ v = .slice B q d ∧ Hid (0 < q → Loc w.heap.size B) ∧ Hid (MeltsD wr B q d g) ∧ Hid (IngD wr A n c s0 a1 a2 a3 a4) ∧ Hid (Src wr b (m + 102 + 30 * (4 - k))) ∧ Hid (Only b w wr)) (fun _ i _ => (intOf i).toNat)
  case atStart => exact ⟨k0, 0, 0, _, fun _ => ⟨⟨#[]⟩, 0, fun _ => ⟨#[]⟩, 0⟩, by omega, rfl, rfl, Lib.hid (fun h => by omega), Lib.hid ⟨by omega, by omega, fun h => by omega, fun j hj => by omega⟩, HD2, Lib.hid (S2.out.mono (by omega)), O2⟩
  case round =>
    clear S2 O2 HD2
    obtain ⟨k, q, d, B, g, hk, rfl, rfl, hloc, hM, hD, hs, ho⟩ := hrel
    by_cases hk1 : 0 < k
    · obtain ⟨j, rfl⟩ : ∃ j, k = j + 1 := ⟨k - 1, by omega⟩
      go_wp2_with fail
      go_at_call 99
      refine (l14DrawOne_calls b _ A n c s0 a1 a2 a3 a4 wr hs.out (by omega) hD.out).mono ?_
      rintro e w3 ⟨s, ma, kk, ss, C, e2, rfl, hfm, hst, hs3, ho3⟩
      have FX := Lib.hid (hs.out.fix ho3)
      have D3 := Lib.hid (hD.out.fix FX.out (by unfold NotT; decide))
      have M3 := Lib.hid (hM.out.fix FX.out (by unfold NotT; decide) (by unfold NotT; decide))
      have O3 := Lib.hid (ho.out.trans ho3)
      have S3 := Lib.hid hs3
      have hq := hM.out.2.1
      have hn7 := hD.out.2.1
      have HA := Lib.hid (AddMelt_calls A n c s0 a1 a2 a3 a4 B q d g ⟨s, kk, ss, ma⟩ C e2 w3 D3.out.2.2.1.row (ingD_sz D3.out) (by omega) M3.out.2.2.1.row (by omega) M3.out.2.2.2 hst.row hfm)
      clear FX hD hM ho ho3 hs hs3 hst hfm
      go_wp2_with fail
      go_at_call 98
      refine HA.out.mono ?_
      rintro e w4 (⟨o, ho0, rfl, hb⟩ | ⟨hm12, A9, c9, F9, rfl, hc9, hT9, hF9, hb, hlc⟩)
      · have D4 := Lib.hid (D3.out.fix (S := fun _ => True) (Fix.below hb) trivial)
        have M4 := Lib.hid (M3.out.fix (S := fun _ => True) (Fix.below hb) trivial trivial)
        have O4 := Lib.hid (O3.out.trans (only_of hb))
        have S4 := Lib.hid (S3.out.below hb)
        clear D3 M3 O3 S3 hb HA
        go_wp2
        go_roundw
        case rel => exact ⟨j, q, d, B, g, by omega, by go_num, rfl, hloc, M4, D4, Lib.hid (S4.out.mono (by omega)), O4⟩
        case measure => simp [intOf]
      · have D4 := Lib.hid (D3.out.fix (S := fun _ => True) (Fix.below hb) trivial)
        have O4 := Lib.hid (O3.out.trans (only_of hb))
        have S4 := Lib.hid (S3.out.below hb)
        have HLC := Lib.hid (show 0 < q + 1 → Loc w.heap.size A9 from fun _ => hlc.lower O3.out.size)
        have M4 := Lib.hid (show MeltsD w4 A9 (q + 1) c9 F9 from ⟨hc9, by omega, hT9, hF9⟩)
        clear D3 M3 O3 S3 hb HA hT9 hF9 hlc
        go_wp2
        go_roundw
        case rel => exact ⟨j, q + 1, c9, A9, F9, by omega, by go_num, rfl, HLC, M4, D4, Lib.hid (S4.out.mono (by omega)), O4⟩
        case measure => simp [intOf]
    · obtain rfl : k = 0 := by omega
      go_wp2
      refine bodyPost_ret (v := .tuple #[.slice A n c, .slice B q d]) (by simp [results, Tryz.results73, go_sem]) rfl ?_
      exact ⟨A, n, c, s0, a1, a2, a3, a4, B, q, d, g, rfl, hD.out, hM.out, hloc.out, hs.out.mono (by omega), ho.out⟩
theorem smin_calls (a b : Int) (w : World) :
    Calls Tryz.prog 45 #[.int .i64 a, .int .i64 b] w fun e w' => (∃ v : Int, v ≤ b ∧ (v = a ∨ v = b) ∧ e = .returned (.int .i64 v)) ∧ w = w' := by
  by_cases h : a < b
  · go_enter Tryz.func45, Tryz.ntmps45
    go_wp2
    go_ret
    exact ⟨⟨a, by omega, .inl rfl, rfl⟩, rfl⟩
  · go_enter Tryz.func45, Tryz.ntmps45
    go_wp2
    go_ret
    exact ⟨⟨b, by omega, .inr rfl, rfl⟩, rfl⟩
end Go.Proofs.YticnpibkpfpojaaGreatDoor

/- A drawn bell: what the drawing function leaves, for every source. -/
namespace Go.Proofs.YticnpibkpfpojaaGreatDoor
set_option linter.unusedVariables false
open Go.RowKit

/-- what a loop knows of its row, its bell and its source -/
def TRp (W : World) (base X cnt b M : Nat) (v : Value) (xs : List Value) (cs : Array Value) : Prop := W.ownsRow base 41 2 v cnt xs ∧ Blk W X 28 cs ∧ Src W b M
theorem TRp.al {W a : World} {base X cnt b M : Nat} {v : Value} {xs : List Value} {cs : Array Value} {o : Obj} {R : Prop} (h : TRp W base X cnt b M v xs cs) (k : Only b a (W.alloc o) ∧ R) : TRp (W.alloc o) base X cnt b M v xs cs := ⟨h.1.alloc _, h.2.1.alloc _, h.2.2.alloc _⟩
theorem TRp.alD {W a : World} {base X cnt b M : Nat} {v : Value} {xs : List Value} {cs : Array Value} {o : Obj} {R : Prop} (h : TRp W base X cnt b M v xs cs) (k : Only b a (W.alloc o).drew ∧ R) : TRp (W.alloc o) base X cnt b M v xs cs := ⟨h.1.alloc _, h.2.1.alloc _, h.2.2.alloc _⟩
theorem TRp.alDD {W a : World} {base X cnt b M : Nat} {v : Value} {xs : List Value} {cs : Array Value} {o : Obj} {R : Prop} (h : TRp W base X cnt b M v xs cs) (k : Only b a (W.alloc o).drew.drew ∧ R) : TRp (W.alloc o) base X cnt b M v xs cs := ⟨h.1.alloc _, h.2.1.alloc _, h.2.2.alloc _⟩
theorem Only.undrew {b : Nat} {u v : World} (h : Only b u.drew v) : Only b u v := ⟨h.os, h.tape, h.output, h.size, h.block⟩
theorem gb_undrew {u v : World} {r : Option Nat} (h : u.drew.grownBy v r) : u.grownBy v r := ⟨h.os, h.tape, h.output, h.size, h.block⟩
theorem TRp.only {W V : World} {base X cnt b M M2 : Nat} {v : Value} {xs : List Value} {cs : Array Value} (h : TRp W base X cnt b M v xs cs) (k : Only b W V) (hX : X ≠ b) (hb : b < base) (hs : Src V b M2) : TRp V base X cnt b M2 v xs cs := ⟨own_only h.1 k hb, k.blk hX h.2.1, hs⟩
theorem ShareOwnC.setM {w : World} {n G c k : Nat} {ss : Nat → ByteArray} {ms : Nat → Int} (h : ShareOwnC w n ss ms G c) (hk : k < n) (v : Int) : ShareOwnC (w.setCell ⟨G, k * 2 + 1, none⟩ (.int .i64 v)) n ss (fun j => if j = k then v else ms j) G c := by
  obtain ⟨arr, hb, hs, hn, hc, hx⟩ := h
  refine ⟨_, hb.set_ (k * 2 + 1) _, by simpa using hs, hn, hc, fun i hi => ?_⟩
  obtain ⟨h0, h1⟩ := hx i hi
  show (arr.setIfInBounds (k * 2 + 1) _)[i * 2]? = _ ∧ (arr.setIfInBounds (k * 2 + 1) _)[i * 2 + 1]? = some (.int .i64 (if i = k then v else ms i))
  rw [Array.getElem?_setIfInBounds_ne (by omega)]
  refine ⟨h0, ?_⟩
  by_cases hik : i = k
  · subst hik
    rw [Array.getElem?_setIfInBounds_self_of_lt (by omega), if_pos rfl]
  · rw [Array.getElem?_setIfInBounds_ne (by omega), if_neg hik]
    exact h1
theorem ShareOwnC.only {w w' : World} {n G c b : Nat} {ss : Nat → ByteArray} {ms : Nat → Int} (h : ShareOwnC w n ss ms G c) (ho : Only b w w') (hb : G ≠ b) : ShareOwnC w' n ss ms G c := by
  obtain ⟨arr, hk, r⟩ := h
  exact ⟨arr, ho.blk hb hk, r⟩
theorem ShareOwnC.far {w : World} {n G c g o : Nat} {ss : Nat → ByteArray} {ms : Nat → Int} {u : Value} (h : ShareOwnC w n ss ms G c) (hb : G ≠ g) : ShareOwnC (w.setCell ⟨g, o, none⟩ u) n ss ms G c := by
  obtain ⟨arr, hk, r⟩ := h
  exact ⟨arr, hk.far (p := ⟨g, o, none⟩) hb _, r⟩
theorem shareRow_own {w : World} {base n : Nat} {A : Option Addr} {cap : Nat} {ss : Nat → ByteArray} {ms : Nat → Int} (h : w.ownsRow base 41 2 (.slice A n cap) n (shW ss ms n)) (hn : 0 < n) : ∃ G, A = some ⟨G, 0, none⟩ ∧ base ≤ G ∧ ShareOwnC w n ss ms G cap := by
  obtain ⟨G, c, e, h1, -, h2⟩ := shareOwn_of h hn
  simp only [Value.slice.injEq, true_and] at e
  obtain ⟨rfl, rfl⟩ := e
  exact ⟨G, rfl, h1, h2⟩
theorem min_callsD (a b : Int) (w : World) :
    Calls Tryz.prog 45 #[.int .i64 a, .int .i64 b] w fun e w' => e = .returned (.int .i64 (min a b)) ∧ w = w' := by
  by_cases h : a < b
  · rw [show min a b = a by omega]
    go_enter Tryz.func45, Tryz.ntmps45
    go_wp2
    go_ret
    exact ⟨rfl, rfl⟩
  · rw [show min a b = b by omega]
    go_enter Tryz.func45, Tryz.ntmps45
    go_wp2
    go_ret
    exact ⟨rfl, rfl⟩
end Go.Proofs.YticnpibkpfpojaaGreatDoor
