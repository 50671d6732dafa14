/- A text cut at each of a byte, as the reference cuts it. -/
import Derived.Test.YtflhkldfhndafaaDoorReadP
import Derived.Lib.PathFns
namespace Go.Proofs.YtflhkldfhndafaaDoor
set_option linter.unusedVariables false
open Go.RowKit
theorem bl_extract (s : ByteArray) (a b : Nat) : bl (s.extract a b) = ((bl s).drop a).take (b - a) := by
  rw [Lib.extract_eq]
theorem bl_get {s : ByteArray} {k : Nat} (h : k < s.size) : (bl s)[k]? = some s[k] := by
  rw [List.getElem?_eq_getElem (by rw [bl_len]; exact h)]
  rfl
theorem bt_hit {s : ByteArray} {k c : Nat} (hk : k < s.size) (hc : c < 256) : bt s k = (c : Int) ↔ (bl s)[k]? = some (UInt8.ofNat c) := by
  rw [bl_get hk, ← get_bt s k hk]
  constructor
  · intro h
    congr 1
    apply UInt8.toNat_inj.1
    rw [UInt8.toNat_ofNat']
    omega
  · intro h
    have := Option.some.inj h
    rw [this, UInt8.toNat_ofNat']
    omega
def SpInv (c : UInt8) (l : List UInt8) (acc : List (List UInt8)) (f k : Nat) : Prop := f ≤ k ∧ k ≤ l.length ∧ splC c l = acc ++ splC c (l.drop f) ∧ c ∉ (l.drop f).take (k - f)
theorem sp_start (c : UInt8) (l : List UInt8) : SpInv c l [] 0 0 := ⟨Nat.le_refl _, Nat.zero_le _, by simp, by simp⟩
theorem sp_hit {c : UInt8} {l : List UInt8} {acc : List (List UInt8)} {f k : Nat} (h : SpInv c l acc f k) (hk : l[k]? = some c) : SpInv c l (acc ++ [(l.drop f).take (k - f)]) (k + 1) (k + 1) := by
  obtain ⟨h1, h2, h3, h4⟩ := h
  have hlt := (List.getElem?_eq_some_iff.1 hk).1
  refine ⟨Nat.le_refl _, hlt, ?_, by simp⟩
  have e : l.drop f = (l.drop f).take (k - f) ++ c :: l.drop (k + 1) := by
    conv => lhs; rw [← List.take_append_drop (k - f) (l.drop f)]
    rw [List.drop_drop, show f + (k - f) = k by omega, List.drop_eq_getElem_cons hlt]
    have := (List.getElem?_eq_some_iff.1 hk).2
    rw [this]
  rw [h3]
  conv => lhs; rw [e, splC_app h4]
  simp
theorem sp_miss {c b : UInt8} {l : List UInt8} {acc : List (List UInt8)} {f k : Nat} (h : SpInv c l acc f k) (hk : l[k]? = some b) (hb : b ≠ c) : SpInv c l acc f (k + 1) := by
  obtain ⟨h1, h2, h3, h4⟩ := h
  have hlt := (List.getElem?_eq_some_iff.1 hk).1
  refine ⟨by omega, hlt, h3, ?_⟩
  have e : (l.drop f)[k - f]? = some b := by rw [List.getElem?_drop, show f + (k - f) = k by omega, hk]
  rw [show k + 1 - f = (k - f) + 1 by omega, List.take_add_one, e]
  intro q
  rcases List.mem_append.1 q with q | q
  · exact h4 q
  · have h := q
    simp at h
    exact hb h.symm
theorem sp_end {c : UInt8} {l : List UInt8} {acc : List (List UInt8)} {f : Nat} (h : SpInv c l acc f l.length) : splC c l = acc ++ [l.drop f] := by
  obtain ⟨h1, h2, h3, h4⟩ := h
  rw [h3, List.take_of_length_le (by simp)] at *
  rw [splC_none h4]
theorem sp_len {c : UInt8} {l : List UInt8} : (splC c l).length ≤ l.length + 1 := by
  induction hn : l.length using Nat.strongRecOn generalizing l with
  | ind n ih =>
    rcases cut_cases c l with h | ⟨a, r, rfl, h⟩
    · rw [splC_none h]; simp
    · have e := ih r.length (by rw [← hn]; simp; omega) (l := r) rfl
      rw [splC_app h]
      simp at hn ⊢
      omega
theorem sp_size {c : UInt8} {l : List UInt8} : ∀ x ∈ splC c l, x.length ≤ l.length := by
  induction hn : l.length using Nat.strongRecOn generalizing l with
  | ind n ih =>
    rcases cut_cases c l with h | ⟨a, r, rfl, h⟩
    · rw [splC_none h]
      intro x hx
      obtain rfl : x = l := by simpa using hx
      omega
    · have e := ih r.length (by rw [← hn]; simp; omega) (l := r) rfl
      rw [splC_app h]
      intro x hx
      simp at hn
      rcases List.mem_cons.1 hx with rfl | hx
      · omega
      · have := e x hx
        omega
/-- texts as a block's cells -/
def strV (ls : List (List UInt8)) : List Value := ls.map fun l => .string (tx l)
theorem strV_snoc (ls : List (List UInt8)) (x : List UInt8) : strV ls ++ [.string (tx x)] = strV (ls ++ [x]) := by simp [strV]
theorem strV_ext (ls : List (List UInt8)) (s : ByteArray) (a b : Nat) : strV ls ++ [.string (s.extract a b)] = strV (ls ++ [((bl s).drop a).take (b - a)]) := by
  rw [← strV_snoc, ← bl_extract, tx_bl]
/-- texts at a block -/
def TxAt (w : World) (g : Nat) (ls : List (List UInt8)) : Prop := g < w.heap.size ∧ ∀ (i : Nat) (x : List UInt8), ls[i]? = some x → w.cell? ⟨g, i, none⟩ = some (.string (tx x))
theorem TxAt.keep {w w' : World} {g n : Nat} {ls : List (List UInt8)} (h : TxAt w g ls) (hb : Below n w w') (hn : g < n) (hs : w.heap.size ≤ w'.heap.size) : TxAt w' g ls :=
  ⟨by have := h.1; omega, fun i x hx => (hb.cell (p := ⟨g, i, none⟩) hn).trans (h.2 i x hx)⟩
set_option maxRecDepth 20000 in
set_option maxHeartbeats 2000000 in
theorem split_calls (s : ByteArray) (c : Nat) (w : World) (hs : s.size ≤ 1048576) (hc : c < 256) :
    Calls Tryd.prog 25 #[.string s, .int .u8 (c : Int)] w fun e w' => ∃ g cap, e = .returned (.slice (some ⟨g, 0, none⟩) (splC (UInt8.ofNat c) (bl s)).length cap) ∧ w.heap.size ≤ g ∧ TxAt w' g (splC (UInt8.ofNat c) (bl s)) ∧ Below w.heap.size w w' := by
  obtain ⟨i0, hi, hz0, hz1, hz2⟩ := info_parts str_info
  have hbt := get_bt s
  have hlen := bl_len s
  have HS := Lib.hid (World.ownsRow_lit (base := w.heap.size) (e := 9) (size := 1) w #[] 0 (Nat.le_refl _) (by unfold maxLen; omega) rfl)
  generalize hC : UInt8.ofNat c = C
  have HC := Lib.hid hC
  clear hC
  go_enter Tryd.func25, Tryd.ntmps25
  go_wp2
  go_loopw [5, 6, 7] (fun x f i wr => ∃ (acc : List (List UInt8)) (a k : Nat), k ≤ s.size ∧ a ≤ k ∧ acc.length ≤ k ∧ f = .int .i64 (a : Int) ∧ i = .int .i64 (k : Int) ∧ Hid (SpInv C (bl s) acc a k) ∧ Hid (wr.ownsRow w.heap.size 9 1 x acc.length (strV acc)) ∧ Below w.heap.size w wr) (fun _ _ i _ => s.size - (intOf i).toNat)
  case atStart => exact ⟨[], 0, 0, by omega, by omega, by simp, rfl, rfl, Lib.hid (sp_start _ _), HS, (Below.refl _ _).alloc (Nat.le_refl _) _⟩
  case round =>
    obtain ⟨acc, a, k, hk, ha, hl, rfl, rfl, hinv, hown, hbr⟩ := hrel
    have hbs := hbr.size
    by_cases hlt : k < s.size
    · by_cases q : bt s k = (c : Int)
      · have hinv2 := Lib.hid (sp_hit hinv.out (HC.out ▸ (bt_hit hlt hc).1 q))
        go_wp2_with (at_builtin; refine wpList_append_own _ rfl _ _ 50 rfl w.heap.size 9 i0 (.string ⟨#[]⟩) 1 16 Tryd.underlying50 hi hz0 hz1 hz2 rfl (by decide) _ _ _ rfl (hown.out.alloc _) ⟨wr.heap.size, 0, none⟩ 1 1 [.string (s.extract a k)] rfl rfl (fun j u hj => by match j, hj with | 0, hj => simp at hj; subst hj; simp [Addr.add]) (fun u hu => by simp at hu; subst hu; rfl) (by unfold maxLen; omega) (by omega) (by simp; omega) ?_; intro v' w4 hown' hgrow _; have hb4 := below_append hbr hbs hown.out hgrow; rw [strV_ext] at hown'; have HOWN := Lib.hid hown'; clear hown' hgrow)
        go_roundw
        case rel => exact ⟨_, k + 1, k + 1, by omega, by omega, by simp; omega, by go_num, by go_num, hinv2, Lib.hid (by simpa using HOWN.out), hb4⟩
        case measure => simp [intOf]; omega
      · have hinv2 := Lib.hid (sp_miss hinv.out (bl_get hlt) (fun e => q ((bt_hit hlt hc).2 (by rw [HC.out, ← e]; exact bl_get hlt))))
        have q2 : (bt s k == (c : Int)) = false := by simpa using q
        go_wp2
        go_roundw
        case rel => exact ⟨acc, a, k + 1, by omega, by omega, by omega, rfl, by go_num, hinv2, hown, hbr⟩
        case measure => simp [intOf]; omega
    · obtain rfl : k = s.size := by omega
      have HE := Lib.hid (sp_end (by rw [hlen]; exact hinv.out))
      go_wp2_with (at_builtin; refine wpList_append_own _ rfl _ _ 50 rfl w.heap.size 9 i0 (.string ⟨#[]⟩) 1 16 Tryd.underlying50 hi hz0 hz1 hz2 rfl (by decide) _ _ _ rfl (hown.out.alloc _) ⟨wr.heap.size, 0, none⟩ 1 1 [.string (s.extract a s.size)] rfl rfl (fun j u hj => by match j, hj with | 0, hj => simp at hj; subst hj; simp [Addr.add]) (fun u hu => by simp at hu; subst hu; rfl) (by unfold maxLen; omega) (by omega) (by simp; omega) ?_; intro v' w4 hown' hgrow _; have hb4 := below_append hbr hbs hown.out hgrow; rw [strV_ext] at hown'; have HOWN := Lib.hid hown'; clear hown' hgrow)
      go_ret
      have h := HOWN.out
      have e : ((bl s).drop a).take (s.size - a) = (bl s).drop a := List.take_of_length_le (by rw [List.length_drop, hlen]; omega)
      rw [e, ← HE.out] at h
      have e2 : acc.length + 1 = (splC C (bl s)).length := by rw [HE.out]; simp
      rw [e2] at h
      obtain ⟨g, cap, cur, rfl, hg0, hblk, -, -, -, hcur⟩ := own_blk h (by omega)
      refine ⟨g, cap, rfl, hg0, ⟨hblk.lt, fun i x hx => ?_⟩, hb4⟩
      have hi2 := (List.getElem?_eq_some_iff.1 hx).1
      rw [hblk.cell, hcur i (by omega)]
      simp [strV, hx]
end Go.Proofs.YtflhkldfhndafaaDoor
