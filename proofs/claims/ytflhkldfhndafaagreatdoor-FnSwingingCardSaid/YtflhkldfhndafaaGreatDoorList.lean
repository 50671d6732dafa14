/- Lists of numbers as texts, as the program and as the reference write them. -/
import Derived.Test.YtflhkldfhndafaaGreatDoorText
import Derived.Test.YtflhkldfhndafaaGreatDoorPred
import Derived.Test.YtflhkldfhndafaaGreatDoorIntRow
import Derived.Lib.Join
import Derived.Deep.RegionHeld3
import Derived.Handy
namespace Go.Proofs.YtflhkldfhndafaaGreatDoor
set_option linter.unusedVariables false
open Go.RowKit


theorem ba_eq {a b : ByteArray} (h : a.data.toList = b.data.toList) : a = b := by
  cases a; cases b
  congr 1
  exact Array.toList_inj.1 h
theorem ba_size (l : List UInt8) : (⟨l.toArray⟩ : ByteArray).size = l.length := by
  show l.toArray.size = _
  simp
theorem ba_size1 : (⟨#[44]⟩ : ByteArray).size = 1 := rfl
def listL (p : Nat → Int) (n : Nat) : List (List UInt8) := (List.range n).map fun i => Lib.itoa (p i)
def joinT (p : Nat → Int) (n : Nat) : ByteArray := ⟨(Lib.join (listL p n) [44]).toArray⟩
def valB (x : Int) : Bool := inB x (-1000000000000) 1000000000000
def listBad (p : Nat → Int) (n : Nat) : Bool := decide (64 < n) || anyB (fun i => !valB (p i)) n
def listText (p : Nat → Int) (n : Nat) : ByteArray := if listBad p n = true then ⟨#[]⟩ else if n = 0 then ⟨#[45]⟩ else joinT p n
theorem join_snoc {l : List (List UInt8)} (h : l ≠ []) (x sep : List UInt8) : Lib.join (l ++ [x]) sep = Lib.join l sep ++ (sep ++ x) := by
  cases l with
  | nil => exact absurd rfl h
  | cons y r => rw [List.cons_append, Lib.join_cons, Lib.join_cons]; simp [Lib.joinTail]
theorem listL_succ (p : Nat → Int) (k : Nat) : listL p (k + 1) = listL p k ++ [Lib.itoa (p k)] := by simp [listL, List.range_succ]
theorem listL_ne (p : Nat → Int) {k : Nat} (h : 0 < k) : listL p k ≠ [] := by
  intro e
  have := congrArg List.length e
  simp [listL] at this
  omega
theorem joinT_succ (p : Nat → Int) {k : Nat} (h : 0 < k) : joinT p k ++ ⟨#[44]⟩ ++ ⟨(Lib.itoa (p k)).toArray⟩ = joinT p (k + 1) := by
  apply ba_eq
  simp [joinT, listL_succ, join_snoc (listL_ne p h)]
theorem joinT_one (p : Nat → Int) : (⟨#[]⟩ : ByteArray) ++ ⟨(Lib.itoa (p 0)).toArray⟩ = joinT p 1 := by
  apply ba_eq
  simp [joinT, listL, Lib.join_one]
theorem joinT_zero (p : Nat → Int) : joinT p 0 = ⟨#[]⟩ := rfl
theorem join_len (p : Nat → Int) (n : Nat) (h : ∀ i, i < n → -9223372036854775808 ≤ p i ∧ p i ≤ 9223372036854775807) : (Lib.join (listL p n) [44]).length ≤ 22 * n := by
  induction n with
  | zero => exact Nat.le_refl _
  | succ m ih =>
    have h1 := Lib.itoa_length_le (p m) (h m (by omega)).1 (h m (by omega)).2
    have h2 := ih fun i hi => h i (by omega)
    rw [listL_succ]
    rcases Nat.eq_zero_or_pos m with rfl | hm
    · simp [listL, Lib.join_one]; omega
    · rw [join_snoc (listL_ne p hm)]
      simp only [List.length_append, List.length_cons, List.length_nil]
      omega
theorem joinT_size (p : Nat → Int) (n : Nat) : (joinT p n).size = (Lib.join (listL p n) [44]).length := by
  show (Lib.join (listL p n) [44]).toArray.size = _
  simp
theorem isValue_calls (n : Int) (w : World) :
    Calls Tryz.prog 38 #[.int .i64 n] w fun e w' => e = .returned (.bool (valB n)) ∧ w = w' := by
  go_enter Tryz.func38, Tryz.ntmps38
  go_wp2_with (go_at_call 25; refine (within_calls _ _ _ _).mono ?_; rintro e w1 ⟨rfl, rfl⟩)
  go_ret
  exact ⟨rfl, rfl⟩
set_option maxHeartbeats 400000 in
theorem listBad1_calls (x : Int) (w : World) :
    Calls Tryz.prog 37 #[.int .i64 x] w fun e w' => e = .returned (.bool (!valB x)) ∧ Below w.heap.size w w' := by
  go_enter Tryz.func37, Tryz.ntmps37
  go_wp2_with (go_at_call 38; refine (isValue_calls _ _).mono ?_; rintro e w1 ⟨rfl, rfl⟩)
  go_ret
  exact ⟨rfl, Below.refl _ _⟩
set_option maxHeartbeats 1000000 in
theorem anyVal_index (A : Option Addr) (n c : Nat) (q : Nat → Int) (p : Nat → Bool) (w : World) (h : IntRow w A n q) (hn : n ≤ 1048576) (hp : ∀ k W, k < n → Below w.heap.size w W → Calls Tryz.prog 37 #[.int .i64 (q k)] W fun e w' => e = .returned (.bool (p k)) ∧ Below W.heap.size W w') :
    Calls Tryz.prog 49 #[.slice A n c, .func (.func 37) #[] #[]] w fun e w' => (∃ x : Int, decide (0 ≤ x) = anyB p n ∧ e = .returned (.int .i64 x)) ∧ Below w.heap.size w w' := by
  have H := Lib.hid h
  have HP := Lib.hid hp
  generalize hres : anyB p n = R
  have HRES := Lib.hid hres
  clear h hp hres
  go_enter Tryz.func49, Tryz.ntmps49
  go_wp2
  go_loopw [8] (fun i wr => ∃ k : Nat, k ≤ n ∧ i = .int .i64 k ∧ Hid (allB (fun i => !p i) k = true) ∧ Below w.heap.size w wr) (fun i _ => n - (intOf i).toNat)
  case atStart => exact ⟨0, by omega, rfl, rfl, Below.refl _ _⟩
  case round =>
    obtain ⟨k, hk, rfl, hgood, hbr⟩ := hrel
    by_cases hlt : k < n
    · obtain ⟨b, o, rfl, hrow⟩ := H.out (by omega)
      have c0 : wr.cell? ⟨b, o + k, none⟩ = some (.int .i64 (q k)) := (hbr.cell (p := ⟨b, o + k, none⟩) (cell_lt (hrow k hlt))).trans (hrow k hlt)
      have HR := Lib.hid hrow
      clear hrow
      have HC := Lib.hid (HP.out k wr hlt hbr)
      cases q1 : p k
      · rw [q1] at HC
        go_wp2_with (go_at_call 37; with_reducible refine HC.out.mono ?_; rintro e w1 ⟨rfl, hb⟩; have hbr2 := hbr.trans (hb.mono hbr.size); clear hb)
        go_roundw
        case rel => exact ⟨k + 1, by omega, by go_num, Lib.hid (by rw [show allB (fun i => !p i) (k + 1) = (allB (fun i => !p i) k && !p k) from rfl, hgood.out, q1]; rfl), hbr2⟩
        case measure => simp [intOf]; omega
      · rw [q1] at HC
        go_wp2_with (go_at_call 37; with_reducible refine HC.out.mono ?_; rintro e w1 ⟨rfl, hb⟩; have hbr2 := hbr.trans (hb.mono hbr.size); clear hb)
        go_ret
        exact ⟨⟨k, by rw [← HRES.out, anyB_hit hlt q1]; exact decide_eq_true (by omega), rfl⟩, hbr2⟩
    · obtain rfl : k = n := by omega
      go_wp2
      go_ret
      exact ⟨⟨-1, by rw [← HRES.out]; simp [anyB, hgood.out], rfl⟩, hbr⟩
set_option maxHeartbeats 400000 in
theorem anyVal (A : Option Addr) (n c : Nat) (q : Nat → Int) (p : Nat → Bool) (w : World) (h : IntRow w A n q) (hn : n ≤ 1048576) (hp : ∀ k W, k < n → Below w.heap.size w W → Calls Tryz.prog 37 #[.int .i64 (q k)] W fun e w' => e = .returned (.bool (p k)) ∧ Below W.heap.size W w') :
    Calls Tryz.prog 36 #[.slice A n c, .func (.func 37) #[] #[]] w fun e w' => e = .returned (.bool (anyB p n)) ∧ Below w.heap.size w w' := by
  go_enter Tryz.func36, Tryz.ntmps36
  go_wp2_with (go_at_call 49; refine (anyVal_index A n c q p w h hn hp).mono ?_; rintro e w1 ⟨⟨x, hx, rfl⟩, hb⟩)
  go_ret
  exact ⟨by first | rfl | exact ret_bool hx, hb⟩
def strL (p : Nat → Int) (k : Nat) : List Value := (List.range k).map fun i => .string ⟨(Lib.itoa (p i)).toArray⟩
theorem strL_succ (p : Nat → Int) (k : Nat) : strL p k ++ [.string ⟨(Lib.itoa (p k)).toArray⟩] = strL p (k + 1) := by simp [strL, List.range_succ]
def baL (p : Nat → Int) (k : Nat) : List ByteArray := (List.range k).map fun i => ⟨(Lib.itoa (p i)).toArray⟩
theorem baL_len (p : Nat → Int) (k : Nat) : (baL p k).length = k := by simp [baL]
theorem baL_map (p : Nat → Int) (k : Nat) : (baL p k).map (·.data.toList) = listL p k := by simp [baL, listL]
theorem str_info : (Tryz.prog.info? 9).map (fun i => (i.zero, i.size, i.bytes)) = some (some (.string ⟨#[]⟩), 1, 16) := by kernel_rfl
set_option maxRecDepth 20000 in
set_option maxHeartbeats 4000000 in
theorem ListText_calls (A : Option Addr) (n c : Nat) (p : Nat → Int) (w : World) (h : IntRow w A n p) (hn : n ≤ 1048576) (hT : HasPow w) :
    Calls Tryz.prog 23 #[.slice A n c] w fun e w' => e = .returned (.string (listText p n)) ∧ Below w.heap.size w w' := by
  obtain ⟨i0, hi, hz0, hz1, hz2⟩ := info_parts str_info
  have H := Lib.hid h
  have HT := Lib.hid hT
  clear h hT
  by_cases q0 : 64 < n
  · rw [show listText p n = ⟨#[]⟩ by simp [listText, listBad, q0]]
    have q1 : (64 : Int) < n := by omega
    go_enter Tryz.func23, Tryz.ntmps23
    go_wp2
    go_ret
    exact ⟨rfl, Below.refl _ _⟩
  · have q1 : ¬ (64 : Int) < n := by omega
    have HC := Lib.hid (anyVal A n c p (fun i => !valB (p i)) w H.out hn (fun k W hk hb => listBad1_calls (p k) W))
    cases q2 : anyB (fun i => !valB (p i)) n
    · have HV : Hid (∀ i, i < n → -1000000000000 ≤ p i ∧ p i ≤ 1000000000000) := Lib.hid fun i hi => by
        cases q : valB (p i)
        · have := anyB_hit (p := fun i => !valB (p i)) hi (by simp [q])
          rw [q2] at this; cases this
        · exact inB_iff.1 q
      rw [q2] at HC
      rw [show listText p n = (if n = 0 then ⟨#[45]⟩ else joinT p n) by simp [listText, listBad, q0, q2]]
      rcases Nat.eq_zero_or_pos n with rfl | hn0
      · go_enter Tryz.func23, Tryz.ntmps23
        go_wp2_with (go_at_call 36; with_reducible refine HC.out.mono ?_; rintro e w1 ⟨rfl, hb1⟩)
        go_ret
        exact ⟨rfl, hb1⟩
      · rw [if_neg (by omega)]
        have hne : ((n : Int) == 0) = false := by simp; omega
        have hne1 : ¬ n = 0 := by omega
        go_enter Tryz.func23, Tryz.ntmps23
        go_wp2_with (go_at_call 36; with_reducible refine HC.out.mono ?_; rintro e w1 ⟨rfl, hb1⟩)
        go_loopw [3, 18] (fun v i wr => ∃ k : Nat, k ≤ n ∧ i = .int .i64 k ∧ Hid (wr.ownsRow w.heap.size 9 1 v k (strL p k)) ∧ Below w.heap.size w wr) (fun _ i _ => n - (intOf i).toNat)
        case atStart => exact ⟨0, by omega, rfl, Lib.hid (World.ownsRow_nil _ _ _ _), hb1⟩
        case round =>
          obtain ⟨k, hk, rfl, hown, hbr⟩ := hrel
          have hbs := hbr.size
          by_cases hlt : k < n
          · obtain ⟨b, o, rfl, hrow⟩ := H.out (by omega)
            have c0 : wr.cell? ⟨b, o + k, none⟩ = some (.int .i64 (p k)) := (hbr.cell (p := ⟨b, o + k, none⟩) (cell_lt (hrow k hlt))).trans (hrow k hlt)
            obtain ⟨v0, v1⟩ := HV.out k hlt
            have HR := Lib.hid hrow
            clear hrow
            go_wp2_with (first
              | (go_at_call 39; refine (Decimal_calls (p k) wr (by omega) (by omega) (HT.out.keep hbr)).mono ?_; rintro e w3 ⟨rfl, hb3⟩; have hown3 := own_keep hown.out hb3; have hbr3 := hbr.trans (hb3.mono hbs); have hbs3 := hbr3.size)
              | (at_builtin; refine wpList_append_own _ rfl _ _ 57 rfl w.heap.size 9 i0 (.string ⟨#[]⟩) 1 16 Tryz.underlying57 hi hz0 hz1 hz2 rfl (by decide) _ _ _ rfl (hown3.alloc _) ⟨w3.heap.size, 0, none⟩ 1 1 [.string ⟨(Lib.itoa (p k)).toArray⟩] rfl rfl (fun j u hj => by match j, hj with | 0, hj => simp at hj; subst hj; simp [Addr.add]) (fun u hu => by simp at hu; subst hu; rfl) (by unfold maxLen; omega) (by omega) (by simp; omega) ?_; intro v' w4 hown' hgrow _; have hb4 := below_append hbr3 hbs3 hown3 hgrow; rw [strL_succ] at hown'; have HOWN := Lib.hid hown'; clear hown' hgrow hown3))
            go_roundw
            case rel => exact ⟨k + 1, by omega, by go_num, HOWN, hb4⟩
            case measure => simp [intOf]; omega
          · obtain rfl : k = n := by omega
            obtain ⟨g, cap, cur, rfl, hg0, hblk, hcap, hcm, hcs, hcur⟩ := own_blk hown.out (by omega)
            have hjl := join_len p k (fun i hi => by have := HV.out i hi; omega)
            have hj := Tryz.strings_Join g 0 cap (baL p k) ⟨#[44]⟩ wr (fun j x hx => by
              have hjk : j < k := by have := (List.getElem?_eq_some_iff.1 hx).1; rwa [baL_len] at this
              rw [Nat.zero_add, hblk.cell, hcur j (by omega)]
              simp [baL, hjk] at hx
              simp [strL, hjk, ← hx]) hblk.lt (by rw [baL_len]; omega) (by rw [baL_len]; exact hcap) (by rw [baL_map]; exact Nat.le_trans hjl (by omega))
            rw [baL_len, baL_map] at hj
            have HJ := Lib.hid hj
            clear hj hblk hcur hcs hown
            go_wp2_with (go_at_call 40; with_reducible refine HJ.out.mono ?_; rintro e w5 ⟨rfl, hb5⟩)
            go_ret
            exact ⟨rfl, hbr.trans (hb5.mono hbs)⟩
    · rw [q2] at HC
      rw [show listText p n = ⟨#[]⟩ by simp [listText, listBad, q0, q2]]
      go_enter Tryz.func23, Tryz.ntmps23
      go_wp2_with (go_at_call 36; with_reducible refine HC.out.mono ?_; rintro e w1 ⟨rfl, hb1⟩)
      go_ret
      exact ⟨rfl, hb1⟩
theorem listText_ok {p : Nat → Int} {n : Nat} (h0 : 0 < n) (h1 : n ≤ 64) (h : ∀ i, i < n → -1000000000000 ≤ p i ∧ p i ≤ 1000000000000) : listText p n = joinT p n := by
  have hb : listBad p n = false := by
    unfold listBad
    rw [decide_eq_false (by omega), anyB_no (fun i hi => by rw [valB, inB_yes (h i hi).1 (h i hi).2]; rfl)]
    rfl
  rw [listText, hb, if_neg (by simp), if_neg (by omega)]
end Go.Proofs.YtflhkldfhndafaaGreatDoor
