import Derived.Test.YticnpibkpfpojaaGreatDoorShelf
import Derived.Test.YticnpibkpfpojaaGreatDoorOwn
import Derived.Lib.AppendIntMem
import Derived.Lib.ItoaLen
import Derived.Laws.IdiomStrings
import Derived.Test.YticnpibkpfpojaaGreatDoorPred
import Derived.Test.YticnpibkpfpojaaGreatDoorJIng
import Derived.Lib.Join
import Derived.Deep.RegionHeld3
import Derived.Handy
import Derived.Test.YticnpibkpfpojaaGreatDoorShare
import Derived.Test.YticnpibkpfpojaaGreatDoorBell2
import Derived.Test.YticnpibkpfpojaaGreatDoorRowBase
import Derived.Lib.ItoaMem
import Derived.Lib.AtoiTie
import Derived.Lib.ParseIntBTie
import Derived.Lib.Strings
import Derived.Lib.Split
import Derived.Lib.SplitLaws
import Derived.Lib.CutLaws
import Derived.Lib.PathFns
/- Numbers in decimal, as the program writes them (the library's table of powers of ten laid). -/
namespace Go.Proofs.YticnpibkpfpojaaGreatDoor
set_option linter.unusedVariables false
open Go.RowKit
/-- the library's table of powers of ten reads as its initialiser lays it -/
def HasPow (w : World) : Prop := Lib.TabIs Tryz.prog w Tryz.var_internal_strconv_uint64pow10 .u64 Lib.pow10Tab
theorem HasPow.keep {w w' : World} (h : HasPow w) (hb : Below w.heap.size w w') : HasPow w' := Lib.tabBelow_of_tabIs h _ hb
theorem HasPow.drewN {w : World} (h : HasPow w) (n : Nat) : HasPow (w.drewN n) := h
theorem HasPow.alloc {w : World} (h : HasPow w) (o : Obj) : HasPow (w.alloc o) := h.keep ((Below.refl _ _).alloc (Nat.le_refl _) _)
set_option maxHeartbeats 400000 in
theorem Decimal_calls (n : Int) (w : World) (h0 : -9223372036854775808 ≤ n) (h1 : n ≤ 9223372036854775807) (hT : HasPow w) :
    Calls Tryz.prog 31 #[.int .i64 n] w fun e w' => e = .returned (.string ⟨(Lib.itoa n).toArray⟩) ∧ Below w.heap.size w w' := by
  have HT := Lib.hid hT
  clear hT
  go_enter Tryz.func31, Tryz.ntmps31
  go_wp2_with (go_at_call 63; refine (Tryz.strconv_FormatInt_10 n h0 h1 w HT.out).mono ?_; rintro e w1 ⟨rfl, k, os, rfl⟩)
  go_ret
  exact ⟨rfl, Lib.below_grow _ w (Nat.le_refl _) k os⟩
end Go.Proofs.YticnpibkpfpojaaGreatDoor

/- Lists of numbers as texts, as the program and as the reference write them. -/
namespace Go.Proofs.YticnpibkpfpojaaGreatDoor
set_option linter.unusedVariables false
open Go.RowKit


theorem ba_eq {a b : ByteArray} (h : a.data.toList = b.data.toList) : a = b := by
  cases a; cases b
  congr 1
  exact Array.toList_inj.1 h
theorem ba_size (l : List UInt8) : (⟨l.toArray⟩ : ByteArray).size = l.length := by
  show l.toArray.size = _
  simp
theorem ba_size1 : (⟨#[44]⟩ : ByteArray).size = 1 := rfl
def listL (p : Nat → Int) (n : Nat) : List (List UInt8) := (List.range n).map fun i => Lib.itoa (p i)
def joinT (p : Nat → Int) (n : Nat) : ByteArray := ⟨(Lib.join (listL p n) [44]).toArray⟩
def valB (x : Int) : Bool := inB x (-1000000000000) 1000000000000
def listBad (p : Nat → Int) (n : Nat) : Bool := decide (64 < n) || anyB (fun i => !valB (p i)) n
def listText (p : Nat → Int) (n : Nat) : ByteArray := if listBad p n = true then ⟨#[]⟩ else if n = 0 then ⟨#[45]⟩ else joinT p n
theorem join_snoc {l : List (List UInt8)} (h : l ≠ []) (x sep : List UInt8) : Lib.join (l ++ [x]) sep = Lib.join l sep ++ (sep ++ x) := by
  cases l with
  | nil => exact absurd rfl h
  | cons y r => rw [List.cons_append, Lib.join_cons, Lib.join_cons]; simp [Lib.joinTail]
theorem listL_succ (p : Nat → Int) (k : Nat) : listL p (k + 1) = listL p k ++ [Lib.itoa (p k)] := by simp [listL, List.range_succ]
theorem listL_ne (p : Nat → Int) {k : Nat} (h : 0 < k) : listL p k ≠ [] := by
  intro e
  have := congrArg List.length e
  simp [listL] at this
  omega
theorem joinT_succ (p : Nat → Int) {k : Nat} (h : 0 < k) : joinT p k ++ ⟨#[44]⟩ ++ ⟨(Lib.itoa (p k)).toArray⟩ = joinT p (k + 1) := by
  apply ba_eq
  simp [joinT, listL_succ, join_snoc (listL_ne p h)]
theorem joinT_one (p : Nat → Int) : (⟨#[]⟩ : ByteArray) ++ ⟨(Lib.itoa (p 0)).toArray⟩ = joinT p 1 := by
  apply ba_eq
  simp [joinT, listL, Lib.join_one]
theorem joinT_zero (p : Nat → Int) : joinT p 0 = ⟨#[]⟩ := rfl
theorem join_len (p : Nat → Int) (n : Nat) (h : ∀ i, i < n → -9223372036854775808 ≤ p i ∧ p i ≤ 9223372036854775807) : (Lib.join (listL p n) [44]).length ≤ 22 * n := by
  induction n with
  | zero => exact Nat.le_refl _
  | succ m ih =>
    have h1 := Lib.itoa_length_le (p m) (h m (by omega)).1 (h m (by omega)).2
    have h2 := ih fun i hi => h i (by omega)
    rw [listL_succ]
    rcases Nat.eq_zero_or_pos m with rfl | hm
    · simp [listL, Lib.join_one]; omega
    · rw [join_snoc (listL_ne p hm)]
      simp only [List.length_append, List.length_cons, List.length_nil]
      omega
theorem joinT_size (p : Nat → Int) (n : Nat) : (joinT p n).size = (Lib.join (listL p n) [44]).length := by
  show (Lib.join (listL p n) [44]).toArray.size = _
  simp
theorem isValue_calls (n : Int) (w : World) :
    Calls Tryz.prog 66 #[.int .i64 n] w fun e w' => e = .returned (.bool (valB n)) ∧ w = w' := by
  go_enter Tryz.func66, Tryz.ntmps66
  go_wp2_with (go_at_call 54; refine (within_calls _ _ _ _).mono ?_; rintro e w1 ⟨rfl, rfl⟩)
  go_ret
  exact ⟨rfl, rfl⟩
set_option maxHeartbeats 400000 in
theorem listBad1_calls (x : Int) (w : World) :
    Calls Tryz.prog 65 #[.int .i64 x] w fun e w' => e = .returned (.bool (!valB x)) ∧ Below w.heap.size w w' := by
  go_enter Tryz.func65, Tryz.ntmps65
  go_wp2_with (go_at_call 66; refine (isValue_calls _ _).mono ?_; rintro e w1 ⟨rfl, rfl⟩)
  go_ret
  exact ⟨rfl, Below.refl _ _⟩
set_option maxHeartbeats 1000000 in
theorem anyVal_index (A : Option Addr) (n c : Nat) (q : Nat → Int) (p : Nat → Bool) (w : World) (h : IntRow w A n q) (hn : n ≤ 1048576) (hp : ∀ k W, k < n → Below w.heap.size w W → Calls Tryz.prog 65 #[.int .i64 (q k)] W fun e w' => e = .returned (.bool (p k)) ∧ Below W.heap.size W w') :
    Calls Tryz.prog 90 #[.slice A n c, .func (.func 65) #[] #[]] w fun e w' => (∃ x : Int, decide (0 ≤ x) = anyB p n ∧ e = .returned (.int .i64 x)) ∧ Below w.heap.size w w' := by
  have H := Lib.hid h
  have HP := Lib.hid hp
  generalize hres : anyB p n = R
  have HRES := Lib.hid hres
  clear h hp hres
  go_enter Tryz.func90, Tryz.ntmps90
  go_wp2
  go_loopw [8] (fun i wr => ∃ k : Nat, k ≤ n ∧ i = .int .i64 k ∧ Hid (allB (fun i => !p i) k = true) ∧ Below w.heap.size w wr) (fun i _ => n - (intOf i).toNat)
  case atStart => exact ⟨0, by omega, rfl, rfl, Below.refl _ _⟩
  case round =>
    obtain ⟨k, hk, rfl, hgood, hbr⟩ := hrel
    by_cases hlt : k < n
    · obtain ⟨b, o, rfl, hrow⟩ := H.out (by omega)
      have c0 : wr.cell? ⟨b, o + k, none⟩ = some (.int .i64 (q k)) := (hbr.cell (p := ⟨b, o + k, none⟩) (cell_lt (hrow k hlt))).trans (hrow k hlt)
      have HR := Lib.hid hrow
      clear hrow
      have HC := Lib.hid (HP.out k wr hlt hbr)
      cases q1 : p k
      · rw [q1] at HC
        go_wp2_with (go_at_call 65; with_reducible refine HC.out.mono ?_; rintro e w1 ⟨rfl, hb⟩; have hbr2 := hbr.trans (hb.mono hbr.size); clear hb)
        go_roundw
        case rel => exact ⟨k + 1, by omega, by go_num, Lib.hid (by rw [show allB (fun i => !p i) (k + 1) = (allB (fun i => !p i) k && !p k) from rfl, hgood.out, q1]; rfl), hbr2⟩
        case measure => simp [intOf]; omega
      · rw [q1] at HC
        go_wp2_with (go_at_call 65; with_reducible refine HC.out.mono ?_; rintro e w1 ⟨rfl, hb⟩; have hbr2 := hbr.trans (hb.mono hbr.size); clear hb)
        go_ret
        exact ⟨⟨k, by rw [← HRES.out, anyB_hit hlt q1]; exact decide_eq_true (by omega), rfl⟩, hbr2⟩
    · obtain rfl : k = n := by omega
      go_wp2
      go_ret
      exact ⟨⟨-1, by rw [← HRES.out]; simp [anyB, hgood.out], rfl⟩, hbr⟩
set_option maxHeartbeats 400000 in
theorem anyVal (A : Option Addr) (n c : Nat) (q : Nat → Int) (p : Nat → Bool) (w : World) (h : IntRow w A n q) (hn : n ≤ 1048576) (hp : ∀ k W, k < n → Below w.heap.size w W → Calls Tryz.prog 65 #[.int .i64 (q k)] W fun e w' => e = .returned (.bool (p k)) ∧ Below W.heap.size W w') :
    Calls Tryz.prog 64 #[.slice A n c, .func (.func 65) #[] #[]] w fun e w' => e = .returned (.bool (anyB p n)) ∧ Below w.heap.size w w' := by
  go_enter Tryz.func64, Tryz.ntmps64
  go_wp2_with (go_at_call 90; refine (anyVal_index A n c q p w h hn hp).mono ?_; rintro e w1 ⟨⟨x, hx, rfl⟩, hb⟩)
  go_ret
  exact ⟨by first | rfl | exact ret_bool hx, hb⟩
def strL (p : Nat → Int) (k : Nat) : List Value := (List.range k).map fun i => .string ⟨(Lib.itoa (p i)).toArray⟩
theorem strL_succ (p : Nat → Int) (k : Nat) : strL p k ++ [.string ⟨(Lib.itoa (p k)).toArray⟩] = strL p (k + 1) := by simp [strL, List.range_succ]
def baL (p : Nat → Int) (k : Nat) : List ByteArray := (List.range k).map fun i => ⟨(Lib.itoa (p i)).toArray⟩
theorem baL_len (p : Nat → Int) (k : Nat) : (baL p k).length = k := by simp [baL]
theorem baL_map (p : Nat → Int) (k : Nat) : (baL p k).map (·.data.toList) = listL p k := by simp [baL, listL]
theorem str_info : (Tryz.prog.info? 9).map (fun i => (i.zero, i.size, i.bytes)) = some (some (.string ⟨#[]⟩), 1, 16) := by kernel_rfl
set_option maxRecDepth 20000 in
set_option maxHeartbeats 4000000 in
theorem ListText_calls (A : Option Addr) (n c : Nat) (p : Nat → Int) (w : World) (h : IntRow w A n p) (hn : n ≤ 1048576) (hT : HasPow w) :
    Calls Tryz.prog 32 #[.slice A n c] w fun e w' => e = .returned (.string (listText p n)) ∧ Below w.heap.size w w' := by
  obtain ⟨i0, hi, hz0, hz1, hz2⟩ := info_parts str_info
  have H := Lib.hid h
  have HT := Lib.hid hT
  clear h hT
  by_cases q0 : 64 < n
  · rw [show listText p n = ⟨#[]⟩ by simp [listText, listBad, q0]]
    have q1 : (64 : Int) < n := by omega
    go_enter Tryz.func32, Tryz.ntmps32
    go_wp2
    go_ret
    exact ⟨rfl, Below.refl _ _⟩
  · have q1 : ¬ (64 : Int) < n := by omega
    have HC := Lib.hid (anyVal A n c p (fun i => !valB (p i)) w H.out hn (fun k W hk hb => listBad1_calls (p k) W))
    cases q2 : anyB (fun i => !valB (p i)) n
    · have HV : Hid (∀ i, i < n → -1000000000000 ≤ p i ∧ p i ≤ 1000000000000) := Lib.hid fun i hi => by
        cases q : valB (p i)
        · have := anyB_hit (p := fun i => !valB (p i)) hi (by simp [q])
          rw [q2] at this; cases this
        · exact inB_iff.1 q
      rw [q2] at HC
      rw [show listText p n = (if n = 0 then ⟨#[45]⟩ else joinT p n) by simp [listText, listBad, q0, q2]]
      rcases Nat.eq_zero_or_pos n with rfl | hn0
      · go_enter Tryz.func32, Tryz.ntmps32
        go_wp2_with (go_at_call 64; with_reducible refine HC.out.mono ?_; rintro e w1 ⟨rfl, hb1⟩)
        go_ret
        exact ⟨rfl, hb1⟩
      · rw [if_neg (by omega)]
        have hne : ((n : Int) == 0) = false := by simp; omega
        have hne1 : ¬ n = 0 := by omega
        go_enter Tryz.func32, Tryz.ntmps32
        go_wp2_with (go_at_call 64; with_reducible refine HC.out.mono ?_; rintro e w1 ⟨rfl, hb1⟩)
        go_loopw [3, 18] (fun v i wr => ∃ k : Nat, k ≤ n ∧ i = .int .i64 k ∧ Hid (wr.ownsRow w.heap.size 9 1 v k (strL p k)) ∧ Below w.heap.size w wr) (fun _ i _ => n - (intOf i).toNat)
        case atStart => exact ⟨0, by omega, rfl, Lib.hid (World.ownsRow_nil _ _ _ _), hb1⟩
        case round =>
          obtain ⟨k, hk, rfl, hown, hbr⟩ := hrel
          have hbs := hbr.size
          by_cases hlt : k < n
          · obtain ⟨b, o, rfl, hrow⟩ := H.out (by omega)
            have c0 : wr.cell? ⟨b, o + k, none⟩ = some (.int .i64 (p k)) := (hbr.cell (p := ⟨b, o + k, none⟩) (cell_lt (hrow k hlt))).trans (hrow k hlt)
            obtain ⟨v0, v1⟩ := HV.out k hlt
            have HR := Lib.hid hrow
            clear hrow
            go_wp2_with (first
              | (go_at_call 31; refine (Decimal_calls (p k) wr (by omega) (by omega) (HT.out.keep hbr)).mono ?_; rintro e w3 ⟨rfl, hb3⟩; have hown3 := own_keep hown.out hb3; have hbr3 := hbr.trans (hb3.mono hbs); have hbs3 := hbr3.size)
              | (at_builtin; refine wpList_append_own _ rfl _ _ 59 rfl w.heap.size 9 i0 (.string ⟨#[]⟩) 1 16 Tryz.underlying59 hi hz0 hz1 hz2 rfl (by decide) _ _ _ rfl (hown3.alloc _) ⟨w3.heap.size, 0, none⟩ 1 1 [.string ⟨(Lib.itoa (p k)).toArray⟩] rfl rfl (fun j u hj => by match j, hj with | 0, hj => simp at hj; subst hj; simp [Addr.add]) (fun u hu => by simp at hu; subst hu; rfl) (by unfold maxLen; omega) (by omega) (by simp; omega) ?_; intro v' w4 hown' hgrow _; have hb4 := below_append hbr3 hbs3 hown3 hgrow; rw [strL_succ] at hown'; have HOWN := Lib.hid hown'; clear hown' hgrow hown3))
            go_roundw
            case rel => exact ⟨k + 1, by omega, by go_num, HOWN, hb4⟩
            case measure => simp [intOf]; omega
          · obtain rfl : k = n := by omega
            obtain ⟨g, cap, cur, rfl, hg0, hblk, hcap, hcm, hcs, hcur⟩ := own_blk hown.out (by omega)
            have hjl := join_len p k (fun i hi => by have := HV.out i hi; omega)
            have hj := Tryz.strings_Join g 0 cap (baL p k) ⟨#[44]⟩ wr (fun j x hx => by
              have hjk : j < k := by have := (List.getElem?_eq_some_iff.1 hx).1; rwa [baL_len] at this
              rw [Nat.zero_add, hblk.cell, hcur j (by omega)]
              simp [baL, hjk] at hx
              simp [strL, hjk, ← hx]) hblk.lt (by rw [baL_len]; omega) (by rw [baL_len]; exact hcap) (by rw [baL_map]; exact Nat.le_trans hjl (by omega))
            rw [baL_len, baL_map] at hj
            have HJ := Lib.hid hj
            clear hj hblk hcur hcs hown
            go_wp2_with (go_at_call 33; with_reducible refine HJ.out.mono ?_; rintro e w5 ⟨rfl, hb5⟩)
            go_ret
            exact ⟨rfl, hbr.trans (hb5.mono hbs)⟩
    · rw [q2] at HC
      rw [show listText p n = ⟨#[]⟩ by simp [listText, listBad, q0, q2]]
      go_enter Tryz.func32, Tryz.ntmps32
      go_wp2_with (go_at_call 64; with_reducible refine HC.out.mono ?_; rintro e w1 ⟨rfl, hb1⟩)
      go_ret
      exact ⟨rfl, hb1⟩
theorem listText_ok {p : Nat → Int} {n : Nat} (h0 : 0 < n) (h1 : n ≤ 64) (h : ∀ i, i < n → -1000000000000 ≤ p i ∧ p i ≤ 1000000000000) : listText p n = joinT p n := by
  have hb : listBad p n = false := by
    unfold listBad
    rw [decide_eq_false (by omega), anyB_no (fun i hi => by rw [valB, inB_yes (h i hi).1 (h i hi).2]; rfl)]
    rfl
  rw [listText, hb, if_neg (by simp), if_neg (by omega)]
end Go.Proofs.YticnpibkpfpojaaGreatDoor

/- The text of a bell, in the program and in the reference. -/
namespace Go.Proofs.YticnpibkpfpojaaGreatDoor
set_option linter.unusedVariables false
set_option linter.unusedSimpArgs false
open Go.RowKit

/-- a share's text -/
def shT (ss : Nat → ByteArray) (ms : Nat → Int) (i : Nat) : ByteArray := ss i ++ ⟨#[58]⟩ ++ ⟨(Lib.itoa (ms i)).toArray⟩
def shL (ss : Nat → ByteArray) (ms : Nat → Int) (n : Nat) : List ByteArray := (List.range n).map (shT ss ms)
def shJ (ss : Nat → ByteArray) (ms : Nat → Int) (n : Nat) : ByteArray := ⟨(Lib.join ((shL ss ms n).map (·.data.toList)) [44]).toArray⟩
def bellT (s : ByteArray) (no ma fe : Int) (n : Nat) (ss : Nat → ByteArray) (ms : Nat → Int) : ByteArray := s ++ ⟨#[32]⟩ ++ joinT (l3 no ma fe) 3 ++ ⟨#[32]⟩ ++ shJ ss ms n
noncomputable def bellText (s : ByteArray) (no ma fe : Int) (n : Nat) (ss : Nat → ByteArray) (ms : Nat → Int) : ByteArray := if bellB s no ma fe n ss ms = true then bellT s no ma fe n ss ms else ⟨#[]⟩
theorem shL_len (ss : Nat → ByteArray) (ms : Nat → Int) (n : Nat) : (shL ss ms n).length = n := by simp [shL]
theorem shL_succ (ss : Nat → ByteArray) (ms : Nat → Int) (n : Nat) : shL ss ms (n + 1) = shL ss ms n ++ [shT ss ms n] := by simp [shL, List.range_succ]
theorem shL_ne {ss : Nat → ByteArray} {ms : Nat → Int} {k : Nat} (h : 0 < k) : (shL ss ms k).map (·.data.toList) ≠ [] := by
  intro e
  have := congrArg List.length e
  simp [shL] at this
  omega
theorem shJ_zero (ss : Nat → ByteArray) (ms : Nat → Int) : shJ ss ms 0 = ⟨#[]⟩ := rfl
theorem shJ_one (p : ByteArray) (ss : Nat → ByteArray) (ms : Nat → Int) : p ++ (ss 0 ++ ⟨#[58]⟩ ++ ⟨(Lib.itoa (ms 0)).toArray⟩) = p ++ shJ ss ms 1 := by
  congr 1
  apply ba_eq
  simp [shJ, shL, shT, Lib.join_one]
theorem shJ_succ (p : ByteArray) (ss : Nat → ByteArray) (ms : Nat → Int) {k : Nat} (h : 0 < k) : p ++ shJ ss ms k ++ ⟨#[44]⟩ ++ (ss k ++ ⟨#[58]⟩ ++ ⟨(Lib.itoa (ms k)).toArray⟩) = p ++ shJ ss ms (k + 1) := by
  apply ba_eq
  simp [shJ, shL_succ, join_snoc (shL_ne h), shT]
/-- the cells of the shares' texts -/
def shV (ss : Nat → ByteArray) (ms : Nat → Int) (n : Nat) : List Value := (List.range n).map fun i => .string (shT ss ms i)
theorem shV_succ (ss : Nat → ByteArray) (ms : Nat → Int) (n : Nat) : shV ss ms n ++ [.string (ss n ++ ⟨#[58]⟩ ++ ⟨(Lib.itoa (ms n)).toArray⟩)] = shV ss ms (n + 1) := by simp [shV, List.range_succ, shT]
theorem shJ_len (ss : Nat → ByteArray) (ms : Nat → Int) (n : Nat) (h : ∀ i, i < n → (ss i).size ≤ 10 ∧ 1 ≤ ms i ∧ ms i ≤ 20000000) : (Lib.join ((shL ss ms n).map (·.data.toList)) [44]).length ≤ 40 * n := by
  induction n with
  | zero => exact Nat.le_refl _
  | succ m ih =>
    obtain ⟨h0, h1, h2⟩ := h m (by omega)
    have h3 := Lib.itoa_length_le (ms m) (by omega) (by omega)
    have h4 := ih fun i hi => h i (by omega)
    have h5 : (ss m).data.toList.length ≤ 10 := by rw [Array.length_toList]; exact h0
    have h6 : (shT ss ms m).data.toList.length ≤ 32 := by simp [shT] at h5 ⊢; omega
    rw [shL_succ, List.map_append]
    rcases Nat.eq_zero_or_pos m with rfl | hm
    · simp only [shL, List.range_zero, List.map_nil, List.nil_append, List.map_cons, Lib.join_one]; omega
    · rw [List.map_cons, List.map_nil, join_snoc (shL_ne hm)]
      simp only [List.length_append, List.length_cons, List.length_nil]
      omega
theorem bell_rng {s : ByteArray} {no ma fe : Int} {n : Nat} {ss : Nat → ByteArray} {ms : Nat → Int} (h : bellB s no ma fe n ss ms = true) :
    s.size ≤ 10 ∧ (1 ≤ n ∧ n ≤ 4) ∧ (∀ i, i < 3 → -1000000000000 ≤ l3 no ma fe i ∧ l3 no ma fe i ≤ 1000000000000) ∧ ∀ i, i < n → (ss i).size ≤ 10 ∧ 1 ≤ ms i ∧ ms i ≤ 20000000 := by
  unfold bellB sharesB at h
  simp only [Bool.and_eq_true, decide_eq_true_eq] at h
  obtain ⟨h0, h1, h2, h3, h4, h5, h6, -⟩ := h
  have := inB_iff.1 h2
  have := inB_iff.1 h3
  have := inB_iff.1 h4
  refine ⟨(nameB_of h1).2.1, ⟨by omega, by omega⟩, fun i hi => ?_, fun i hi => ?_⟩
  · match i, hi with
    | 0, _ => exact ⟨by show _ ≤ no; omega, by show no ≤ _; omega⟩
    | 1, _ => exact ⟨by show _ ≤ ma; omega, by show ma ≤ _; omega⟩
    | 2, _ => exact ⟨by show _ ≤ fe; omega, by show fe ≤ _; omega⟩
  · have hg := allB_of h0 i hi
    simp only [goodAt, shareB, Bool.and_eq_true] at hg
    exact ⟨(nameB_of hg.1.1).2.1, inB_iff.1 hg.1.2⟩
theorem joinSh {ss : Nat → ByteArray} {ms : Nat → Int} {w : World} {g n cap : Nat} {cur : Array Value} (hcur : ∀ i, i < n * 1 → cur[i]? = (shV ss ms n)[i]?) (hblk : Blk w g 9 cur) (hcap : n ≤ cap) (hn : n ≤ 1048576) (hl : (Lib.join ((shL ss ms n).map (·.data.toList)) [44]).length ≤ 40 * n) :
    Calls Tryz.prog 33 #[.slice (some ⟨g, 0, none⟩) n cap, .string ⟨#[44]⟩] w fun e w' => e = .returned (.string (shJ ss ms n)) ∧ Below w.heap.size w w' := by
  have hj := Tryz.strings_Join g 0 cap (shL ss ms n) ⟨#[44]⟩ w (fun j x hx => by
    have hjk : j < n := by have := (List.getElem?_eq_some_iff.1 hx).1; rwa [shL_len] at this
    rw [Nat.zero_add, hblk.cell, hcur j (by omega)]
    simp [shL, hjk] at hx
    simp [shV, hjk, ← hx]) hblk.lt (by rw [shL_len]; omega) (by rw [shL_len]; exact hcap) (Nat.le_trans hl (by omega))
  rwa [shL_len] at hj
theorem Blk.keep' {w w' : World} {g : Nat} {t : TypeId} {cs : Array Value} (h : Blk w g t cs) (hb : Below w.heap.size w w') : Blk w' g t cs := h.keep hb
set_option maxRecDepth 20000 in
set_option maxHeartbeats 8000000 in
theorem BellText_calls (s : ByteArray) (no ma fe : Int) (A : Option Addr) (n c : Nat) (ss : Nat → ByteArray) (ms : Nat → Int) (w : World) (hs : s.size ≤ maxLen) (h : ShareRow w A n ss ms) (hss : ∀ i, i < n → (ss i).size ≤ maxLen) (hn : n ≤ 1048576) (hT : HasPow w) :
    Calls Tryz.prog 8 #[.agg #[.string s, .int .i64 no, .int .i64 ma, .int .i64 fe, .slice A n c]] w fun e w' => e = .returned (.string (bellText s no ma fe n ss ms)) ∧ Below w.heap.size w w' := by
  obtain ⟨i0, hi, hz0, hz1, hz2⟩ := info_parts str_info
  have HT := Lib.hid hT
  have hal := (Below.refl w.heap.size w).alloc (Nat.le_refl _) (.cells #[.string s, .int .i64 no, .int .i64 ma, .int .i64 fe, .slice A n c] 28)
  have H := Lib.hid (h.below hal (Nat.le_refl _))
  have HSS := Lib.hid hss
  have HAL := Lib.hid hal
  clear hT h hal hss
  cases q1 : bellB s no ma fe n ss ms
  · rw [show bellText s no ma fe n ss ms = ⟨#[]⟩ by simp [bellText, q1]]
    go_enter Tryz.func8, Tryz.ntmps8
    go_wp2_with (go_at_call 22; refine (ValidBell_calls s no ma fe A n c ss ms _ hs H.out HSS.out hn).mono ?_; rw [q1]; rintro e w1 ⟨rfl, hb⟩; have hbx := (Blk.new w 28 #[.string s, .int .i64 no, .int .i64 ma, .int .i64 fe, .slice A n c]).keep hb; have H1 := H.out.below hb (Nat.le_refl _); have hb1 := HAL.out.trans (hb.mono HAL.out.size); clear hb)
    go_ret
    exact ⟨rfl, hb1⟩
  · rw [show bellText s no ma fe n ss ms = bellT s no ma fe n ss ms by simp [bellText, q1]]
    obtain ⟨hs10, ⟨hn1, hn4⟩, hv, hsh⟩ := bell_rng q1
    have HSH := Lib.hid hsh
    have hjl := join_len (l3 no ma fe) 3 (fun i hi => by have := hv i hi; omega)
    rw [← joinT_size] at hjl
    have hlt3 := listText_ok (p := l3 no ma fe) (n := 3) (by omega) (by omega) hv
    have hsl := shJ_len ss ms n hsh
    have hsz : (shJ ss ms n).size = (Lib.join ((shL ss ms n).map (·.data.toList)) [44]).length := by show (Lib.join _ _).toArray.size = _; simp
    have g1 : ¬ 9223372036854775807 < s.size + 1 := by omega
    have g2 : ¬ 9223372036854775807 < s.size + 1 + (joinT (l3 no ma fe) 3).size := by omega
    have g3 : ¬ 9223372036854775807 < s.size + 1 + (joinT (l3 no ma fe) 3).size + 1 := by omega
    have g4 : ¬ 9223372036854775807 < s.size + 1 + (joinT (l3 no ma fe) 3).size + 1 + (shJ ss ms n).size := by omega
    have HSL := Lib.hid hsl
    clear hsh hv hsl hsz
    go_enter Tryz.func8, Tryz.ntmps8
    go_wp2_with (first | (go_at_call 22; refine (ValidBell_calls s no ma fe A n c ss ms _ hs H.out HSS.out hn).mono ?_; rw [q1]; rintro e w1 ⟨rfl, hb⟩; have hbx := (Blk.new w 28 #[.string s, .int .i64 no, .int .i64 ma, .int .i64 fe, .slice A n c]).keep hb; have H1 := H.out.below hb (Nat.le_refl _); have hb1 := HAL.out.trans (hb.mono HAL.out.size); clear hb); refine Hid.out ?_)
    refine Lib.hid ?_
    have x0 := (hbx.cell 0).trans rfl
    have x4 := (hbx.cell 4).trans rfl
    have HBX := Lib.hid hbx
    have HR := Lib.hid H1
    clear hbx H1
    go_wp2
    have HP1 := Lib.hid (HT.out.keep hb1)
    have hw1 := hb1.size
    go_loopw [3, 12] (fun v i wr => ∃ k : Nat, k ≤ n ∧ i = .int .i64 k ∧ Hid (wr.ownsRow w1.heap.size 9 1 v k (shV ss ms k)) ∧ Below w1.heap.size w1 wr) (fun _ i _ => n - (intOf i).toNat)
    case atStart => exact ⟨0, by omega, rfl, Lib.hid (World.ownsRow_nil _ _ _ _), Below.refl _ _⟩
    case round =>
      obtain ⟨k, hk, rfl, hown, hbr⟩ := hrel
      have hbs := hbr.size
      by_cases hlt : k < n
      · obtain ⟨b, o, rfl, hrow⟩ := HR.out (by omega)
        obtain ⟨u0, u1⟩ := (hrow k hlt).below hbr (Nat.le_refl _)
        obtain ⟨k0, k1, k2⟩ := HSH.out k hlt
        have hil := Lib.itoa_length_le (ms k) (by omega) (by omega)
        have f1 : ¬ 9223372036854775807 < (ss k).size + 1 := by omega
        have f2 : ¬ 9223372036854775807 < (ss k).size + 1 + (Lib.itoa (ms k)).length := by omega
        have HR2 := Lib.hid hrow
        have HLT := Lib.hid hown.out.lt
        clear hrow
        go_wp2_with fail
        refine wp_gen (fun W0 hW0 => ?_)
        have s0_ : Below w1.heap.size w1 W0 := by rw [hW0]; exact hbr.alloc hbs _
        have s1_ : HasPow W0 := by rw [hW0]; exact (HP1.out.keep hbr).alloc _
        have s2_ : W0.cell? ⟨wr.heap.size, 0, none⟩ = some (.string (ss k)) := by simp [hW0]
        have s3_ : W0.cell? ⟨wr.heap.size, 1, none⟩ = some (.int .i64 (ms k)) := by simp [hW0]
        have s4_ : wr.heap.size < W0.heap.size := by simp [hW0]
        have HO0 : Hid (W0.ownsRow w1.heap.size 9 1 _ k (shV ss ms k)) := Lib.hid (by rw [hW0]; exact hown.out.alloc _)
        clear hW0
        refine wp_region_held_drew (S := fun w' => Below w1.heap.size w1 w' ∧ HasPow w' ∧ w'.cell? ⟨wr.heap.size, 0, none⟩ = some (.string (ss k)) ∧ w'.cell? ⟨wr.heap.size, 1, none⟩ = some (.int .i64 (ms k)) ∧ wr.heap.size < w'.heap.size) (by kernel_rfl) ?_ (fun hHeld => ?_)
        · exact ⟨s0_.drew, s1_, s2_, s3_, s4_⟩
        clear s0_ s1_ s2_ s3_ s4_
        refine take_yes (i := 0) (d := 16) (v := ?_) _ rfl rfl (by kernel_rfl) (by kernel_rfl) (by kernel_rfl) (fun _ _ _ _ h => h) (by rfl) ?_ (by assumption) ?_
        rotate_left 1
        · ((intro w hSw; (try dsimp only at hSw); go_simp) <;> (try with_reducible rfl))
        (try simp only [Act.put, List.setIfInBounds_toArray, List.set_cons_zero, List.set_cons_succ])
        refine take_yes (i := 1) (d := 17) (v := ?_) _ rfl rfl (by kernel_rfl) (by kernel_rfl) (by kernel_rfl) (fun _ _ _ _ h => h) (by rfl) ?_ (by assumption) ?_
        rotate_left 1
        · ((intro w hSw; (try dsimp only at hSw); go_simp) <;> (try with_reducible rfl))
        (try simp only [Act.put, List.setIfInBounds_toArray, List.set_cons_zero, List.set_cons_succ])
        refine take_yes (i := 2) (d := 18) (v := ?_) _ rfl rfl (by kernel_rfl) (by kernel_rfl) (by kernel_rfl) (fun _ _ _ _ h => h) (by rfl) ?_ (by assumption) ?_
        rotate_left 1
        · ((intro w hSw; (try dsimp only at hSw); go_simp) <;> (try with_reducible rfl))
        (try simp only [Act.put, List.setIfInBounds_toArray, List.set_cons_zero, List.set_cons_succ])
        refine take_yes (i := 3) (d := 19) (v := ?_) _ rfl rfl (by kernel_rfl) (by kernel_rfl) (by kernel_rfl) (fun _ _ _ _ h => h) (by rfl) ?_ (by assumption) ?_
        rotate_left 1
        · ((intro w hSw; (try dsimp only at hSw); go_simp) <;> (try with_reducible rfl))
        (try simp only [Act.put, List.setIfInBounds_toArray, List.set_cons_zero, List.set_cons_succ])
        refine take_yes (i := 4) (d := 20) (v := ?_) _ rfl rfl (by kernel_rfl) (by kernel_rfl) (by kernel_rfl) (fun _ _ _ _ h => h) (by rfl) ?_ (by assumption) ?_
        rotate_left 1
        · ((intro w hSw; (try dsimp only at hSw); go_simp) <;> (try with_reducible rfl))
        (try simp only [Act.put, List.setIfInBounds_toArray, List.set_cons_zero, List.set_cons_succ])
        refine take_yes (i := 5) (d := 21) (v := ?_) _ rfl rfl (by kernel_rfl) (by kernel_rfl) (by kernel_rfl) (fun _ _ _ _ h => h) (by rfl) ?_ (by assumption) ?_
        rotate_left 1
        · ((intro w hSw; (try dsimp only at hSw); go_simp) <;> (try with_reducible rfl))
        (try simp only [Act.put, List.setIfInBounds_toArray, List.set_cons_zero, List.set_cons_succ])
        (refine wpAnyH_ready (rs := [6]) (by kernel_rfl) (by simp) ?_; refine AllReadyH.cons rfl (fun K hK => ?_) AllReadyH.nil; go_simp; go_at_call 31; refine (Decimal_calls (ms k) _ (by omega) (by omega) (And.left (And.right hHeld))).mono ?_; rintro e wd ⟨rfl, hb⟩; refine hK.out _ _ (by obtain ⟨x0_, x1_, x2_, x3_, x4_⟩ := hHeld; exact ⟨x0_.trans (hb.mono x0_.size), x1_.keep hb, cell_keep hb x2_, cell_keep hb x3_, Nat.lt_of_lt_of_le x4_ hb.size⟩) (fun hHeld2 => ?_); have HBD := Lib.hid hb; clear hK K hHeld hb; have hHeld := hHeld2; clear hHeld2; (try simp only [Act.put, List.setIfInBounds_toArray, List.set_cons_zero, List.set_cons_succ]))
        refine take_yes (i := 7) (d := 23) (v := ?_) _ rfl rfl (by kernel_rfl) (by kernel_rfl) (by kernel_rfl) (fun _ _ _ _ h => h) (by rfl) ?_ (by assumption) ?_
        rotate_left 1
        · ((intro w hSw; (try dsimp only at hSw); go_simp) <;> (try with_reducible rfl))
        (try simp only [Act.put, List.setIfInBounds_toArray, List.set_cons_zero, List.set_cons_succ])
        (refine wpAnyH_ready (rs := [8]) (by kernel_rfl) (by simp) ?_; refine AllReadyH.cons rfl (fun K hK => ?_) AllReadyH.nil; go_simp; refine hK.out _ _ (by obtain ⟨x0_, x1_, x2_, x3_, x4_⟩ := hHeld; exact ⟨x0_.trans (((Below.refl _ _).alloc (Nat.le_refl _) _).mono x0_.size), x1_.keep ((Below.refl _ _).alloc (Nat.le_refl _) _), cell_keep ((Below.refl _ _).alloc (Nat.le_refl _) _) x2_, cell_keep ((Below.refl _ _).alloc (Nat.le_refl _) _) x3_, Nat.lt_of_lt_of_le x4_ ((Below.refl _ _).alloc (Nat.le_refl _) _).size⟩) (fun hHeld2 => ?_); clear hK K; have hOld := hHeld; clear hHeld; have hHeld := hHeld2; clear hHeld2; (try simp only [Act.put, List.setIfInBounds_toArray, List.set_cons_zero, List.set_cons_succ]))
        (refine wpAnyH_ready (rs := [9]) (by kernel_rfl) (by simp) ?_; refine AllReadyH.cons rfl (fun K hK => ?_) AllReadyH.nil; refine step_append_own _ rfl (.tmp 16) (.tmp 24) _ rfl w1.heap.size 9 i0 (.string ⟨#[]⟩) 1 16 Tryz.underlying59 hi hz0 hz1 hz2 rfl (by decide) _ _ _ rfl ((own_keep (own_drew HO0.out) HBD.out).alloc _) ⟨_, 0, none⟩ 1 1 [.string (ss k ++ ⟨#[58]⟩ ++ ⟨(Lib.itoa (ms k)).toArray⟩)] rfl rfl (fun j u hj => by match j, hj with | 0, hj => simp at hj; subst hj; simp [Addr.add]) (fun u hu => by simp at hu; subst hu; rfl) (by unfold maxLen; omega) (by omega) (by have := hHeld.1.size; omega) ?_; intro v_ wa_ hown_ hgrow_ hat_; refine hK.out _ _ (by obtain ⟨x0_, x1_, x2_, x3_, x4_⟩ := hHeld; exact ⟨x0_.grown hgrow_ x0_.size (fun k hk => (HLT.out k hk).1), HP1.out.keep (x0_.grown hgrow_ x0_.size (fun k hk => (HLT.out k hk).1)), hgrow_.cell x2_ (fun e => Nat.lt_irrefl _ (HLT.out _ e.symm).2), hgrow_.cell x3_ (fun e => Nat.lt_irrefl _ (HLT.out _ e.symm).2), Nat.lt_of_lt_of_le x4_ hgrow_.size⟩) (fun hHeld2 => ?_); clear hK K hHeld; (try clear hOld); have hHeld := hHeld2; clear hHeld2; (try simp only [Act.put, List.setIfInBounds_toArray, List.set_cons_zero, List.set_cons_succ]))
        refine take_yes (i := 10) (d := 3) (v := ?_) _ rfl rfl (by kernel_rfl) (by kernel_rfl) (by kernel_rfl) (fun _ _ _ _ h => h) (by rfl) ?_ (by assumption) ?_
        rotate_left 1
        · ((intro w hSw; (try dsimp only at hSw); go_simp) <;> (try with_reducible rfl))
        (try simp only [Act.put, List.setIfInBounds_toArray, List.set_cons_zero, List.set_cons_succ])
        refine wpAnyH_done (by kernel_rfl) ?_ _
        obtain ⟨z0, z1, z2, z3, z4⟩ := hHeld
        rw [shV_succ] at hown_
        have HOWN := Lib.hid hown_
        clear hown_ hgrow_ hat_
        go_wp2
        go_roundw
        case rel => exact ⟨k + 1, by omega, by go_num, HOWN, z0⟩
        case measure => simp [intOf]; omega
      · obtain rfl : k = n := by omega
        obtain ⟨g, cap, cur, rfl, hg0, hblk, hcap, hcm, hcs, hcur⟩ := own_blk hown.out (by omega)
        have HCUR := Lib.hid hcur
        have y0 := HBX.out.keep hbr
        go_wp2_with fail
        refine wp_gen (fun W0 hW0 => ?_)
        have s0_ : Below w1.heap.size w1 W0 := by rw [hW0]; exact hbr
        have s1_ : HasPow W0 := by rw [hW0]; exact HP1.out.keep hbr
        have s2_ : Blk W0 w.heap.size 28 #[.string s, .int .i64 no, .int .i64 ma, .int .i64 fe, .slice A k c] := by rw [hW0]; exact y0
        have s3_ : Blk W0 g 9 cur := by rw [hW0]; exact hblk
        have s4_ : W0.cell? ⟨w.heap.size, 0, none⟩ = some (.string s) := (s2_.cell 0).trans rfl
        have s5_ : W0.cell? ⟨w.heap.size, 1, none⟩ = some (.int .i64 no) := (s2_.cell 1).trans rfl
        have s6_ : W0.cell? ⟨w.heap.size, 2, none⟩ = some (.int .i64 ma) := (s2_.cell 2).trans rfl
        have s7_ : W0.cell? ⟨w.heap.size, 3, none⟩ = some (.int .i64 fe) := (s2_.cell 3).trans rfl
        clear y0 hblk
        clear hW0
        refine wp_region_held_drew (S := fun w' => Below w1.heap.size w1 w' ∧ HasPow w' ∧ Blk w' w.heap.size 28 #[.string s, .int .i64 no, .int .i64 ma, .int .i64 fe, .slice A k c] ∧ Blk w' g 9 cur ∧ w'.cell? ⟨w.heap.size, 0, none⟩ = some (.string s) ∧ w'.cell? ⟨w.heap.size, 1, none⟩ = some (.int .i64 no) ∧ w'.cell? ⟨w.heap.size, 2, none⟩ = some (.int .i64 ma) ∧ w'.cell? ⟨w.heap.size, 3, none⟩ = some (.int .i64 fe)) (by kernel_rfl) ?_ (fun hHeld => ?_)
        · exact ⟨s0_.drew, s1_, s2_, s3_, s4_, s5_, s6_, s7_⟩
        clear s0_ s1_ s2_ s3_ s4_ s5_ s6_ s7_
        refine take_yes (i := 0) (d := 27) (v := ?_) _ rfl rfl (by kernel_rfl) (by kernel_rfl) (by kernel_rfl) (fun _ _ _ _ h => h) (by rfl) ?_ (by assumption) ?_
        rotate_left 1
        · ((intro w hSw; (try dsimp only at hSw); go_simp) <;> (try with_reducible rfl))
        (try simp only [Act.put, List.setIfInBounds_toArray, List.set_cons_zero, List.set_cons_succ])
        refine take_yes (i := 1) (d := 28) (v := ?_) _ rfl rfl (by kernel_rfl) (by kernel_rfl) (by kernel_rfl) (fun _ _ _ _ h => h) (by rfl) ?_ (by assumption) ?_
        rotate_left 1
        · ((intro w hSw; (try dsimp only at hSw); go_simp) <;> (try with_reducible rfl))
        (try simp only [Act.put, List.setIfInBounds_toArray, List.set_cons_zero, List.set_cons_succ])
        refine take_yes (i := 2) (d := 29) (v := ?_) _ rfl rfl (by kernel_rfl) (by kernel_rfl) (by kernel_rfl) (fun _ _ _ _ h => h) (by rfl) ?_ (by assumption) ?_
        rotate_left 1
        · ((intro w hSw; (try dsimp only at hSw); go_simp) <;> (try with_reducible rfl))
        (try simp only [Act.put, List.setIfInBounds_toArray, List.set_cons_zero, List.set_cons_succ])
        refine take_yes (i := 3) (d := 30) (v := ?_) _ rfl rfl (by kernel_rfl) (by kernel_rfl) (by kernel_rfl) (fun _ _ _ _ h => h) (by rfl) ?_ (by assumption) ?_
        rotate_left 1
        · ((intro w hSw; (try dsimp only at hSw); go_simp) <;> (try with_reducible rfl))
        (try simp only [Act.put, List.setIfInBounds_toArray, List.set_cons_zero, List.set_cons_succ])
        refine take_yes (i := 4) (d := 31) (v := ?_) _ rfl rfl (by kernel_rfl) (by kernel_rfl) (by kernel_rfl) (fun _ _ _ _ h => h) (by rfl) ?_ (by assumption) ?_
        rotate_left 1
        · ((intro w hSw; (try dsimp only at hSw); go_simp) <;> (try with_reducible rfl))
        (try simp only [Act.put, List.setIfInBounds_toArray, List.set_cons_zero, List.set_cons_succ])
        refine take_yes (i := 5) (d := 32) (v := ?_) _ rfl rfl (by kernel_rfl) (by kernel_rfl) (by kernel_rfl) (fun _ _ _ _ h => h) (by rfl) ?_ (by assumption) ?_
        rotate_left 1
        · ((intro w hSw; (try dsimp only at hSw); go_simp) <;> (try with_reducible rfl))
        (try simp only [Act.put, List.setIfInBounds_toArray, List.set_cons_zero, List.set_cons_succ])
        refine take_yes (i := 6) (d := 33) (v := ?_) _ rfl rfl (by kernel_rfl) (by kernel_rfl) (by kernel_rfl) (fun _ _ _ _ h => h) (by rfl) ?_ (by assumption) ?_
        rotate_left 1
        · ((intro w hSw; (try dsimp only at hSw); go_simp) <;> (try with_reducible rfl))
        (try simp only [Act.put, List.setIfInBounds_toArray, List.set_cons_zero, List.set_cons_succ])
        refine take_yes (i := 7) (d := 34) (v := ?_) _ rfl rfl (by kernel_rfl) (by kernel_rfl) (by kernel_rfl) (fun _ _ _ _ h => h) (by rfl) ?_ (by assumption) ?_
        rotate_left 1
        · ((intro w hSw; (try dsimp only at hSw); go_simp) <;> (try with_reducible rfl))
        (try simp only [Act.put, List.setIfInBounds_toArray, List.set_cons_zero, List.set_cons_succ])
        refine take_yes (i := 8) (d := 35) (v := ?_) _ rfl rfl (by kernel_rfl) (by kernel_rfl) (by kernel_rfl) (fun _ _ _ _ h => h) (by rfl) ?_ (by assumption) ?_
        rotate_left 1
        · ((intro w hSw; (try dsimp only at hSw); go_simp) <;> (try with_reducible rfl))
        (try simp only [Act.put, List.setIfInBounds_toArray, List.set_cons_zero, List.set_cons_succ])
        refine take_yes (i := 13) (d := 40) (v := ?_) _ rfl rfl (by kernel_rfl) (by kernel_rfl) (by kernel_rfl) (fun _ _ _ _ h => h) (by rfl) ?_ (by assumption) ?_
        rotate_left 1
        · ((intro w hSw; (try dsimp only at hSw); go_simp) <;> (try with_reducible rfl))
        (try simp only [Act.put, List.setIfInBounds_toArray, List.set_cons_zero, List.set_cons_succ])
        (refine wpAnyH_ready (rs := [9]) (by kernel_rfl) (by simp) ?_; refine AllReadyH.cons rfl (fun K hK => ?_) AllReadyH.nil; go_simp; refine hK.out _ _ (by obtain ⟨x0_, x1_, x2_, x3_, x4_, x5_, x6_, x7_⟩ := hHeld; exact ⟨x0_.trans (((Below.refl _ _).alloc (Nat.le_refl _) _).mono x0_.size), x1_.keep ((Below.refl _ _).alloc (Nat.le_refl _) _), x2_.keep ((Below.refl _ _).alloc (Nat.le_refl _) _), x3_.keep ((Below.refl _ _).alloc (Nat.le_refl _) _), cell_keep ((Below.refl _ _).alloc (Nat.le_refl _) _) x4_, cell_keep ((Below.refl _ _).alloc (Nat.le_refl _) _) x5_, cell_keep ((Below.refl _ _).alloc (Nat.le_refl _) _) x6_, cell_keep ((Below.refl _ _).alloc (Nat.le_refl _) _) x7_⟩) (fun hHeld2 => ?_); clear hK K; have hOld := hHeld; clear hHeld; have hHeld := hHeld2; clear hHeld2; (try simp only [Act.put, List.setIfInBounds_toArray, List.set_cons_zero, List.set_cons_succ]))
        (refine wpAnyH_ready (rs := [10]) (by kernel_rfl) (by simp) ?_; refine AllReadyH.cons rfl (fun K hK => ?_) AllReadyH.nil; go_simp; go_at_call 32; refine (ListText_calls _ 3 _ (l3 no ma fe) _ (by first | exact row_l3 (Blk.new _ _ _) | exact row_l3 (Blk.new _ _ _).drew) (by omega) (And.left (And.right hHeld))).mono ?_; rw [hlt3]; rintro e wd ⟨rfl, hb⟩; refine hK.out _ _ (by obtain ⟨x0_, x1_, x2_, x3_, x4_, x5_, x6_, x7_⟩ := hHeld; exact ⟨x0_.trans (hb.mono x0_.size), x1_.keep hb, x2_.keep hb, x3_.keep hb, cell_keep hb x4_, cell_keep hb x5_, cell_keep hb x6_, cell_keep hb x7_⟩) (fun hHeld2 => ?_); clear hK K hHeld hb; have hHeld := hHeld2; clear hHeld2; (try simp only [Act.put, List.setIfInBounds_toArray, List.set_cons_zero, List.set_cons_succ]))
        refine take_yes (i := 11) (d := 38) (v := ?_) _ rfl rfl (by kernel_rfl) (by kernel_rfl) (by kernel_rfl) (fun _ _ _ _ h => h) (by rfl) ?_ (by assumption) ?_
        rotate_left 1
        · ((intro w hSw; (try dsimp only at hSw); go_simp) <;> (try with_reducible rfl))
        (try simp only [Act.put, List.setIfInBounds_toArray, List.set_cons_zero, List.set_cons_succ])
        refine take_yes (i := 12) (d := 39) (v := ?_) _ rfl rfl (by kernel_rfl) (by kernel_rfl) (by kernel_rfl) (fun _ _ _ _ h => h) (by rfl) ?_ (by assumption) ?_
        rotate_left 1
        · ((intro w hSw; (try dsimp only at hSw); go_simp) <;> (try with_reducible rfl))
        (try simp only [Act.put, List.setIfInBounds_toArray, List.set_cons_zero, List.set_cons_succ])
        (refine wpAnyH_ready (rs := [14]) (by kernel_rfl) (by simp) ?_; refine AllReadyH.cons rfl (fun K hK => ?_) AllReadyH.nil; go_simp; go_at_call 33; refine (joinSh HCUR.out hHeld.2.2.2.1 hcap (by omega) HSL.out).mono ?_; rintro e wd ⟨rfl, hb⟩; refine hK.out _ _ (by obtain ⟨x0_, x1_, x2_, x3_, x4_, x5_, x6_, x7_⟩ := hHeld; exact ⟨x0_.trans (hb.mono x0_.size), x1_.keep hb, x2_.keep hb, x3_.keep hb, cell_keep hb x4_, cell_keep hb x5_, cell_keep hb x6_, cell_keep hb x7_⟩) (fun hHeld2 => ?_); clear hK K hHeld hb; have hHeld := hHeld2; clear hHeld2; (try simp only [Act.put, List.setIfInBounds_toArray, List.set_cons_zero, List.set_cons_succ]))
        refine take_yes (i := 15) (d := 42) (v := ?_) _ rfl rfl (by kernel_rfl) (by kernel_rfl) (by kernel_rfl) (fun _ _ _ _ h => h) (by rfl) ?_ (by assumption) ?_
        rotate_left 1
        · ((intro w hSw; (try dsimp only at hSw); go_simp) <;> (try with_reducible rfl))
        (try simp only [Act.put, List.setIfInBounds_toArray, List.set_cons_zero, List.set_cons_succ])
        refine take_yes (i := 16) (d := 2) (v := ?_) _ rfl rfl (by kernel_rfl) (by kernel_rfl) (by kernel_rfl) (fun _ _ _ _ h => h) (by rfl) ?_ (by assumption) ?_
        rotate_left 1
        · ((intro w hSw; (try dsimp only at hSw); go_simp) <;> (try with_reducible rfl))
        (try simp only [Act.put, List.setIfInBounds_toArray, List.set_cons_zero, List.set_cons_succ])
        refine wpAnyH_done (by kernel_rfl) ?_ _
        obtain ⟨z0, z1, z2, z3, z4, z5, z6, z7⟩ := hHeld
        go_wp2
        go_ret
        exact ⟨rfl, hb1.trans (z0.mono hw1)⟩
end Go.Proofs.YticnpibkpfpojaaGreatDoor

/- What reading numbers needs of the library's variables. -/
namespace Go.Proofs.YticnpibkpfpojaaGreatDoor
set_option linter.unusedVariables false
open Go.RowKit
theorem var_kept {P : Program} {B g : Nat} {W W' : World} {n : String} {cs : Array Value} (h : Below B W W') (hg : P.globalNamed n = some g) (hgB : g < B) (hv : W.var? P n = some cs) : W'.var? P n = some cs := by
  unfold World.var? at hv ⊢
  simp only [hg, Option.bind_some] at hv ⊢
  rw [h.block g hgB]
  exact hv
theorem var_in {P : Program} {g : Nat} {W : World} {n : String} {cs : Array Value} (hg : P.globalNamed n = some g) (hv : W.var? P n = some cs) : g < W.heap.size := by
  unfold World.var? at hv
  simp only [hg, Option.bind_some] at hv
  rcases Nat.lt_or_ge g W.heap.size with h | h
  · exact h
  · rw [Array.getElem?_eq_none (by omega)] at hv
    cases hv
/-- the table of powers of ten, the greatest length of a search by words, and the two errors are laid -/
def HasLib (w : World) : Prop := HasPow w ∧ (∃ m, w.cell? ⟨0, 0, none⟩ = some (.int .i64 m)) ∧ (∃ tp p, w.var? Tryz.prog Tryz.var_strconv_ErrSyntax = some #[.iface tp p]) ∧ ∃ tp p, w.var? Tryz.prog Tryz.var_strconv_ErrRange = some #[.iface tp p]
theorem gSyn : Tryz.prog.globalNamed Tryz.var_strconv_ErrSyntax = some 1 := by kernel_rfl
theorem gRan : Tryz.prog.globalNamed Tryz.var_strconv_ErrRange = some 2 := by kernel_rfl
theorem HasLib.keep {w w' : World} (h : HasLib w) (hb : Below w.heap.size w w') : HasLib w' := by
  obtain ⟨h1, ⟨m, h2⟩, ⟨t3, p3, h3⟩, t4, p4, h4⟩ := h
  exact ⟨h1.keep hb, ⟨m, (hb.cell (p := ⟨_, 0, none⟩) (cell_lt h2)).trans h2⟩, ⟨t3, p3, var_kept hb gSyn (var_in gSyn h3) h3⟩, t4, p4, var_kept hb gRan (var_in gRan h4) h4⟩
theorem HasLib.drewN {w : World} (h : HasLib w) (n : Nat) : HasLib (w.drewN n) := h.keep (below_drewN (Below.refl _ _) n)
theorem HasLib.alloc {w : World} (h : HasLib w) (o : Obj) : HasLib (w.alloc o) := h.keep ((Below.refl _ _).alloc (Nat.le_refl _) _)
theorem int_of_shape {P : Program} {k : IntKind} {w : World} {g : Nat} {t : TypeId} {zero : Array Value} (h : w.ShapedOpen P) (hg : g < P.globals.size)
    (h0 : ((begin P (fun _ _ => 0) default).world.heap[g]?).bind Obj.row? = some (zero, t)) (hz : zero.size = 1)
    (hb : P.buildable t = true) (hc : P.cellTypes P.depth t = some [t]) (hu : P.underlying t = some (.int k)) : ∃ n, w.cell? ⟨g, 0, none⟩ = some (.int k n) := by
  obtain ⟨cs, hh, hs, hr⟩ := h.1 g zero t hg h0
  obtain ⟨ts, hts, _, hall⟩ := hr hb
  rw [hc] at hts
  cases hts
  have h1 : 0 < cs.size := by omega
  obtain ⟨u, hu', hok⟩ := hall 0 cs[0] (by simp [h1])
  have : u = t := by simpa using hu'.symm
  subst this
  have hcell : w.cell? ⟨g, 0, none⟩ = some cs[0] := by simp [World.cell?, hh, h1]
  rw [hcell]
  unfold Cell.ok at hok
  rw [hu] at hok
  cases hv : cs[0] <;> rw [hv] at hok <;> first | (obtain ⟨rfl, -⟩ := hok; exact ⟨_, rfl⟩) | simp at hok
theorem hasMax {w : World} (h : w.ShapedOpen Tryz.prog) : ∃ m, w.cell? ⟨0, 0, none⟩ = some (.int .i64 m) :=
  int_of_shape (t := 3) (zero := #[.int .i64 0]) h (of_decide_eq_true (by kernel_rfl)) (by kernel_rfl) rfl (by kernel_rfl) (by kernel_rfl) (by kernel_rfl)
end Go.Proofs.YticnpibkpfpojaaGreatDoor

/- Numbers in decimal, read back: which texts spell a number as it is written. No program in sight. -/
namespace Go.Proofs.YticnpibkpfpojaaGreatDoor
set_option linter.unusedVariables false
open Go.Lib
theorem decFrom_app (l m : List UInt8) : ∀ a, decFrom a (l ++ m) = (decFrom a l).bind fun v => decFrom v m := by
  induction l with
  | nil => intro a; rfl
  | cons b r ih =>
    intro a
    simp only [List.cons_append, decFrom]
    cases digitVal b with
    | none => rfl
    | some d => exact ih _
theorem digitVal_dig {d : Nat} (h : d < 10) : digitVal (UInt8.ofNat (48 + d)) = some d := by
  have e : (UInt8.ofNat (48 + d)).toNat = 48 + d := by simp [UInt8.toNat_ofNat']; omega
  unfold digitVal
  rw [e, if_pos (by omega)]
  simp
theorem decFrom_digits (u : Nat) : decFrom 0 (decDigits u) = some u := by
  induction u using Nat.strongRecOn with
  | ind u ih =>
    by_cases h : u < 10
    · rw [decDigits_one h]
      simp only [decFrom, digitVal_dig h, Nat.zero_mul, Nat.zero_add]
    · rw [decDigits, dif_neg h, decFrom_app, ih (u / 10) (by omega)]
      simp only [Option.bind_some, decFrom, digitVal_dig (show u % 10 < 10 by omega)]
      congr 1
      omega
theorem decDigits_ne (u : Nat) : decDigits u ≠ [] := by
  rw [decDigits]
  split <;> simp
theorem digits_byte (u : Nat) : ∀ b ∈ decDigits u, 48 ≤ b.toNat ∧ b.toNat ≤ 57 := by
  intro b hb
  obtain ⟨k, hk, e⟩ := List.getElem_of_mem hb
  obtain ⟨d, hd⟩ := digit_of_decFrom _ 0 u (decFrom_digits u) k b (by rw [List.getElem?_eq_getElem hk, e])
  have := digitVal_eq hd
  omega
theorem decDigits_zero : decDigits 0 = [48] := by rw [decDigits_one (by omega)]; rfl
theorem head_append_ne {α : Type} {l m : List α} (h : l ≠ []) : (l ++ m).head? = l.head? := by
  cases l with
  | nil => exact absurd rfl h
  | cons a r => rfl
theorem digits_head (u : Nat) (h : 0 < u) : (decDigits u).head? ≠ some 48 := by
  induction u using Nat.strongRecOn with
  | ind u ih =>
    by_cases h1 : u < 10
    · rw [decDigits_one h1]
      intro e
      have e2 : UInt8.ofNat (48 + u) = 48 := by simpa using e
      have e3 := congrArg UInt8.toNat e2
      simp [UInt8.toNat_ofNat'] at e3
      omega
    · rw [decDigits, dif_neg h1, head_append_ne (decDigits_ne _)]
      exact ih (u / 10) (by omega) (by omega)
/-- digits without a 0 ahead are the digits of the number that they spell -/
theorem digits_canon (l : List UInt8) : ∀ v, l ≠ [] → decFrom 0 l = some v → (l.head? ≠ some 48 ∨ l.length = 1) → decDigits v = l := by
  induction hn : l.length generalizing l with
  | zero => intro v h; exact absurd (List.eq_nil_of_length_eq_zero hn) h
  | succ n ih =>
    intro v hne hv hh
    have hsp := (List.dropLast_concat_getLast hne).symm
    obtain ⟨r, c, rfl⟩ : ∃ r c, l = r ++ [c] := ⟨_, _, hsp⟩
    rw [decFrom_app] at hv
    cases hr : decFrom 0 r with
    | none => rw [hr] at hv; cases hv
    | some a =>
      rw [hr] at hv
      simp only [Option.bind_some, decFrom] at hv
      cases hd : digitVal c with
      | none => rw [hd] at hv; cases hv
      | some d =>
        rw [hd] at hv
        have hv2 : a * 10 + d = v := by simpa using hv
        obtain ⟨q1, q2, q3⟩ := digitVal_eq hd
        have hc : c = UInt8.ofNat (48 + d) := by
          apply UInt8.toNat_inj.1
          rw [UInt8.toNat_ofNat']
          omega
        have hd10 : d < 10 := by omega
        by_cases hr0 : r = []
        · subst hr0
          have ha : a = 0 := by simpa [decFrom] using hr.symm
          subst ha
          rw [← hv2, decDigits_one (by omega), hc]
          simp
        · have hrl : r.length = n := by simpa using hn
          have hh2 : r.head? ≠ some 48 := by
            rcases hh with hh | hh
            · rwa [head_append_ne hr0] at hh
            · have : r.length = 0 := by omega
              exact absurd (List.eq_nil_of_length_eq_zero this) hr0
          have e := ih r hrl a hr0 hr (Or.inl hh2)
          have ha : 0 < a := by
            rcases Nat.eq_zero_or_pos a with h0 | h0
            · rw [h0, decDigits_zero] at e
              rw [← e] at hh2
              exact absurd rfl hh2
            · exact h0
          rw [decDigits, dif_neg (by omega), show v / 10 = a by omega, e, show v % 10 = d by omega, hc]
theorem digits_lt {u : Nat} (h : (decDigits u).length ≤ 18) : u < 1000000000000000000 := decFrom_lt18 (decFrom_digits u) h
theorem digits_le {u : Nat} (h : u < 1000000000000000000) : (decDigits u).length ≤ 18 := by
  rw [decDigits_length]
  rcases Nat.lt_or_ge (nDigits u) 19 with h1 | h1
  · omega
  · obtain ⟨k, hk⟩ : ∃ k, nDigits u = k + 1 := ⟨nDigits u - 1, by omega⟩
    have h2 : 10 ^ k ≤ u := by
      rcases Nat.lt_or_ge u (10 ^ k) with h3 | h3
      · exfalso
        rcases Nat.eq_zero_or_pos u with h0 | h0
        · subst h0; have := nDigits_small (u := 0) (by omega); omega
        · have : ∀ k u, 0 < u → u < 10 ^ k → nDigits u ≤ k := by
            intro k
            induction k with
            | zero => intro u a b; simp at b; omega
            | succ k ih =>
              intro u a b
              by_cases hu : u < 10
              · rw [nDigits_small hu]; omega
              · rw [nDigits_big hu]
                have := ih (u / 10) (by omega) (by rw [Nat.pow_succ] at b; omega)
                omega
          have := this k u h0 h3
          omega
      · exact h3
    have h4 : 10 ^ 18 ≤ 10 ^ k := Nat.pow_le_pow_right (by omega) (by omega)
    have h5 : (10 : Nat) ^ 18 = 1000000000000000000 := by decide
    omega
def numR (n : Int) : Prop := -1000000000000000000 < n ∧ n < 1000000000000000000
theorem itoa_cases (n : Int) : (0 ≤ n ∧ ∃ u : Nat, n = u ∧ itoa n = decDigits u) ∨ (n < 0 ∧ ∃ u : Nat, 0 < u ∧ n = -(u : Int) ∧ itoa n = 45 :: decDigits u) := by
  by_cases h : 0 ≤ n
  · obtain ⟨u, rfl⟩ := Int.eq_ofNat_of_zero_le h
    exact Or.inl ⟨h, u, rfl, itoa_nonneg u⟩
  · obtain ⟨u, hu⟩ := Int.eq_ofNat_of_zero_le (show 0 ≤ -n by omega)
    refine Or.inr ⟨by omega, u, by omega, by omega, ?_⟩
    rw [show n = -(u : Int) by omega]
    exact itoa_neg u (by omega)
theorem atoi_itoa (n : Int) : atoi (itoa n) = some n := by
  rcases itoa_cases n with ⟨_, u, rfl, e⟩ | ⟨_, u, hu, rfl, e⟩
  · rw [e]
    have hne := decDigits_ne u
    cases hl : decDigits u with
    | nil => exact absurd hl hne
    | cons b r =>
      have hb := digits_byte u b (by rw [hl]; simp)
      have h1 : (b == 45) = false := by
        apply beq_eq_false_iff_ne.2
        intro q; subst q; revert hb; decide
      have h2 : (b == 43) = false := by
        apply beq_eq_false_iff_ne.2
        intro q; subst q; revert hb; decide
      have h3 := decFrom_digits u
      rw [hl] at h3
      simp [atoi, h1, h2, decNat, h3]
  · rw [e]
    have h3 := decFrom_digits u
    have hne := decDigits_ne u
    simp [atoi, decNat, h3, hne]
theorem parse_itoa {n : Int} (h : numR n) : parseIntB 64 (itoa n) = .ok n := by
  rw [parseIntB_64]
  unfold numR at h
  rcases itoa_cases n with ⟨_, u, rfl, e⟩ | ⟨_, u, hu, rfl, e⟩
  · have hl : (itoa (u : Int)).length ≤ 18 := by rw [e]; exact digits_le (by omega)
    rw [atoiAll_short _ hl, atoi_itoa]
    rfl
  · have hl : (decDigits u).length ≤ 18 := digits_le (by omega)
    rw [e, atoiAll_minus, signed_short hl]
    simp [decNat, decDigits_ne, decFrom_digits, NumEnd.ofOption]
/-- the number that a text spells as it is written; none: it is no such text, or one of more than 18 digits -/
noncomputable def numO (l : List UInt8) : Option Int := @ite _ (∃ n, numR n ∧ itoa n = l) (Classical.propDecidable _) (atoi l) none
theorem numO_itoa {n : Int} (h : numR n) : numO (itoa n) = some n := by
  unfold numO
  rw [if_pos ⟨n, h, rfl⟩, atoi_itoa]
theorem numO_some {l : List UInt8} {n : Int} (h : numO l = some n) : numR n ∧ itoa n = l := by
  unfold numO at h
  split at h
  · rename_i hq
    obtain ⟨m, h1, rfl⟩ := hq
    rw [atoi_itoa] at h
    obtain rfl : m = n := by simpa using h
    exact ⟨h1, rfl⟩
  · cases h
theorem numO_none {l : List UInt8} (h : ∀ n, numR n → itoa n ≠ l) : numO l = none := by
  unfold numO
  rw [if_neg (fun ⟨n, a, b⟩ => h n a b)]
/-- what stands behind a '-' -/
def magL (l : List UInt8) : List UInt8 := trimPrefix l [45]
theorem mag_itoa (n : Int) : ∃ u : Nat, magL (itoa n) = decDigits u ∧ (numR n ↔ u < 1000000000000000000) := by
  unfold numR
  rcases itoa_cases n with ⟨_, u, rfl, e⟩ | ⟨_, u, hu, rfl, e⟩
  · refine ⟨u, ?_, by omega⟩
    rw [e]
    have hne := decDigits_ne u
    cases hl : decDigits u with
    | nil => exact absurd hl hne
    | cons b r =>
      have hb := digits_byte u b (by rw [hl]; simp)
      have h1 : ¬ 45 = b := by intro q; subst q; revert hb; decide
      simp [magL, trimPrefix, hasPrefix, h1]
  · refine ⟨u, ?_, by omega⟩
    rw [e]
    simp [magL, trimPrefix, hasPrefix]
theorem numO_long {l : List UInt8} (h : (magL l).length < 1 ∨ 18 < (magL l).length) : numO l = none := numO_none fun n hn e => by
  obtain ⟨u, h1, h2⟩ := mag_itoa n
  rw [e] at h1
  rw [h1] at h
  have := digits_le (h2.1 hn)
  have h3 : (decDigits u).length ≠ 0 := fun q => decDigits_ne u (List.eq_nil_of_length_eq_zero q)
  omega
theorem numO_parsed {l : List UInt8} {v : Int} (h : parseIntB 64 l = .ok v) (hs : (magL l).length ≤ 18) : numO l = if itoa v = l then some v else none := by
  by_cases e : itoa v = l
  · rw [if_pos e]
    obtain ⟨u, h1, h2⟩ := mag_itoa v
    rw [e] at h1
    rw [h1] at hs
    rw [← e]
    exact numO_itoa (h2.2 (digits_lt hs))
  · rw [if_neg e]
    refine numO_none fun n hn q => ?_
    have h3 := parse_itoa hn
    rw [q, h] at h3
    have : v = n := by injection h3
    exact e (this ▸ q)
theorem numO_unparsed {l : List UInt8} (h : ∀ v, parseIntB 64 l ≠ .ok v) : numO l = none := numO_none fun n hn q => h n (q ▸ parse_itoa hn)
/-- .. found digit by digit -/
theorem numO_digits {m : List UInt8} {v : Nat} (hne : m ≠ []) (hv : decFrom 0 m = some v) (hl : m.length ≤ 18) (hh : m.head? ≠ some 48 ∨ m.length = 1) : numO m = some (v : Int) := by
  have e := digits_canon m v hne hv hh
  have hb := digits_lt (u := v) (by rw [e]; exact hl)
  have := numO_itoa (n := (v : Int)) ⟨by omega, by omega⟩
  rwa [itoa_nonneg, e] at this
theorem numO_minus {m : List UInt8} {v : Nat} (hne : m ≠ []) (hv : decFrom 0 m = some v) (hl : m.length ≤ 18) (hh : m.head? ≠ some 48) : numO (45 :: m) = some (-(v : Int)) := by
  have e := digits_canon m v hne hv (Or.inl hh)
  have hb := digits_lt (u := v) (by rw [e]; exact hl)
  have h0 : 1 ≤ v := by
    rcases Nat.eq_zero_or_pos v with q | q
    · subst q
      rw [decDigits_zero] at e
      rw [← e] at hh
      exact absurd rfl hh
    · exact q
  have := numO_itoa (n := -(v : Int)) ⟨by omega, by omega⟩
  rwa [itoa_neg v h0, e] at this
theorem numO_bad {l : List UInt8} {k : Nat} {b : UInt8} (hk : (magL l)[k]? = some b) (hb : b.toNat < 48 ∨ 57 < b.toNat) : numO l = none := numO_none fun n hn e => by
  obtain ⟨u, h1, h2⟩ := mag_itoa n
  rw [e] at h1
  rw [h1] at hk
  have := digits_byte u b (List.mem_of_getElem? hk)
  omega
theorem numO_zero {l : List UInt8} (h : (magL l).head? = some 48) (hl : 1 < l.length) : numO l = none := numO_none fun n hn e => by
  rcases itoa_cases n with ⟨_, u, rfl, q⟩ | ⟨_, u, hu, rfl, q⟩
  · obtain ⟨u2, h1, -⟩ := mag_itoa (u : Int)
    rw [e] at h1 q
    have hm : magL l = l := by
      rw [q]
      have hne := decDigits_ne u
      cases hd : decDigits u with
      | nil => exact absurd hd hne
      | cons b r =>
        have hb := digits_byte u b (by rw [hd]; simp)
        have h1 : ¬ 45 = b := by intro q; subst q; revert hb; decide
        simp [magL, trimPrefix, hasPrefix, h1]
    rw [hm, q] at h
    rcases Nat.eq_zero_or_pos u with h0 | h0
    · subst h0
      rw [q, decDigits_zero] at hl
      simp at hl
    · exact digits_head u h0 h
  · rw [← e, q] at h
    have : magL (45 :: decDigits u) = decDigits u := by simp [magL, trimPrefix, hasPrefix]
    rw [this] at h
    exact digits_head u hu h
end Go.Proofs.YticnpibkpfpojaaGreatDoor

/- Texts cut at a byte, lists of numbers as texts and back. No program in sight. -/
namespace Go.Proofs.YticnpibkpfpojaaGreatDoor
set_option linter.unusedVariables false
open Go.Lib
/-- the parts of a text between the bytes c -/
def splC (c : UInt8) : List UInt8 → List (List UInt8)
  | [] => [[]]
  | b :: r => if b = c then [] :: splC c r else match splC c r with | [] => [[b]] | h :: t => (b :: h) :: t
theorem splC_ne (c : UInt8) (l : List UInt8) : splC c l ≠ [] := by
  cases l with
  | nil => simp [splC]
  | cons b r =>
    unfold splC
    split
    · simp
    · split <;> simp
theorem splC_app {c : UInt8} {a r : List UInt8} (h : c ∉ a) : splC c (a ++ c :: r) = a :: splC c r := by
  induction a with
  | nil => simp [splC]
  | cons b a ih =>
    have hb : ¬ b = c := fun e => h (by simp [e])
    have e := ih (fun q => h (List.mem_cons_of_mem _ q))
    simp only [List.cons_append, splC, if_neg hb, e]
theorem splC_none {c : UInt8} {a : List UInt8} (h : c ∉ a) : splC c a = [a] := by
  induction a with
  | nil => rfl
  | cons b a ih =>
    have hb : ¬ b = c := fun e => h (by simp [e])
    have e := ih (fun q => h (List.mem_cons_of_mem _ q))
    simp only [splC, if_neg hb, e]
theorem cut_cases (c : UInt8) (l : List UInt8) : c ∉ l ∨ ∃ a r, l = a ++ c :: r ∧ c ∉ a := by
  induction l with
  | nil => exact Or.inl (by simp)
  | cons b l ih =>
    by_cases hb : b = c
    · exact Or.inr ⟨[], l, by simp [hb], by simp⟩
    · rcases ih with h | ⟨a, r, e, h⟩
      · exact Or.inl (by simp only [List.mem_cons, not_or]; exact ⟨fun q => hb q.symm, h⟩)
      · exact Or.inr ⟨b :: a, r, by rw [e]; rfl, by simp only [List.mem_cons, not_or]; exact ⟨fun q => hb q.symm, h⟩⟩
theorem index_app {c : UInt8} {a r : List UInt8} (h : c ∉ a) : index (a ++ c :: r) [c] = (a.length : Int) := by
  induction a with
  | nil => simp [index, List.isPrefixOf]
  | cons b a ih =>
    have hb : ¬ c = b := fun e => h (by simp [e])
    have e := ih (fun q => h (List.mem_cons_of_mem _ q))
    have hp : ([c] : List UInt8).isPrefixOf (b :: (a ++ c :: r)) = false := by simp [List.isPrefixOf, hb]
    have hm : ((a.length : Int) == -1) = false := by rw [beq_eq_false_iff_ne]; omega
    rw [List.cons_append, index, hp, e, hm]
    simp
theorem index_no {c : UInt8} {a : List UInt8} (h : c ∉ a) : index a [c] = -1 := by
  induction a with
  | nil => simp [index]
  | cons b a ih =>
    have hb : ¬ c = b := fun e => h (by simp [e])
    have e := ih (fun q => h (List.mem_cons_of_mem _ q))
    have hp : ([c] : List UInt8).isPrefixOf (b :: a) = false := by simp [List.isPrefixOf, hb]
    rw [index, hp, e]
    simp
theorem cut_app {c : UInt8} {a r : List UInt8} (h : c ∉ a) : cut (a ++ c :: r) [c] = (a, r, true) := by
  unfold cut
  rw [index_app h, if_pos (by omega)]
  simp
theorem cut_no {c : UInt8} {a : List UInt8} (h : c ∉ a) : cut a [c] = (a, [], false) := by
  unfold cut
  rw [index_no h, if_neg (by omega)]
theorem split_eq (c : UInt8) (l : List UInt8) : splitK [c] 0 (l.count c) l = splC c l := by
  induction hn : l.length using Nat.strongRecOn generalizing l with
  | ind n ih =>
    rcases cut_cases c l with h | ⟨a, r, rfl, h⟩
    · rw [List.count_eq_zero.2 h, splC_none h]
      rfl
    · have hc : (a ++ c :: r).count c = r.count c + 1 := by
        rw [List.count_append, List.count_eq_zero.2 h, List.count_cons_self]
        omega
      have hm : ¬ (((a.length : Int) == -1) = true) := by simp <;> omega
      rw [hc, splitK, index_app h, if_neg hm, splC_app h]
      have := ih r.length (by rw [← hn]; simp; omega) r rfl
      simpa using this
theorem splC_one {c : UInt8} {l w : List UInt8} (h : splC c l = [w]) : w = l ∧ c ∉ l := by
  rcases cut_cases c l with h1 | ⟨a, r, rfl, h1⟩
  · rw [splC_none h1] at h
    exact ⟨by simpa using h.symm, h1⟩
  · rw [splC_app h1] at h
    have h2 : splC c r = [] := by simpa using (List.cons.inj h).2
    exact absurd h2 (splC_ne c r)
theorem splC_two {c : UInt8} {l v w : List UInt8} (h : splC c l = [v, w]) : l = v ++ c :: w ∧ c ∉ v ∧ c ∉ w := by
  rcases cut_cases c l with h1 | ⟨a, r, rfl, h1⟩
  · rw [splC_none h1] at h
    have := congrArg List.length h
    simp at this
  · rw [splC_app h1] at h
    obtain ⟨e1, e2⟩ := List.cons.inj h
    obtain ⟨rfl, h3⟩ := splC_one e2
    subst e1
    exact ⟨rfl, h1, h3⟩
theorem splC_three {c : UInt8} {l u v w : List UInt8} (h : splC c l = [u, v, w]) : l = u ++ c :: (v ++ c :: w) ∧ c ∉ u ∧ c ∉ v ∧ c ∉ w := by
  rcases cut_cases c l with h1 | ⟨a, r, rfl, h1⟩
  · rw [splC_none h1] at h
    have := congrArg List.length h
    simp at this
  · rw [splC_app h1] at h
    obtain ⟨e1, e2⟩ := List.cons.inj h
    obtain ⟨rfl, h3, h4⟩ := splC_two e2
    subst e1
    exact ⟨rfl, h1, h3, h4⟩
theorem joinTail_cons (sep x : List UInt8) (r : List (List UInt8)) : joinTail sep (x :: r) = sep ++ x ++ joinTail sep r := by simp [joinTail]
theorem splC_join {c : UInt8} : ∀ {r : List (List UInt8)} {x : List UInt8}, (∀ y ∈ x :: r, c ∉ y) → splC c (join (x :: r) [c]) = x :: r
  | [], x, h => by rw [join_one, splC_none (h x (by simp))]
  | y :: r, x, h => by
    have ih := splC_join (r := r) (x := y) (fun z hz => h z (List.mem_cons_of_mem _ hz))
    rw [join_cons, joinTail_cons, show x ++ ([c] ++ y ++ joinTail [c] r) = x ++ c :: (y ++ joinTail [c] r) by simp, splC_app (h x (by simp)), ← join_cons, ih]
theorem join_splC (c : UInt8) (l : List UInt8) : join (splC c l) [c] = l := by
  induction hn : l.length using Nat.strongRecOn generalizing l with
  | ind n ih =>
    rcases cut_cases c l with h | ⟨a, r, rfl, h⟩
    · rw [splC_none h, join_one]
    · have e := ih r.length (by rw [← hn]; simp; omega) r rfl
      rw [splC_app h, join_cons]
      cases hs : splC c r with
      | nil => exact absurd hs (splC_ne c r)
      | cons x t =>
        rw [hs, join_cons] at e
        rw [joinTail_cons]
        simp [← e]
theorem splC_mem {c : UInt8} {l : List UInt8} : ∀ x ∈ splC c l, c ∉ x := by
  induction hn : l.length using Nat.strongRecOn generalizing l with
  | ind n ih =>
    rcases cut_cases c l with h | ⟨a, r, rfl, h⟩
    · rw [splC_none h]
      intro x hx
      obtain rfl : x = l := by simpa using hx
      exact h
    · have e := ih r.length (by rw [← hn]; simp; omega) (l := r) rfl
      rw [splC_app h]
      intro x hx
      rcases List.mem_cons.1 hx with rfl | hx
      · exact h
      · exact e x hx
theorem itoa_mem {n : Int} {b : UInt8} (h : b ∈ itoa n) : b.toNat = 45 ∨ (48 ≤ b.toNat ∧ b.toNat ≤ 57) := by
  rcases itoa_cases n with ⟨_, u, rfl, e⟩ | ⟨_, u, hu, rfl, e⟩
  · rw [e] at h
    exact Or.inr (digits_byte u b h)
  · rw [e] at h
    rcases List.mem_cons.1 h with rfl | h
    · exact Or.inl rfl
    · exact Or.inr (digits_byte u b h)
theorem itoa_no {n : Int} {c : UInt8} (h1 : c.toNat ≠ 45) (h2 : c.toNat < 48 ∨ 57 < c.toNat) : c ∉ itoa n := fun h => by
  have := itoa_mem h
  omega
theorem itoa_ne (n : Int) : itoa n ≠ [] := by
  rcases itoa_cases n with ⟨_, u, rfl, e⟩ | ⟨_, u, hu, rfl, e⟩
  · rw [e]; exact decDigits_ne u
  · rw [e]; simp
theorem itoa_inj {a b : Int} (h : itoa a = itoa b) : a = b := by
  have := atoi_itoa a
  rw [h, atoi_itoa] at this
  simpa using this.symm
theorem itoa_dash {n : Int} : itoa n ≠ [45] := fun h => by
  rcases itoa_cases n with ⟨_, u, rfl, e⟩ | ⟨_, u, hu, rfl, e⟩
  · rw [e] at h
    have := digits_byte u 45 (by rw [h]; simp)
    have e45 : (45 : UInt8).toNat = 45 := rfl
    omega
  · rw [e] at h
    have h2 : decDigits u = [] := by simpa using h
    exact decDigits_ne u h2
/-- the numbers of a list, as text -/
def lText (xs : List Int) : List UInt8 := if xs = [] then [45] else join (xs.map itoa) [44]
def lFits (xs : List Int) : Prop := xs.length ≤ 64 ∧ ∀ x ∈ xs, -1000000000000 ≤ x ∧ x ≤ 1000000000000
/-- the list of which a text is the text, if there is one -/
noncomputable def listO (l : List UInt8) : Option (List Int) := @dite _ (∃ xs, lFits xs ∧ lText xs = l) (Classical.propDecidable _) (fun h => some h.choose) (fun _ => none)
theorem lText_parts {xs : List Int} (h : xs ≠ []) : splC 44 (lText xs) = xs.map itoa := by
  unfold lText
  rw [if_neg h]
  cases xs with
  | nil => exact absurd rfl h
  | cons x r =>
    rw [List.map_cons]
    refine splC_join fun y hy => ?_
    have : ∃ z, y = itoa z := by
      rw [← List.map_cons] at hy
      obtain ⟨z, -, rfl⟩ := List.mem_map.1 hy
      exact ⟨z, rfl⟩
    obtain ⟨z, rfl⟩ := this
    exact itoa_no (by decide) (by decide)
theorem map_itoa_inj : ∀ {xs ys : List Int}, xs.map itoa = ys.map itoa → xs = ys
  | [], [], _ => rfl
  | [], _ :: _, h => by simp at h
  | _ :: _, [], h => by simp at h
  | x :: xs, y :: ys, h => by
    rw [List.map_cons, List.map_cons] at h
    obtain ⟨h1, h2⟩ := List.cons.inj h
    rw [itoa_inj h1, map_itoa_inj h2]
theorem lText_dash {xs : List Int} (h : lText xs = [45]) : xs = [] := by
  by_cases h0 : xs = []
  · exact h0
  · exfalso
    have e := lText_parts h0
    rw [h, splC_none (by decide)] at e
    cases xs with
    | nil => exact h0 rfl
    | cons x r =>
      rw [List.map_cons] at e
      exact itoa_dash (List.cons.inj e).1.symm
theorem lText_inj {xs ys : List Int} (h : lText xs = lText ys) : xs = ys := by
  by_cases h1 : xs = []
  · subst h1
    exact (lText_dash (by rw [← h]; rfl)).symm
  · by_cases h2 : ys = []
    · subst h2
      exact lText_dash (by rw [h]; rfl)
    · have e1 := lText_parts h1
      rw [h, lText_parts h2] at e1
      exact (map_itoa_inj e1).symm
theorem listO_some {l : List UInt8} {xs : List Int} : listO l = some xs ↔ lFits xs ∧ lText xs = l := by
  unfold listO
  constructor
  · intro h
    split at h
    · rename_i hq
      obtain rfl : hq.choose = xs := by simpa using h
      exact hq.choose_spec
    · cases h
  · rintro ⟨h1, h2⟩
    have hq : ∃ xs, lFits xs ∧ lText xs = l := ⟨xs, h1, h2⟩
    rw [dif_pos hq]
    congr 1
    exact lText_inj (hq.choose_spec.2.trans h2.symm)
theorem listO_none {l : List UInt8} (h : ∀ xs, lFits xs → lText xs ≠ l) : listO l = none := by
  cases e : listO l with
  | none => rfl
  | some xs =>
    obtain ⟨h1, h2⟩ := listO_some.1 e
    exact absurd h2 (h xs h1)
theorem listO_dash : listO [45] = some [] := listO_some.2 ⟨⟨by simp, by simp⟩, rfl⟩
/-- .. by its parts -/
theorem listO_parts {l : List UInt8} {xs : List Int} (h0 : l ≠ [45]) (h : listO l = some xs) : xs ≠ [] ∧ splC 44 l = xs.map itoa := by
  obtain ⟨h1, h2⟩ := listO_some.1 h
  have hne : xs ≠ [] := by
    rintro rfl
    exact h0 h2.symm
  exact ⟨hne, by rw [← h2, lText_parts hne]⟩
theorem listO_long {l : List UInt8} (h0 : l ≠ [45]) (h : 64 < (splC 44 l).length) : listO l = none := by
  cases e : listO l with
  | none => rfl
  | some xs =>
    obtain ⟨h1, h2⟩ := listO_parts h0 e
    have := (listO_some.1 e).1.1
    rw [h2, List.length_map] at h
    omega
theorem numR_of {x : Int} (h : -1000000000000 ≤ x ∧ x ≤ 1000000000000) : numR x := ⟨by omega, by omega⟩
theorem listO_bad {l q : List UInt8} (h0 : l ≠ [45]) (hq : q ∈ splC 44 l) (h : ∀ x, numO q = some x → ¬ (-1000000000000 ≤ x ∧ x ≤ 1000000000000)) : listO l = none := by
  cases e : listO l with
  | none => rfl
  | some xs =>
    obtain ⟨h1, h2⟩ := listO_parts h0 e
    rw [h2] at hq
    obtain ⟨x, hx, rfl⟩ := List.mem_map.1 hq
    have hr := (listO_some.1 e).1.2 x hx
    exact absurd hr (h x (numO_itoa (numR_of hr)))
theorem listO_good {l : List UInt8} {xs : List Int} (h0 : l ≠ [45]) (hx : splC 44 l = xs.map itoa) (hf : lFits xs) : listO l = some xs := by
  refine listO_some.2 ⟨hf, ?_⟩
  have hne : xs ≠ [] := by
    rintro rfl
    exact splC_ne _ _ hx
  unfold lText
  rw [if_neg hne, ← hx, join_splC]
/-- the number of a text, 0 if there is none -/
noncomputable def numD (l : List UInt8) : Int := (numO l).getD 0
/-- the program's road: the parts' numbers, written again -/
theorem listO_again {l : List UInt8} (h0 : l ≠ [45]) : (listO l = some ((splC 44 l).map numD)) ∨ (listO l = none ∧ (lFits ((splC 44 l).map numD) → lText ((splC 44 l).map numD) ≠ l)) := by
  cases e : listO l with
  | none =>
    refine Or.inr ⟨rfl, fun h1 h2 => ?_⟩
    rw [listO_some.2 ⟨h1, h2⟩] at e
    cases e
  | some xs =>
    refine Or.inl ?_
    obtain ⟨h1, h2⟩ := listO_parts h0 e
    rw [h2, List.map_map]
    congr 1
    have hf := (listO_some.1 e).1.2
    clear e h2 h1
    induction xs with
    | nil => rfl
    | cons x r ih =>
      rw [List.map_cons, ← ih (fun y hy => hf y (List.mem_cons_of_mem _ hy))]
      congr 1
      show x = numD (itoa x)
      unfold numD
      rw [numO_itoa (numR_of (hf x (by simp)))]
      rfl
end Go.Proofs.YticnpibkpfpojaaGreatDoor

/- The texts of pours, castings and hung bells, in the program and in the reference. -/
namespace Go.Proofs.YticnpibkpfpojaaGreatDoor
set_option linter.unusedVariables false
open Go.RowKit

/-- a name, a blank, the numbers with commas between -/
def nameT (s : ByteArray) (p : Nat → Int) (n : Nat) : ByteArray := s ++ ⟨#[32]⟩ ++ joinT p n
theorem l3_all {a b c : Int} {P : Int → Prop} (ha : P a) (hb : P b) (hc : P c) : ∀ i, i < 3 → P (l3 a b c i) := fun i hi => by
  match i, hi with
  | 0, _ => exact ha
  | 1, _ => exact hb
  | 2, _ => exact hc
theorem l4_all {a b c d : Int} {P : Int → Prop} (ha : P a) (hb : P b) (hc : P c) (hd : P d) : ∀ i, i < 4 → P (l4 a b c d i) := fun i hi => by
  match i, hi with
  | 0, _ => exact ha
  | 1, _ => exact hb
  | 2, _ => exact hc
  | 3, _ => exact hd
end Go.Proofs.YticnpibkpfpojaaGreatDoor

/- Texts read back: names, numbers and lists of numbers found in a text by its cuts. No program in sight. -/
namespace Go.Proofs.YticnpibkpfpojaaGreatDoor
set_option linter.unusedVariables false
open Go.RowKit
/-- the bytes of a text -/
abbrev bl (s : ByteArray) : List UInt8 := s.data.toList
/-- the text of some bytes -/
abbrev tx (l : List UInt8) : ByteArray := ⟨l.toArray⟩
theorem bl_tx (l : List UInt8) : bl (tx l) = l := by simp
theorem tx_bl (s : ByteArray) : tx (bl s) = s := ba_eq (by simp)
theorem bl_len (s : ByteArray) : (bl s).length = s.size := Array.length_toList
theorem bl_app (a b : ByteArray) : bl (a ++ b) = bl a ++ bl b := by simp
theorem bl_one (c : UInt8) : bl ⟨#[c]⟩ = [c] := rfl
theorem name_byte {s : ByteArray} (h : nameB s = true) {b : UInt8} (hb : b ∈ bl s) : (97 ≤ b.toNat ∧ b.toNat ≤ 122) ∨ (48 ≤ b.toNat ∧ b.toNat ≤ 57) := by
  obtain ⟨k, hk, e⟩ := List.getElem_of_mem hb
  have hk2 : k < s.size := by rwa [bl_len] at hk
  have h1 := (nameB_of h).2.2 k hk2
  have h2 : bt s k = (b.toNat : Int) := by
    rw [← bt_list, List.getD_eq_getElem?_getD, List.getElem?_eq_getElem hk, e]
    rfl
  unfold okAt at h1
  rw [h2] at h1
  omega
theorem name_no {s : ByteArray} (h : nameB s = true) {c : UInt8} (hc : c.toNat < 48 ∨ (57 < c.toNat ∧ c.toNat < 97)) : c ∉ bl s := fun q => by
  have := name_byte h q
  omega
def xsOf (p : Nat → Int) (n : Nat) : List Int := (List.range n).map p
theorem xs_l3 (a b c : Int) : xsOf (l3 a b c) 3 = [a, b, c] := rfl
theorem xs_l4 (a b c d : Int) : xsOf (l4 a b c d) 4 = [a, b, c, d] := rfl
theorem xs_len (p : Nat → Int) (n : Nat) : (xsOf p n).length = n := by simp [xsOf]
theorem joinT_bl (p : Nat → Int) {n : Nat} (h : 0 < n) : bl (joinT p n) = lText (xsOf p n) := by
  have hne : xsOf p n ≠ [] := fun e => by
    have := congrArg List.length e
    rw [xs_len] at this
    simp at this
    omega
  unfold lText
  rw [if_neg hne]
  simp [joinT, listL, xsOf, Function.comp_def]
theorem lFits_of {p : Nat → Int} {n : Nat} (hn : n ≤ 64) (h : ∀ i, i < n → -1000000000000 ≤ p i ∧ p i ≤ 1000000000000) : lFits (xsOf p n) := by
  refine ⟨by rw [xs_len]; exact hn, fun x hx => ?_⟩
  obtain ⟨i, hi, rfl⟩ := List.mem_map.1 hx
  exact h i (List.mem_range.1 hi)
theorem joinTail_mem {b : UInt8} {sep : List UInt8} : ∀ {ls : List (List UInt8)}, b ∈ Lib.joinTail sep ls → b ∈ sep ∨ ∃ l ∈ ls, b ∈ l
  | [], h => by simp [Lib.joinTail] at h
  | x :: r, h => by
    rw [joinTail_cons] at h
    rcases List.mem_append.1 h with h | h
    · rcases List.mem_append.1 h with h | h
      · exact Or.inl h
      · exact Or.inr ⟨x, by simp, h⟩
    · rcases joinTail_mem h with h | ⟨l, h1, h2⟩
      · exact Or.inl h
      · exact Or.inr ⟨l, List.mem_cons_of_mem _ h1, h2⟩
theorem join_mem {b : UInt8} {sep : List UInt8} {ls : List (List UInt8)} (h : b ∈ Lib.join ls sep) : b ∈ sep ∨ ∃ l ∈ ls, b ∈ l := by
  cases ls with
  | nil => simp [Lib.join] at h
  | cons x r =>
    rw [Lib.join_cons] at h
    rcases List.mem_append.1 h with h | h
    · exact Or.inr ⟨x, by simp, h⟩
    · rcases joinTail_mem h with h | ⟨l, h1, h2⟩
      · exact Or.inl h
      · exact Or.inr ⟨l, List.mem_cons_of_mem _ h1, h2⟩
theorem lText_no (xs : List Int) {c : UInt8} (h1 : c.toNat ≠ 45) (h2 : c.toNat < 48 ∨ 57 < c.toNat) (h3 : c.toNat ≠ 44) : c ∉ lText xs := fun h => by
  unfold lText at h
  split at h
  · have : c = 45 := by simpa using h
    subst this
    exact h1 rfl
  · rcases join_mem h with h | ⟨l, hl, h⟩
    · have : c = 44 := by simpa using h
      subst this
      exact h3 rfl
    · obtain ⟨x, -, rfl⟩ := List.mem_map.1 hl
      exact itoa_no h1 h2 h
theorem nameT_bl (s : ByteArray) (p : Nat → Int) {n : Nat} (h : 0 < n) : bl (nameT s p n) = bl s ++ 32 :: lText (xsOf p n) := by
  unfold nameT
  rw [bl_app, bl_app, joinT_bl p h, List.append_assoc]
  rfl
theorem nameT_split {s : ByteArray} (h : nameB s = true) (p : Nat → Int) {n : Nat} (hn : 0 < n) : splC 32 (bl (nameT s p n)) = [bl s, lText (xsOf p n)] := by
  rw [nameT_bl s p hn, splC_app (name_no h (by decide)), splC_none (lText_no _ (by decide) (by decide) (by decide))]
theorem nameT_cut {s : ByteArray} (h : nameB s = true) (p : Nat → Int) {n : Nat} (hn : 0 < n) : Lib.cut (bl (nameT s p n)) [32] = (bl s, lText (xsOf p n), true) := by
  rw [nameT_bl s p hn, cut_app (name_no h (by decide))]
theorem nameT_of {l : List UInt8} {a b : List UInt8} {p : Nat → Int} {n : Nat} (h : splC 32 l = [a, b]) (hn : 0 < n) (hb : lText (xsOf p n) = b) : bl (nameT (tx a) p n) = l := by
  rw [nameT_bl _ p hn, bl_tx, hb]
  exact (splC_two h).1.symm
theorem numD_itoa {n : Int} (h : numR n) : numD (Lib.itoa n) = n := by unfold numD; rw [numO_itoa h]; rfl
theorem numD_some {l : List UInt8} {n : Int} (h : numO l = some n) : numD l = n := by unfold numD; rw [h]; rfl
theorem numD_none {l : List UInt8} (h : numO l = none) : numD l = 0 := by unfold numD; rw [h]; rfl
theorem numD_rng (l : List UInt8) : -1000000000000000000 < numD l ∧ numD l < 1000000000000000000 := by
  cases h : numO l with
  | none => rw [numD_none h]; omega
  | some n =>
    rw [numD_some h]
    exact (numO_some h).1
/-- what was read of a text: v and b say whether a value with property B has the text -/
def readOut {α : Type} (B : α → Bool) (T : α → ByteArray) (z : α) (s : ByteArray) (x : α) (b : Bool) : Prop := (b = true ∧ B x = true ∧ T x = s) ∨ (b = false ∧ x = z ∧ ∀ y, B y = true → T y ≠ s)
theorem readOut_same {α : Type} {B : α → Bool} {T : α → ByteArray} {z x y : α} {s : ByteArray} {b c : Bool} (hinj : ∀ x y, B x = true → B y = true → T x = T y → x = y) (h1 : readOut B T z s x b) (h2 : readOut B T z s y c) : x = y ∧ b = c := by
  rcases h1 with ⟨rfl, p1, p2⟩ | ⟨rfl, rfl, p1⟩
  · rcases h2 with ⟨rfl, q1, q2⟩ | ⟨rfl, rfl, q1⟩
    · exact ⟨hinj x y p1 q1 (p2.trans q2.symm), rfl⟩
    · exact absurd p2 (q1 x p1)
  · rcases h2 with ⟨rfl, q1, q2⟩ | ⟨rfl, rfl, q1⟩
    · exact absurd q2 (p1 y q1)
    · exact ⟨rfl, rfl⟩
end Go.Proofs.YticnpibkpfpojaaGreatDoor

/- A text cut at each of a byte, as the reference cuts it. -/
namespace Go.Proofs.YticnpibkpfpojaaGreatDoor
set_option linter.unusedVariables false
open Go.RowKit
theorem bl_extract (s : ByteArray) (a b : Nat) : bl (s.extract a b) = ((bl s).drop a).take (b - a) := by
  rw [Lib.extract_eq]
theorem bl_get {s : ByteArray} {k : Nat} (h : k < s.size) : (bl s)[k]? = some s[k] := by
  rw [List.getElem?_eq_getElem (by rw [bl_len]; exact h)]
  rfl
theorem bt_hit {s : ByteArray} {k c : Nat} (hk : k < s.size) (hc : c < 256) : bt s k = (c : Int) ↔ (bl s)[k]? = some (UInt8.ofNat c) := by
  rw [bl_get hk, ← get_bt s k hk]
  constructor
  · intro h
    congr 1
    apply UInt8.toNat_inj.1
    rw [UInt8.toNat_ofNat']
    omega
  · intro h
    have := Option.some.inj h
    rw [this, UInt8.toNat_ofNat']
    omega
def SpInv (c : UInt8) (l : List UInt8) (acc : List (List UInt8)) (f k : Nat) : Prop := f ≤ k ∧ k ≤ l.length ∧ splC c l = acc ++ splC c (l.drop f) ∧ c ∉ (l.drop f).take (k - f)
theorem sp_start (c : UInt8) (l : List UInt8) : SpInv c l [] 0 0 := ⟨Nat.le_refl _, Nat.zero_le _, by simp, by simp⟩
theorem sp_hit {c : UInt8} {l : List UInt8} {acc : List (List UInt8)} {f k : Nat} (h : SpInv c l acc f k) (hk : l[k]? = some c) : SpInv c l (acc ++ [(l.drop f).take (k - f)]) (k + 1) (k + 1) := by
  obtain ⟨h1, h2, h3, h4⟩ := h
  have hlt := (List.getElem?_eq_some_iff.1 hk).1
  refine ⟨Nat.le_refl _, hlt, ?_, by simp⟩
  have e : l.drop f = (l.drop f).take (k - f) ++ c :: l.drop (k + 1) := by
    conv => lhs; rw [← List.take_append_drop (k - f) (l.drop f)]
    rw [List.drop_drop, show f + (k - f) = k by omega, List.drop_eq_getElem_cons hlt]
    have := (List.getElem?_eq_some_iff.1 hk).2
    rw [this]
  rw [h3]
  conv => lhs; rw [e, splC_app h4]
  simp
theorem sp_miss {c b : UInt8} {l : List UInt8} {acc : List (List UInt8)} {f k : Nat} (h : SpInv c l acc f k) (hk : l[k]? = some b) (hb : b ≠ c) : SpInv c l acc f (k + 1) := by
  obtain ⟨h1, h2, h3, h4⟩ := h
  have hlt := (List.getElem?_eq_some_iff.1 hk).1
  refine ⟨by omega, hlt, h3, ?_⟩
  have e : (l.drop f)[k - f]? = some b := by rw [List.getElem?_drop, show f + (k - f) = k by omega, hk]
  rw [show k + 1 - f = (k - f) + 1 by omega, List.take_add_one, e]
  intro q
  rcases List.mem_append.1 q with q | q
  · exact h4 q
  · have h := q
    simp at h
    exact hb h.symm
theorem sp_end {c : UInt8} {l : List UInt8} {acc : List (List UInt8)} {f : Nat} (h : SpInv c l acc f l.length) : splC c l = acc ++ [l.drop f] := by
  obtain ⟨h1, h2, h3, h4⟩ := h
  rw [h3, List.take_of_length_le (by simp)] at *
  rw [splC_none h4]
theorem sp_len {c : UInt8} {l : List UInt8} : (splC c l).length ≤ l.length + 1 := by
  induction hn : l.length using Nat.strongRecOn generalizing l with
  | ind n ih =>
    rcases cut_cases c l with h | ⟨a, r, rfl, h⟩
    · rw [splC_none h]; simp
    · have e := ih r.length (by rw [← hn]; simp; omega) (l := r) rfl
      rw [splC_app h]
      simp at hn ⊢
      omega
theorem sp_size {c : UInt8} {l : List UInt8} : ∀ x ∈ splC c l, x.length ≤ l.length := by
  induction hn : l.length using Nat.strongRecOn generalizing l with
  | ind n ih =>
    rcases cut_cases c l with h | ⟨a, r, rfl, h⟩
    · rw [splC_none h]
      intro x hx
      obtain rfl : x = l := by simpa using hx
      omega
    · have e := ih r.length (by rw [← hn]; simp; omega) (l := r) rfl
      rw [splC_app h]
      intro x hx
      simp at hn
      rcases List.mem_cons.1 hx with rfl | hx
      · omega
      · have := e x hx
        omega
/-- texts as a block's cells -/
def strV (ls : List (List UInt8)) : List Value := ls.map fun l => .string (tx l)
theorem strV_snoc (ls : List (List UInt8)) (x : List UInt8) : strV ls ++ [.string (tx x)] = strV (ls ++ [x]) := by simp [strV]
theorem strV_ext (ls : List (List UInt8)) (s : ByteArray) (a b : Nat) : strV ls ++ [.string (s.extract a b)] = strV (ls ++ [((bl s).drop a).take (b - a)]) := by
  rw [← strV_snoc, ← bl_extract, tx_bl]
/-- texts at a block -/
def TxAt (w : World) (g : Nat) (ls : List (List UInt8)) : Prop := g < w.heap.size ∧ ∀ (i : Nat) (x : List UInt8), ls[i]? = some x → w.cell? ⟨g, i, none⟩ = some (.string (tx x))
theorem TxAt.keep {w w' : World} {g n : Nat} {ls : List (List UInt8)} (h : TxAt w g ls) (hb : Below n w w') (hn : g < n) (hs : w.heap.size ≤ w'.heap.size) : TxAt w' g ls :=
  ⟨by have := h.1; omega, fun i x hx => (hb.cell (p := ⟨g, i, none⟩) hn).trans (h.2 i x hx)⟩
end Go.Proofs.YticnpibkpfpojaaGreatDoor

/- A number read digit by digit, as the reference reads it. -/
namespace Go.Proofs.YticnpibkpfpojaaGreatDoor
set_option linter.unusedVariables false
open Go.RowKit
/-- what both readers of numbers return -/
noncomputable def numOut (l : List UInt8) : Value := .tuple #[.int .i64 (numD l), .bool (numO l).isSome]
theorem numOut_none {l : List UInt8} (h : numO l = none) : numOut l = .tuple #[.int .i64 0, .bool false] := by unfold numOut; rw [numD_none h, h]; rfl
theorem numOut_some {l : List UInt8} {n : Int} (h : numO l = some n) : numOut l = .tuple #[.int .i64 n, .bool true] := by unfold numOut; rw [numD_some h, h]; rfl
theorem dec_step {m : List UInt8} {j v : Nat} {b : UInt8} (h : Lib.decFrom 0 (m.take j) = some v) (hb : m[j]? = some b) (hd : 48 ≤ b.toNat ∧ b.toNat ≤ 57) : Lib.decFrom 0 (m.take (j + 1)) = some (v * 10 + (b.toNat - 48)) := by
  have e : b = UInt8.ofNat (48 + (b.toNat - 48)) := by
    apply UInt8.toNat_inj.1
    rw [UInt8.toNat_ofNat']
    omega
  rw [List.take_add_one, hb, decFrom_app, h]
  show Lib.decFrom v [b] = _
  have q := digitVal_dig (d := b.toNat - 48) (by omega)
  rw [← e] at q
  simp only [Lib.decFrom, q]
theorem bl_cons {s : ByteArray} (h : 0 < s.size) : ∃ b m, bl s = b :: m ∧ bt s 0 = (b.toNat : Int) ∧ m.length = s.size - 1 ∧ ∀ k, 1 ≤ k → k < s.size → ∃ x : UInt8, m[k - 1]? = some x ∧ bt s k = (x.toNat : Int) := by
  have hl := bl_len s
  cases e : bl s with
  | nil => rw [e] at hl; simp at hl; omega
  | cons b m =>
    have h0 := bl_get h
    rw [e] at h0
    have h1 : b = s[0] := by simpa using h0
    refine ⟨b, m, rfl, by rw [h1, get_bt s 0 h], by rw [e] at hl; simp at hl; omega, fun k k0 k1 => ⟨s[k], ?_, (get_bt s k k1).symm⟩⟩
    have h2 := bl_get k1
    rw [e] at h2
    obtain ⟨j, rfl⟩ : ∃ j, k = j + 1 := ⟨k - 1, by omega⟩
    simpa using h2
theorem mag_minus (m : List UInt8) : magL (45 :: m) = m := by simp [magL, Lib.trimPrefix, Lib.hasPrefix]
theorem mag_plain {b : UInt8} {m : List UInt8} (h : b ≠ 45) : magL (b :: m) = b :: m := by
  have h1 : ¬ 45 = b := fun e => h e.symm
  simp [magL, Lib.trimPrefix, Lib.hasPrefix, h1]
theorem mag_nil : magL [] = [] := by simp [magL, Lib.trimPrefix, Lib.hasPrefix]
theorem u8_eq {b : UInt8} {n : Nat} (h : (b.toNat : Int) = n) (hn : n < 256) : b = UInt8.ofNat n := by
  apply UInt8.toNat_inj.1
  rw [UInt8.toNat_ofNat']
  omega
end Go.Proofs.YticnpibkpfpojaaGreatDoor

/- A number read by the library, as the program reads it; a text cut by the library. -/
namespace Go.Proofs.YticnpibkpfpojaaGreatDoor
set_option linter.unusedVariables false
open Go.RowKit

theorem toList_ne {a b : ByteArray} (h : a ≠ b) : (a.toList == b.toList) = false := by
  apply beq_eq_false_iff_ne.2
  rw [Lib.toList_data, Lib.toList_data]
  intro e
  exact h (ba_eq e)
/-- a number that was not read, and an error -/
abbrev ErrRet (w : World) (e : Ending) (w' : World) : Prop := ∃ (x : Int) (t : TypeId) (N : Nat), e = .returned (.tuple #[.int .i64 x, .iface t (.pointer (some ⟨N, 0, none⟩))]) ∧ Below w.heap.size w w'
theorem below_bw {w w' : World} {t : TypeId} (h : w' = w ∨ ∃ x, w' = Lib.bytesWorld w t x) : Below w.heap.size w w' := by
  rcases h with rfl | ⟨x, rfl⟩
  · exact Below.refl _ _
  · exact below_bytes _ _ _
set_option maxHeartbeats 4000000 in
theorem ReadDecimal_calls (s : ByteArray) (w : World) (hs : s.size ≤ 1048576) (hL : HasLib w) :
    Calls Tryz.prog 30 #[.string s] w fun e w' => e = .returned (numOut (bl s)) ∧ Below w.heap.size w w' := by
  obtain ⟨T, hT⟩ : ∃ T, T = tx (magL (bl s)) := ⟨_, rfl⟩
  have hTs : T.size = (magL (bl s)).length := by rw [hT, ← bl_len, bl_tx]
  have HTP : Hid (Calls Tryz.prog 61 #[.string s, .string ⟨#[45]⟩] w fun e w' => e = .returned (.string T) ∧ w = w') := Lib.hid ((Tryz.strings_TrimPrefix s ⟨#[45]⟩ w).mono fun e w' ⟨h1, h2⟩ => ⟨by rw [h1, hT]; rfl, h2.symm⟩)
  have HL := Lib.hid hL
  clear hL hT
  by_cases h1 : T.size < 1
  · have HN := Lib.hid (numOut_none (numO_long (l := bl s) (by omega)))
    go_enter Tryz.func30, Tryz.ntmps30
    go_wp2_with (go_at_call 61; with_reducible refine HTP.out.mono ?_; rintro e w1 ⟨rfl, rfl⟩)
    refine bodyPost_ret (v := .tuple #[.int .i64 0, .bool false]) (by simp [results, Tryz.results30, go_sem]) rfl ?_
    exact ⟨by rw [HN.out], Below.refl _ _⟩
  · by_cases h2 : 18 < T.size
    · have HN := Lib.hid (numOut_none (numO_long (l := bl s) (by omega)))
      go_enter Tryz.func30, Tryz.ntmps30
      go_wp2_with (go_at_call 61; with_reducible refine HTP.out.mono ?_; rintro e w1 ⟨rfl, rfl⟩)
      refine bodyPost_ret (v := .tuple #[.int .i64 0, .bool false]) (by simp [results, Tryz.results30, go_sem]) rfl ?_
      exact ⟨by rw [HN.out], Below.refl _ _⟩
    · rcases hp : Lib.parseIntB 64 (bl s) with v | _ | _
      · obtain ⟨v0, v1⟩ := Lib.parseIntB_bounds hp
        have v0' : -9223372036854775808 ≤ v := v0
        have v1' : v ≤ 9223372036854775807 := by
          have e : ((2 ^ (64 - 1) : Nat) : Int) = 9223372036854775808 := by decide
          rw [e] at v1
          omega
        have HP := Lib.hid ((Tryz.strconv_ParseInt_10_at64_ok s (by omega) v hp w).mono fun e w' ⟨h1, h2⟩ => And.intro h1 (below_bw h2))
        have HO := numO_parsed hp (by omega)
        clear v0 v1 hp
        have HD : ∀ W, Below w.heap.size w W → Calls Tryz.prog 31 #[.int .i64 v] W fun e w' => e = .returned (.string ⟨(Lib.itoa v).toArray⟩) ∧ Below W.heap.size W w' := fun W hb => Decimal_calls v W v0' v1' (HL.out.keep hb).1
        by_cases q : Lib.itoa v = bl s
        · have e : (⟨(Lib.itoa v).toArray⟩ : ByteArray) = s := by rw [q]
          rw [if_pos q] at HO
          have HN := Lib.hid (numOut_some HO)
          rw [e] at HD
          clear HO e
          go_enter Tryz.func30, Tryz.ntmps30
          go_wp2_with (first
            | (go_at_call 61; with_reducible refine HTP.out.mono ?_; rintro e w1 ⟨rfl, rfl⟩)
            | (go_at_call 62; with_reducible refine HP.out.mono ?_; rintro e w1 ⟨rfl, hb1⟩)
            | (go_at_call 31; with_reducible refine (HD _ hb1).mono ?_; rintro e w2 ⟨rfl, hb2⟩; have hb3 := hb1.trans (hb2.mono hb1.size)))
          refine bodyPost_ret (v := .tuple #[.int .i64 v, .bool true]) (by simp [results, Tryz.results30, go_sem]) rfl ?_
          exact ⟨by rw [HN.out], hb3⟩
        · obtain ⟨D, hD⟩ : ∃ D : ByteArray, D = ⟨(Lib.itoa v).toArray⟩ := ⟨_, rfl⟩
          have e : ¬ D = s := fun h => q (by rw [← h, hD])
          have e2 : (D.toList == s.toList) = false := toList_ne e
          rw [if_neg q] at HO
          have HN := Lib.hid (numOut_none HO)
          rw [← hD] at HD
          clear HO q hD
          go_enter Tryz.func30, Tryz.ntmps30
          go_wp2_with (first
            | (go_at_call 61; with_reducible refine HTP.out.mono ?_; rintro e w1 ⟨rfl, rfl⟩)
            | (go_at_call 62; with_reducible refine HP.out.mono ?_; rintro e w1 ⟨rfl, hb1⟩)
            | (go_at_call 31; with_reducible refine (HD _ hb1).mono ?_; rintro e w2 ⟨rfl, hb2⟩; have hb3 := hb1.trans (hb2.mono hb1.size)))
          refine bodyPost_ret (v := .tuple #[.int .i64 0, .bool false]) (by simp [results, Tryz.results30, go_sem]) rfl ?_
          exact ⟨by rw [HN.out], hb3⟩
      · have HN := Lib.hid (numOut_none (numO_unparsed (l := bl s) (fun v h => by rw [hp] at h; cases h)))
        obtain ⟨-, -, ⟨tp, p, hv⟩, -⟩ := HL.out
        have HP := Lib.hid ((Tryz.strconv_ParseInt_10_at64_syntax_var s (by omega) hp tp p w hv).mono (R' := ErrRet w) fun e w' ⟨N, h1, _, _, h4⟩ => ⟨_, _, _, h1, h4⟩)
        clear hp hv
        go_enter Tryz.func30, Tryz.ntmps30
        go_wp2_with (first
          | (go_at_call 61; with_reducible refine HTP.out.mono ?_; rintro e w1 ⟨rfl, rfl⟩)
          | (go_at_call 62; with_reducible refine HP.out.mono ?_; rintro e w1 ⟨x, tt, N, rfl, hb1⟩))
        refine bodyPost_ret (v := .tuple #[.int .i64 0, .bool false]) (by simp [results, Tryz.results30, go_sem]) rfl ?_
        exact ⟨by rw [HN.out], hb1⟩
      · have HN := Lib.hid (numOut_none (numO_unparsed (l := bl s) (fun v h => by rw [hp] at h; cases h)))
        obtain ⟨-, -, -, ⟨tp, p, hv⟩⟩ := HL.out
        have HP := Lib.hid ((Tryz.strconv_ParseInt_10_at64_range_var s (by omega) hp tp p w hv).mono (R' := ErrRet w) fun e w' ⟨N, h1, _, _, h4⟩ => ⟨_, _, _, h1, h4⟩)
        clear hp hv
        go_enter Tryz.func30, Tryz.ntmps30
        go_wp2_with (first
          | (go_at_call 61; with_reducible refine HTP.out.mono ?_; rintro e w1 ⟨rfl, rfl⟩)
          | (go_at_call 62; with_reducible refine HP.out.mono ?_; rintro e w1 ⟨x, tt, N, rfl, hb1⟩))
        refine bodyPost_ret (v := .tuple #[.int .i64 0, .bool false]) (by simp [results, Tryz.results30, go_sem]) rfl ?_
        exact ⟨by rw [HN.out], hb1⟩
/-- a text cut at the first of a byte -/
theorem Cut_calls (s : ByteArray) (c : UInt8) (w : World) (hs : s.size ≤ 1048576) (hL : HasLib w) :
    Calls Tryz.prog 29 #[.string s, .string ⟨#[c]⟩] w fun e w' => e = .returned (.tuple #[.string (tx (Lib.cut (bl s) [c]).1), .string (tx (Lib.cut (bl s) [c]).2.1), .bool (Lib.cut (bl s) [c]).2.2]) ∧ Below w.heap.size w w' := by
  obtain ⟨-, ⟨m, hm⟩, -, -⟩ := hL
  exact (Tryz.strings_Cut s ⟨#[c]⟩ m w (by omega) hm).mono fun e w' ⟨h1, n, h2⟩ => ⟨h1, by rw [h2]; exact below_drewN (Below.refl _ _) n⟩
/-- .. at all of a byte -/
theorem Split_calls (s : ByteArray) (c : UInt8) (w : World) (hs : s.size ≤ 1048576) (hL : HasLib w) :
    Calls Tryz.prog 27 #[.string s, .string ⟨#[c]⟩] w fun e w' => e = .returned (.slice (some ⟨w.heap.size, 0, none⟩) (splC c (bl s)).length (splC c (bl s)).length) ∧ TxAt w' w.heap.size (splC c (bl s)) ∧ Below w.heap.size w w' := by
  obtain ⟨-, ⟨m, hm⟩, -, -⟩ := hL
  have hc : Lib.countB s ⟨#[c]⟩ = (bl s).count c := Lib.count_one c (bl s)
  have hd : (Lib.splitB ⟨#[c]⟩ 0 (Lib.countB s ⟨#[c]⟩) s).map (·.data.toList) = splC c (bl s) := by
    rw [Lib.splitB_data, hc]
    exact split_eq c (bl s)
  have hl : Lib.countB s ⟨#[c]⟩ + 1 = (splC c (bl s)).length := by
    rw [← hd, List.length_map]
    exact (Lib.splitB_all ⟨#[c]⟩ (Nat.le_refl 1) 0 _ s rfl).symm
  refine (Tryz.strings_Split s ⟨#[c]⟩ m w (by omega) hm (Nat.le_refl 1)).mono ?_
  rintro e w' ⟨rfl, rfl⟩
  rw [hl]
  refine ⟨rfl, ⟨by simp, fun i x hx => ?_⟩, (Below.refl _ _).alloc (Nat.le_refl _) _⟩
  rw [← hd] at hx
  simp only [List.getElem?_map, Option.map_eq_some_iff] at hx
  obtain ⟨y, hy, rfl⟩ := hx
  simp [hy]
end Go.Proofs.YticnpibkpfpojaaGreatDoor

/- Lists of numbers read, by the program and by the reference. -/
namespace Go.Proofs.YticnpibkpfpojaaGreatDoor
set_option linter.unusedVariables false
open Go.RowKit

/-- the parts of a list's text, their number, their numbers -/
def pts (s : ByteArray) : List (List UInt8) := splC 44 (bl s)
noncomputable def ptV (s : ByteArray) (i : Nat) : Int := numD (((pts s)[i]?).getD [])
theorem pts_pos (s : ByteArray) : 0 < (pts s).length := List.length_pos_iff.2 (splC_ne _ _)
theorem pts_map (s : ByteArray) : xsOf (ptV s) (pts s).length = (pts s).map numD := by
  apply List.ext_getElem?
  intro i
  unfold xsOf
  by_cases hi : i < (pts s).length
  · simp [ptV, hi]
  · rw [List.getElem?_eq_none (by simp; omega), List.getElem?_eq_none (by simp; omega)]
theorem xsOf_get (p : Nat → Int) {n i : Nat} (h : i < n) : (xsOf p n).getD i 0 = p i := by simp [xsOf, h]
/-- the list that was read lies there -/
def Got (w : World) (A : Option Addr) (n : Nat) : Option (List Int) → Prop
  | none => n = 0
  | some xs => n = xs.length ∧ IntRow w A n (fun i => xs.getD i 0)
theorem Got.keep {w w' : World} {A : Option Addr} {n : Nat} {o : Option (List Int)} (h : Got w A n o) (hb : Below w.heap.size w w') : Got w' A n o := by
  cases o with
  | none => exact h
  | some xs => exact ⟨h.1, h.2.keep hb⟩
/-- what both readers of lists do -/
def LRet (w : World) (o : Option (List Int)) (e : Ending) (w' : World) : Prop := ∃ A n c, e = .returned (.tuple #[.slice A n c, .bool o.isSome]) ∧ Got w' A n o ∧ Below w.heap.size w w'
theorem got_own {w : World} {g : Nat} {t : TypeId} {cur : Array Value} {p : Nat → Int} {n : Nat} (hblk : Blk w g t cur) (hcur : ∀ i, i < n * 1 → cur[i]? = (intsL p n)[i]?) : Got w (some ⟨g, 0, none⟩) n (some (xsOf p n)) := by
  refine ⟨(xs_len p n).symm, fun _ => ⟨g, 0, rfl, fun i hi => ?_⟩⟩
  rw [Nat.zero_add, hblk.cell, hcur i (by omega), intsL_at _ hi]
  show _ = some (Value.int .i64 ((xsOf p n).getD i 0))
  rw [xsOf_get p hi]
theorem listO_dash' {s : ByteArray} (h : s = ⟨#[45]⟩) : listO (bl s) = some [] := by rw [h]; exact listO_dash
theorem list_ok {s : ByteArray} (h0 : s ≠ ⟨#[45]⟩) (hn : (pts s).length ≤ 64) (h : ∀ i, i < (pts s).length → ∃ x, numO (((pts s)[i]?).getD []) = some x ∧ -1000000000000 ≤ x ∧ x ≤ 1000000000000) : listO (bl s) = some (xsOf (ptV s) (pts s).length) := by
  refine listO_good (fun e => h0 (by rw [← tx_bl s, e])) ?_ (lFits_of hn fun i hi => ?_)
  · rw [pts_map, List.map_map]
    apply List.ext_getElem?
    intro i
    by_cases hi : i < (pts s).length
    · obtain ⟨x, hx, -⟩ := h i hi
      have e : (pts s)[i]? = some ((pts s)[i]) := List.getElem?_eq_getElem hi
      rw [e, Option.getD_some] at hx
      rw [List.getElem?_map]
      show (pts s)[i]? = _
      rw [e, Option.map_some, Function.comp, numD_some hx, (numO_some hx).2]
    · show (pts s)[i]? = _
      rw [List.getElem?_eq_none (by omega), List.getElem?_eq_none (by simp; omega)]
  · obtain ⟨x, hx, hr⟩ := h i hi
    unfold ptV
    rw [numD_some hx]
    exact hr
theorem list_bad {s : ByteArray} (h0 : s ≠ ⟨#[45]⟩) {i : Nat} (hi : i < (pts s).length) (h : ∀ x, numO (((pts s)[i]?).getD []) = some x → ¬ (-1000000000000 ≤ x ∧ x ≤ 1000000000000)) : listO (bl s) = none := by
  have e : (pts s)[i]? = some ((pts s)[i]) := List.getElem?_eq_getElem hi
  rw [e, Option.getD_some] at h
  exact listO_bad (fun q => h0 (by rw [← tx_bl s, q])) (List.getElem_mem hi) h
theorem list_again {s : ByteArray} (h0 : s ≠ ⟨#[45]⟩) : (listText (ptV s) (pts s).length = s ∧ listO (bl s) = some (xsOf (ptV s) (pts s).length)) ∨ (listText (ptV s) (pts s).length ≠ s ∧ listO (bl s) = none) := by
  have hb : bl s ≠ [45] := fun e => h0 (by rw [← tx_bl s, e])
  have hp := pts_pos s
  have hm := pts_map s
  rcases listO_again hb with h | ⟨h1, h2⟩
  · left
    have h' : listO (bl s) = some (xsOf (ptV s) (pts s).length) := by rw [hm]; exact h
    obtain ⟨⟨f1, f2⟩, f3⟩ := listO_some.1 h'
    rw [xs_len] at f1
    refine ⟨?_, h'⟩
    rw [listText_ok hp f1 (fun i hi => f2 _ (by unfold xsOf; exact List.mem_map.2 ⟨i, List.mem_range.2 hi, rfl⟩))]
    apply ba_eq
    show bl _ = bl _
    rw [joinT_bl _ hp, f3]
  · right
    refine ⟨fun e => ?_, h1⟩
    cases q : listBad (ptV s) (pts s).length
    · have hq := q
      unfold listBad at hq
      simp only [Bool.or_eq_false_iff, decide_eq_false_iff_not] at hq
      have f1 : (pts s).length ≤ 64 := by omega
      have f2 : ∀ i, i < (pts s).length → -1000000000000 ≤ ptV s i ∧ ptV s i ≤ 1000000000000 := fun i hi => by
        cases q3 : valB (ptV s i)
        · have := anyB_hit (p := fun i => !valB (ptV s i)) hi (by simp [q3])
          rw [hq.2] at this; cases this
        · exact inB_iff.1 q3
      refine h2 ?_ ?_
      · have := lFits_of f1 f2
        rwa [hm] at this
      · have e2 : pts s = splC 44 (bl s) := rfl
        rw [← e2, ← hm, ← joinT_bl _ hp, ← listText_ok hp f1 f2, e]
    · have e1 : s = ⟨#[]⟩ := by rw [← e, listText, if_pos q]
      subst e1
      have e2 : pts ⟨#[]⟩ = [[]] := rfl
      have e3 : numO [] = none := numO_long (by rw [mag_nil]; simp)
      have e4 : ∀ i, i < 1 → ptV ⟨#[]⟩ i = 0 := fun i hi => by
        obtain rfl : i = 0 := by omega
        unfold ptV
        rw [e2]
        exact numD_none e3
      have e5 : listBad (ptV ⟨#[]⟩) (pts ⟨#[]⟩).length = false := by
        rw [e2]
        unfold listBad
        rw [anyB_no (fun i hi => by rw [e4 i hi]; rfl)]
        rfl
      rw [q] at e5
      cases e5
theorem i64_info : (Tryz.prog.info? 2).map (fun i => (i.zero, i.size, i.bytes)) = some (some (.int .i64 0), 1, 8) := by kernel_rfl
theorem toList_ne1 {a : ByteArray} {c : UInt8} (h : a ≠ ⟨#[c]⟩) : (a.toList == [c]) = false := by
  apply beq_eq_false_iff_ne.2
  rw [Lib.toList_data]
  intro e
  exact h (ba_eq e)
/-- part k of a text that was cut -/
theorem pt_cell {w : World} {g : Nat} {s : ByteArray} {k : Nat} (h : TxAt w g (pts s)) (hk : k < (pts s).length) : w.cell? ⟨g, k, none⟩ = some (.string (tx (((pts s)[k]?).getD []))) := by
  have e : (pts s)[k]? = some ((pts s)[k]) := List.getElem?_eq_getElem hk
  rw [h.2 k _ e, e, Option.getD_some]
theorem pt_size {s : ByteArray} {k : Nat} (hk : k < (pts s).length) : (tx (((pts s)[k]?).getD [])).size ≤ s.size := by
  have e : (pts s)[k]? = some ((pts s)[k]) := List.getElem?_eq_getElem hk
  have := sp_size (c := 44) (l := bl s) _ (List.getElem_mem hk)
  rw [e, Option.getD_some, ← bl_len, bl_tx, ← bl_len]
  exact this
set_option maxRecDepth 20000 in
set_option maxHeartbeats 4000000 in
theorem ReadList_calls (s : ByteArray) (w : World) (hs : s.size ≤ 1048575) (hL : HasLib w) :
    Calls Tryz.prog 28 #[.string s] w (LRet w (listO (bl s))) := by
  obtain ⟨i0, hi, hz0, hz1, hz2⟩ := info_parts i64_info
  have HL := Lib.hid hL
  clear hL
  by_cases h0 : s = ⟨#[45]⟩
  · have HO := Lib.hid (listO_dash' h0)
    subst h0
    go_enter Tryz.func28, Tryz.ntmps28
    go_wp2
    refine bodyPost_ret (v := .tuple #[.slice none 0 0, .bool true]) (by simp [results, Tryz.results28, go_sem]) rfl ?_
    exact ⟨_, _, _, by rw [HO.out]; rfl, by rw [HO.out]; exact ⟨rfl, fun h => absurd h (Nat.lt_irrefl 0)⟩, Below.refl _ _⟩
  · have h0' : (s.toList == [45]) = false := toList_ne1 h0
    have hp := pts_pos s
    have hpl : (pts s).length ≤ s.size + 1 := by have := sp_len (c := 44) (l := bl s); rw [bl_len] at this; exact this
    have HSP : Hid (Calls Tryz.prog 27 #[.string s, .string ⟨#[44]⟩] w fun e w' => e = .returned (.slice (some ⟨w.heap.size, 0, none⟩) (pts s).length (pts s).length) ∧ Hid (TxAt w' w.heap.size (pts s)) ∧ Below w.heap.size w w') := Lib.hid (Split_calls s 44 w (by omega) HL.out)
    obtain ⟨n, hn⟩ : ∃ n, n = (pts s).length := ⟨_, rfl⟩
    rw [← hn] at HSP hp hpl
    have HN := Lib.hid hn
    have HA := Lib.hid (list_again h0)
    clear hn
    go_enter Tryz.func28, Tryz.ntmps28
    go_wp2_with (go_at_call 27; with_reducible refine HSP.out.mono ?_; rintro e w1 ⟨rfl, htx, hb1⟩)
    go_loopw [4, 14] (fun v i wr => ∃ k : Nat, k ≤ n ∧ i = .int .i64 k ∧ Hid (wr.ownsRow w1.heap.size 2 1 v k (intsL (ptV s) k)) ∧ Below w1.heap.size w1 wr) (fun _ i _ => n - (intOf i).toNat)
    case atStart => exact ⟨0, by omega, rfl, Lib.hid (World.ownsRow_nil _ _ _ _), Below.refl _ _⟩
    case round =>
      obtain ⟨k, hk, rfl, hown, hbr⟩ := hrel
      have hbs := hbr.size
      have htr := Lib.hid (htx.out.keep hbr htx.out.1 hbs)
      have HB := Lib.hid (hb1.trans (hbr.mono hb1.size))
      by_cases hlt : k < n
      · have hlt2 : k < (pts s).length := by rw [← HN.out]; exact hlt
        have c0 := pt_cell htr.out hlt2
        have hz := pt_size hlt2
        generalize hP : tx (((pts s)[k]?).getD []) = P at c0 hz
        have HNUM := Lib.hid (ReadDecimal_calls P wr (by omega) (HL.out.keep HB.out))
        have HX : Hid (numD (bl P) = ptV s k) := Lib.hid (by unfold ptV; rw [← hP, bl_tx])
        clear hP hlt2
        unfold numOut at HNUM
        obtain ⟨x, hx⟩ : ∃ x, x = numD (bl P) := ⟨_, rfl⟩
        rw [← hx] at HNUM HX
        clear hx
        go_wp2_with (first | (go_at_call 30; with_reducible refine HNUM.out.mono ?_; rintro e w3 ⟨rfl, hb3⟩; have hown3 := Lib.hid (own_keep hown.out hb3); have hbr3 := hbr.trans (hb3.mono hbs); have hbs3 := hbr3.size) | (at_builtin; refine wpList_append_own _ rfl _ _ 61 rfl w1.heap.size 2 i0 (.int .i64 0) 1 8 Tryz.underlying61 hi hz0 hz1 hz2 rfl (by decide) _ _ _ rfl (hown3.out.alloc _) ⟨w3.heap.size, 0, none⟩ 1 1 [.int .i64 x] rfl rfl (fun j u hj => by match j, hj with | 0, hj => simp at hj; subst hj; simp [Addr.add]) (fun u hu => by simp at hu; subst hu; rfl) (by unfold maxLen; omega) (by omega) (by simp; omega) ?_; intro v' w4 hown' hgrow _; have hb4 := below_append hbr3 hbs3 hown3.out hgrow; rw [HX.out, intsL_succ] at hown'; have HOWN := Lib.hid hown'; clear hown' hgrow))
        go_roundw
        case rel => exact ⟨k + 1, by omega, by go_num, HOWN, hb4⟩
        case measure => simp [intOf]; omega
      · obtain rfl : k = n := by omega
        obtain ⟨g2, cap2, cur, rfl, hg0, hblk, hcap, hcm, hcs, hcur⟩ := own_blk hown.out (by omega)
        have HG : Hid (Got wr (some ⟨g2, 0, none⟩) k (some (xsOf (ptV s) k))) := Lib.hid (got_own hblk hcur)
        have HROW : Hid (IntRow wr (some ⟨g2, 0, none⟩) k (ptV s)) := Lib.hid fun _ => ⟨g2, 0, rfl, fun i hi => by rw [Nat.zero_add, hblk.cell, hcur i (by omega), intsL_at _ hi]⟩
        have HLT := Lib.hid (ListText_calls (some ⟨g2, 0, none⟩) k cap2 (ptV s) wr HROW.out (by omega) (HL.out.keep HB.out).1)
        clear hblk hcur hcs
        rcases HA.out with ⟨q1, q2⟩ | ⟨q1, q2⟩
        · rw [← HN.out] at q1 q2
          rw [q1] at HLT
          have HO := Lib.hid q2
          clear q1 q2
          go_wp2_with (go_at_call 32; with_reducible refine HLT.out.mono ?_; rintro e w3 ⟨rfl, hb3⟩)
          refine bodyPost_ret (v := .tuple #[.slice (some ⟨g2, 0, none⟩) k cap2, .bool true]) (by simp [results, Tryz.results28, go_sem]) rfl ?_
          exact ⟨_, _, _, by rw [HO.out]; rfl, by rw [HO.out]; exact HG.out.keep hb3, HB.out.trans (hb3.mono HB.out.size)⟩
        · rw [← HN.out] at q1
          obtain ⟨L, hL2⟩ : ∃ L, L = listText (ptV s) k := ⟨_, rfl⟩
          rw [← hL2] at HLT q1
          have q3 : (L.toList == s.toList) = false := toList_ne q1
          have HO := Lib.hid q2
          clear q2 hL2
          go_wp2_with (go_at_call 32; with_reducible refine HLT.out.mono ?_; rintro e w3 ⟨rfl, hb3⟩)
          refine bodyPost_ret (v := .tuple #[.slice none 0 0, .bool false]) (by simp [results, Tryz.results28, go_sem]) rfl ?_
          exact ⟨_, _, _, by rw [HO.out]; rfl, by rw [HO.out]; rfl, HB.out.trans (hb3.mono HB.out.size)⟩
end Go.Proofs.YticnpibkpfpojaaGreatDoor

/- Holes read, by the program and by the reference. -/
namespace Go.Proofs.YticnpibkpfpojaaGreatDoor
set_option linter.unusedVariables false
open Go.RowKit

theorem cut_size (c : UInt8) (l : List UInt8) : (Lib.cut l [c]).1.length ≤ l.length ∧ (Lib.cut l [c]).2.1.length ≤ l.length := by
  rcases cut_cases c l with h | ⟨a, r, rfl, h⟩
  · rw [cut_no h]
    exact ⟨Nat.le_refl _, Nat.zero_le _⟩
  · rw [cut_app h]
    simp
    omega
theorem len_two {α : Type} {l : List α} (h : l.length = 2) : ∃ a b, l = [a, b] := by
  match l, h with
  | [a, b], _ => exact ⟨a, b, rfl⟩
theorem tx_size (l : List UInt8) : (tx l).size = l.length := by rw [← bl_len, bl_tx]
/-- a text cut at all of a byte -/
def SpRet (w : World) (l : List (List UInt8)) (e : Ending) (w' : World) : Prop := ∃ g cap, e = .returned (.slice (some ⟨g, 0, none⟩) l.length cap) ∧ w.heap.size ≤ g ∧ TxAt w' g l ∧ Below w.heap.size w w'
/-- a text cut at the first of a byte -/
theorem cut_ret (s : ByteArray) (c : UInt8) (a b : List UInt8) (t : Bool) (w : World) (hs : s.size ≤ 1048576) (hL : HasLib w) (h : Lib.cut (bl s) [c] = (a, b, t)) : Calls Tryz.prog 29 #[.string s, .string ⟨#[c]⟩] w fun e w' => e = .returned (.tuple #[.string (tx a), .string (tx b), .bool t]) ∧ Below w.heap.size w w' := by
  have := Cut_calls s c w hs hL
  rw [h] at this
  exact this
theorem dec_ret (s : ByteArray) (r : Int) (o : Bool) (w : World) (hs : s.size ≤ 1048576) (hL : HasLib w) (hr : numD (bl s) = r) (ho : (numO (bl s)).isSome = o) : Calls Tryz.prog 30 #[.string s] w fun e w' => e = .returned (.tuple #[.int .i64 r, .bool o]) ∧ Below w.heap.size w w' := by
  have := ReadDecimal_calls s w hs hL
  unfold numOut at this
  rw [hr, ho] at this
  exact this
end Go.Proofs.YticnpibkpfpojaaGreatDoor
