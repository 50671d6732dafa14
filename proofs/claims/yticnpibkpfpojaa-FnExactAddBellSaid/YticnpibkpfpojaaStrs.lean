/- Lists of texts: how they read, their size, copy and comparison; the text of a mark, and what mark and held do with lists of texts. -/
import Derived.Test.YticnpibkpfpojaaOwn
import Derived.Test.YticnpibkpfpojaaFrame
import Derived.Handy
import Derived.KernelRfl
import Derived.ChangeShapes
import Derived.ShutString
import Derived.Lib.ConvBytes
import Derived.Deep.RegionHeld3
namespace Go.Proofs.Yticnpibkpfpojaa
set_option linter.unusedVariables false
open Go.RowKit

def StrRow (w : World) (A : Option Addr) (n : Nat) (s : Nat → ByteArray) : Prop := 0 < n → ∃ b o, A = some ⟨b, o, none⟩ ∧ ∀ i, i < n → w.cell? ⟨b, o + i, none⟩ = some (.string (s i))
theorem StrRow.keep {w w' : World} {A : Option Addr} {n : Nat} {s : Nat → ByteArray} (h : StrRow w A n s) (hb : Below w.heap.size w w') : StrRow w' A n s := fun hn => by
  obtain ⟨b, o, hA, hall⟩ := h hn
  exact ⟨b, o, hA, fun i hi => cell_keep hb (hall i hi)⟩
theorem StrRow.below {w w' : World} {A : Option Addr} {n B : Nat} {s : Nat → ByteArray} (h : StrRow w A n s) (hb : Below B w w') (hB : w.heap.size ≤ B) : StrRow w' A n s := h.keep (hb.mono hB)
theorem StrRow.same {w w' : World} {g q n : Nat} {s : Nat → ByteArray} (h : StrRow w (some ⟨g, q, none⟩) n s) (hb : w'.heap[g]? = w.heap[g]?) : StrRow w' (some ⟨g, q, none⟩) n s := fun hn => by
  obtain ⟨b, o, hA, hall⟩ := h hn
  simp only [Option.some.injEq, Addr.mk.injEq, and_true] at hA
  obtain ⟨rfl, rfl⟩ := hA
  exact ⟨g, q, rfl, fun i hi => (World.cell?_of_block (w := w) (a := ⟨g, q + i, none⟩) hb).trans (hall i hi)⟩
theorem StrRow.drewN {w : World} {A : Option Addr} {n : Nat} {s : Nat → ByteArray} (h : StrRow w A n s) (m : Nat) : StrRow (w.drewN m) A n s := h
def StrArr (arr : Array Value) (m : Nat) (s : Nat → ByteArray) : Prop := ∀ i, i < m → arr[i]? = some (.string (s i))
theorem StrArr.mark {arr : Array Value} {n k : Nat} {s : Nat → ByteArray} (h : StrArr arr k s) (hs : n ≤ arr.size) (hk : k < n) {v : ByteArray} (e : v = s k) : StrArr (arr.setIfInBounds k (.string v)) (k + 1) s := by
  subst e
  intro i hi
  rcases Nat.lt_or_ge i k with h1 | h1
  · rw [Array.getElem?_setIfInBounds_ne (by omega)]
    exact h i h1
  · obtain rfl : i = k := by omega
    rw [Array.getElem?_setIfInBounds_self_of_lt (by omega)]
theorem StrArr.row {w : World} {g T n : Nat} {arr : Array Value} {s : Nat → ByteArray} (h : StrArr arr n s) (hb : Blk w g T arr) : StrRow w (some ⟨g, 0, none⟩) n s := fun _ =>
  ⟨g, 0, rfl, fun i hi => by rw [Nat.zero_add]; exact (hb.cell _).trans (h i hi)⟩
/-- a row of texts at the head of a block of the call's own -/
def StrOwn (w : World) (A : Option Addr) (n : Nat) (s : Nat → ByteArray) (G : Nat) : Prop := 0 < n → A = some ⟨G, 0, none⟩ ∧ ∃ arr : Array Value, Blk w G 9 arr ∧ n ≤ arr.size ∧ StrArr arr n s
theorem StrOwn.row {w : World} {A : Option Addr} {n G : Nat} {s : Nat → ByteArray} (h : StrOwn w A n s G) : StrRow w A n s := fun hn => by
  obtain ⟨hA, arr, hb, -, ha⟩ := h hn
  exact hA ▸ (ha.row hb) hn
theorem StrOwn.keep {w w' : World} {A : Option Addr} {n G : Nat} {s : Nat → ByteArray} (h : StrOwn w A n s G) (hb : Below w.heap.size w w') : StrOwn w' A n s G := fun hn => by
  obtain ⟨hA, arr, hk, hs, ha⟩ := h hn
  exact ⟨hA, arr, hk.keep hb, hs, ha⟩
theorem StrOwn.grown {w w' : World} {A : Option Addr} {n G H : Nat} {s : Nat → ByteArray} (h : StrOwn w A n s G) (hg : w.grownBy w' (some H)) (hne : 0 < n → G ≠ H) : StrOwn w' A n s G := fun hn => by
  obtain ⟨hA, arr, hk, hs, ha⟩ := h hn
  exact ⟨hA, arr, (hg.block G hk.lt (by simpa using hne hn)).trans hk, hs, ha⟩
theorem StrOwn.same {w w' : World} {A : Option Addr} {n G : Nat} {s : Nat → ByteArray} (h : StrOwn w A n s G) (hb : 0 < n → w'.heap[G]? = w.heap[G]?) : StrOwn w' A n s G := fun hn => by
  obtain ⟨hA, arr, hk, hs, ha⟩ := h hn
  exact ⟨hA, arr, (hb hn).trans hk, hs, ha⟩
theorem StrOwn.lt {w : World} {A : Option Addr} {n G : Nat} {s : Nat → ByteArray} (h : StrOwn w A n s G) (hn : 0 < n) : G < w.heap.size := by
  obtain ⟨-, arr, hb, -⟩ := h hn
  exact hb.lt
/-- the first k texts as cells -/
def strsL (s : Nat → ByteArray) (k : Nat) : List Value := (List.range k).map fun i => .string (s i)
theorem strsL_succ (s : Nat → ByteArray) (k : Nat) : strsL s k ++ [.string (s k)] = strsL s (k + 1) := by simp [strsL, List.range_succ]
theorem strsL_len (s : Nat → ByteArray) (k : Nat) : (strsL s k).length = k := by simp [strsL]
theorem strsL_at (s : Nat → ByteArray) {k i : Nat} (h : i < k) : (strsL s k)[i]? = some (.string (s i)) := by simp [strsL, h]
theorem strOwn_of {w : World} {base n : Nat} {v : Value} {s : Nat → ByteArray} (ho : w.ownsRow base 9 1 v n (strsL s n)) (hbase : base ≤ w.heap.size) : ∃ A c G, v = .slice A n c ∧ StrOwn w A n s G ∧ base ≤ G := by
  rcases ho.2 with ⟨hv, h0⟩ | ⟨g, cap, cur, hv, hb, hg, hc, hm, hs, ht⟩
  · subst h0
    exact ⟨none, 0, base, hv, fun h => absurd h (Nat.lt_irrefl _), Nat.le_refl _⟩
  · refine ⟨some ⟨g, 0, none⟩, cap, g, hv, fun hn => ⟨rfl, cur, hg, by rw [hs]; omega, fun i hi => ?_⟩, hb⟩
    have := (congrArg (fun l => l[i]?) ht)
    simp only [List.getElem?_take, Nat.mul_one, if_pos hi, strsL_at s hi] at this
    simpa using this
theorem Str_info : (Try.prog.info? 9).map (fun i => (i.zero, i.size, i.bytes)) = some (some (.string ⟨#[]⟩), 1, 16) := by kernel_rfl
set_option maxHeartbeats 1000000 in
theorem toStringS_calls (A : Option Addr) (n c : Nat) (s : Nat → ByteArray) (w : World) (h : StrRow w A n s) (hn : n ≤ 1048576) :
    Calls Try.prog 53 #[.slice A n c] w fun e w' => e = .returned (.slice (some ⟨w.heap.size, 0, none⟩) n n) ∧ Below w.heap.size w w' ∧ w.heap.size < w'.heap.size ∧ StrOwn w' (some ⟨w.heap.size, 0, none⟩) n s w.heap.size := by
  obtain ⟨ie, hi, hz0, hz1, hz2⟩ := info_parts Str_info
  have hmk := run_make_rowN (P := Try.prog) 48 9 ie _ Try.underlying48 hi hz0 .i64 .i64 n n (Nat.le_refl _) (by rw [hz2]; omega) (by omega) w
  rw [hz1] at hmk
  have hsz0 := madeCells_size (Value.cells (.string ⟨#[]⟩)) (n * 1)
  generalize madeCells (Value.cells (.string ⟨#[]⟩)) (n * 1) = arr0 at hmk hsz0
  rw [Nat.mul_one] at hsz0
  have HSZ := Lib.hid hsz0
  have H := Lib.hid h
  clear h hsz0 hi hz0 hz1 hz2
  go_enter Try.func53, Try.ntmps53
  go_wp2
  clear hmk
  go_loopw [4] (fun i wr => ∃ (k : Nat) (arr : Array Value), k ≤ n ∧ i = .int .i64 k ∧ Hid (arr.size = n) ∧ Hid (Blk wr w.heap.size 9 arr) ∧ Below w.heap.size w wr ∧ w.heap.size < wr.heap.size ∧ Hid (StrArr arr k s)) (fun i _ => n - (intOf i).toNat)
  case atStart => exact ⟨0, arr0, by omega, rfl, HSZ, Blk.new w _ _, (Below.refl _ _).alloc (Nat.le_refl _) _, by simp, fun i hi => by omega⟩
  case round =>
    obtain ⟨k, arr, hk, rfl, hsz, hblk, hbr, hgt, hall⟩ := hrel
    by_cases hlt : k < n
    · obtain ⟨b, o, rfl, hrow⟩ := H.out (by omega)
      have c0 : wr.cell? ⟨b, o + k, none⟩ = some (.string (s k)) := (hbr.cell (p := ⟨b, o + k, none⟩) (cell_lt (hrow k hlt))).trans (hrow k hlt)
      have HR := Lib.hid hrow
      clear hrow
      obtain ⟨x0, hx0⟩ := arr_some (arr := arr) (j := k) (by have := hsz.out; omega)
      have y0 := (hblk.out.cell k).trans hx0
      have z0 := hblk.out.frozen k
      clear hx0
      go_wp2
      go_roundw
      case rel => exact ⟨k + 1, _, by omega, by go_num, by have := hsz.out; simpa [Hid] using this, Lib.hid (hblk.out.set_ k _), hbr.setCell (Nat.le_refl _) _, by simpa using hgt, hall.out.mark (Nat.le_of_eq hsz.out.symm) hlt rfl⟩
      case measure => simp [intOf]; omega
    · obtain rfl : k = n := by omega
      have hfin : Hid (StrOwn wr (some ⟨w.heap.size, 0, none⟩) k s w.heap.size) := Lib.hid fun _ => ⟨rfl, arr, hblk.out, Nat.le_of_eq hsz.out.symm, hall.out⟩
      clear hall hblk hsz
      go_wp2
      go_ret
      exact ⟨rfl, hbr, hgt, hfin.out⟩
set_option maxHeartbeats 1000000 in
theorem eqStringS_calls (A A2 : Option Addr) (n c c2 : Nat) (s : Nat → ByteArray) (w : World) (h : StrRow w A n s) (h2 : StrRow w A2 n s) (hn : n ≤ 1048576) :
    Calls Try.prog 70 #[.slice A n c, .slice A2 n c2] w fun e w' => e = .returned (.bool true) ∧ Below w.heap.size w w' := by
  have H := Lib.hid h
  have H2 := Lib.hid h2
  clear h h2
  go_enter Try.func70, Try.ntmps70
  go_wp2
  go_loopw [5] (fun i wr => ∃ k : Nat, k ≤ n ∧ i = .int .i64 k ∧ Below w.heap.size w wr) (fun i _ => n - (intOf i).toNat)
  case atStart => exact ⟨0, by omega, rfl, Below.refl _ _⟩
  case round =>
    obtain ⟨k, hk, rfl, hbr⟩ := hrel
    by_cases hlt : k < n
    · obtain ⟨b, o, rfl, hrow⟩ := H.out (by omega)
      obtain ⟨b2, o2, rfl, hrow2⟩ := H2.out (by omega)
      have c0 : wr.cell? ⟨b, o + k, none⟩ = some (.string (s k)) := (hbr.cell (p := ⟨b, o + k, none⟩) (cell_lt (hrow k hlt))).trans (hrow k hlt)
      have c1 : wr.cell? ⟨b2, o2 + k, none⟩ = some (.string (s k)) := (hbr.cell (p := ⟨b2, o2 + k, none⟩) (cell_lt (hrow2 k hlt))).trans (hrow2 k hlt)
      have HR := Lib.hid hrow
      have HR2 := Lib.hid hrow2
      clear hrow hrow2
      go_wp2_with fail
      go_quiet (fail)
      go_wp2
      go_roundw
      case rel => exact ⟨k + 1, by omega, by go_num, below_drewN hbr _⟩
      case measure => simp [intOf]; omega
    · obtain rfl : k = n := by omega
      go_wp2
      go_ret
      exact ⟨rfl, hbr⟩
/-- values and letters of a list of texts -/
def strsSz (s : Nat → ByteArray) (n : Nat) : Nat := n + sumS s n
set_option maxHeartbeats 1000000 in
theorem szStringS_calls (A : Option Addr) (n c : Nat) (s : Nat → ByteArray) (left : Int) (w : World) (h : StrRow w A n s) (hs : ∀ i, i < n → (s i).size ≤ maxLen) (hn : n ≤ maxLen) (h0 : 0 ≤ left) (h1 : left ≤ 4611686018427387904) :
    Calls Try.prog 45 #[.slice A n c, .int .i64 left] w fun e w' => e = .returned (.int .i64 (if left < (strsSz s n : Int) then -1 else left - (strsSz s n : Int))) ∧ Below w.heap.size w w' := by
  rw [show ((strsSz s n : Nat) : Int) = (n : Int) + sumS s n by unfold strsSz; omega]
  unfold maxLen at hn
  by_cases hl : left < n
  · rw [if_pos (by omega)]
    go_enter Try.func45, Try.ntmps45
    go_wp2
    go_ret
    exact ⟨rfl, Below.refl _ _⟩
  · have H := Lib.hid h
    have HS := Lib.hid hs
    clear h hs
    generalize hres : (if left < (n : Int) + sumS s n then (-1 : Int) else left - ((n : Int) + sumS s n)) = R
    have HRES := Lib.hid hres
    clear hres
    go_enter Try.func45, Try.ntmps45
    go_wp2
    go_loopw [1, 5] (fun l i wr => ∃ k q : Nat, k ≤ n ∧ l = .int .i64 (left - n - q) ∧ i = .int .i64 k ∧ (q : Int) ≤ left - n ∧ Hid (q = sumS s k) ∧ Below w.heap.size w wr) (fun _ i _ => n - (intOf i).toNat)
    case atStart => exact ⟨0, 0, by omega, by simp, rfl, by omega, rfl, Below.refl _ _⟩
    case round =>
      obtain ⟨k, q, hk, rfl, rfl, hq, hv, hbr⟩ := hrel
      by_cases hlt : k < n
      · have hsk := HS.out k hlt
        unfold maxLen at hsk
        have hmono := sumS_le s (show k + 1 ≤ n by omega)
        have hstep : Hid (sumS s (k + 1) = sumS s k + (s k).size) := rfl
        have hmono2 := Lib.hid hmono
        clear hmono
        obtain ⟨b, o, rfl, hrow⟩ := H.out (by omega)
        have c0 : wr.cell? ⟨b, o + k, none⟩ = some (.string (s k)) := (hbr.cell (p := ⟨b, o + k, none⟩) (cell_lt (hrow k hlt))).trans (hrow k hlt)
        have HR := Lib.hid hrow
        clear hrow
        by_cases hbig : left - n - q < (s k).size
        · go_wp2
          go_ret
          exact ⟨ret_int (by have h1 := hv.out; have h2 := hstep.out; have h3 := hmono2.out; rw [← HRES.out, if_pos (by omega)]), hbr⟩
        · go_wp2
          go_roundw
          case rel => exact ⟨k + 1, q + (s k).size, by omega, by congr 1; omega, by go_num, by omega, Lib.hid (by have h1 := hv.out; have h2 := hstep.out; omega), hbr⟩
          case measure => simp [intOf]; omega
      · obtain rfl : k = n := by omega
        have hfin : Hid (left - (k : Int) - q = R) := Lib.hid (by
          have h1 := hv.out
          rw [← HRES.out, if_neg (by omega)]; omega)
        go_wp2
        go_ret
        exact ⟨ret_int hfin.out, hbr⟩
/-- the digits of j ahead of t -/
noncomputable def digT (j : Nat) (t : ByteArray) : ByteArray := if h : 0 < j then digT (j / 10) ((⟨[UInt8.ofNat (48 + j % 10)].toArray⟩ : ByteArray) ++ t) else t
termination_by j
decreasing_by exact Nat.div_lt_self h (by omega)
theorem digT_pos {j : Nat} (h : 0 < j) (t : ByteArray) : digT j t = digT (j / 10) ((⟨[UInt8.ofNat (48 + j % 10)].toArray⟩ : ByteArray) ++ t) := by
  rw [digT, dif_pos h]
theorem digT_zero (t : ByteArray) : digT 0 t = t := by
  rw [digT, dif_neg (by omega)]
/-- the text of mark k -/
noncomputable def mkT (k : Nat) : ByteArray := (⟨#[109]⟩ : ByteArray) ++ digT k ⟨#[]⟩
set_option maxRecDepth 20000 in
set_option maxHeartbeats 2000000 in
theorem markTx_calls (k : Nat) (w : World) (h0 : 1 ≤ k) (hk : k ≤ 4000000000) :
    Calls Try.prog 41 #[.int .i64 k] w fun e w' => e = .returned (.string (mkT k)) ∧ Below w.heap.size w w' := by
  generalize hres : mkT k = R
  have HRES := Lib.hid hres
  clear hres
  go_enter Try.func41, Try.ntmps41
  go_wp2
  go_loopw [0, 3] (fun q s wr => ∃ (j : Nat) (t : ByteArray), q = .int .i64 j ∧ s = .string t ∧ t.size + j ≤ k ∧ Hid (digT j t = digT k ⟨#[]⟩) ∧ Hid (Below w.heap.size w wr)) (fun q _ _ => (intOf q).toNat)
  case atStart => exact ⟨k, _, rfl, rfl, by rw [show (ByteArray.size ⟨#[]⟩) = 0 from rfl]; omega, Lib.hid rfl, Lib.hid (Below.refl _ _)⟩
  case round =>
    obtain ⟨j, t, rfl, rfl, hj, hdig, hbr⟩ := hrel
    by_cases hlt : 0 < j
    · have g1 : ¬ 9223372036854775807 < 1 + t.size := by omega
      have hconv := run_convert_bytes_back (P := Try.prog) (wr.alloc (.cells #[.int .u8 (48 + (j : Int) % 10)] 5)) 99 9 5 ⟨wr.heap.size, 0, none⟩ 1 [UInt8.ofNat (48 + j % 10)] Try.underlying99 Try.underlying5 Try.underlying9 (fun i hi => by
        obtain rfl : i = 0 := by simpa using hi
        rw [show (⟨wr.heap.size, 0, none⟩ : Addr).add 0 = ⟨wr.heap.size, 0, none⟩ by simp [Addr.add]]
        refine ((Blk.new wr 5 _).cell 0).trans ?_
        have h1 : (UInt8.ofNat (48 + j % 10)).toNat = 48 + j % 10 := by simp; omega
        show some (Value.int .u8 (48 + (j : Int) % 10)) = some (Value.int .u8 ((UInt8.ofNat (48 + j % 10)).toNat : Int))
        rw [h1]
        congr 2)
      simp only [List.length_cons, List.length_nil, Nat.zero_add] at hconv
      have hd0 := digT_pos hlt t
      obtain ⟨d, hd⟩ : ∃ d : ByteArray, d = ⟨[UInt8.ofNat (48 + j % 10)].toArray⟩ := ⟨_, rfl⟩
      have hd1 : d.size = 1 := by rw [hd]; rfl
      rw [← hd] at hconv hd0
      have HD := Lib.hid hd0
      have g2 : ¬ 9223372036854775807 < d.size + t.size := by omega
      clear hd hd0
      go_wp2
      go_roundw
      case rel => exact ⟨j / 10, _, by go_num, rfl, by have := Nat.div_lt_self hlt (show 1 < 10 by omega); rw [ByteArray.size_append]; omega, Lib.hid (HD.out.symm.trans hdig.out), Lib.hid (hbr.out.alloc hbr.out.size _)⟩
      case measure => simp [intOf]; omega
    · obtain rfl : j = 0 := by omega
      have g1 : ¬ 9223372036854775807 < 1 + t.size := by omega
      have HT : Hid ((⟨#[109]⟩ : ByteArray) ++ t = R) := Lib.hid (by have h := hdig.out; rw [digT_zero] at h; rw [← HRES.out, h]; rfl)
      go_wp2
      go_ret
      exact ⟨by rw [← HT.out]; rfl, hbr.out⟩
noncomputable def mkS (k : Nat) : Nat → ByteArray := fun i => mkT (k + i)
set_option maxHeartbeats 2000000 in
theorem markStringS_calls (A : Option Addr) (n c G : Nat) (s : Nat → ByteArray) (k : Nat) (w : World) (h : StrOwn w A n s G) (hn : n ≤ 1048576) (h1 : 1 ≤ k) (hk : k ≤ 1000000000) :
    Calls Try.prog 42 #[.slice A n c, .int .i64 k] w fun e w' => e = .returned (.int .i64 ((k + n : Nat) : Int)) ∧ StrOwn w' A n (mkS k) G ∧ w.grownBy w' (some G) := by
  have H := Lib.hid h
  clear h
  go_enter Try.func42, Try.ntmps42
  go_wp2
  go_loopw [1, 5] (fun q i wr => ∃ j : Nat, j ≤ n ∧ q = .int .i64 ((k + j : Nat) : Int) ∧ i = .int .i64 j ∧ Hid (w.grownBy wr (some G)) ∧ Hid (0 < n → A = some ⟨G, 0, none⟩ ∧ ∃ arr : Array Value, Blk wr G 9 arr ∧ n ≤ arr.size ∧ StrArr arr j (mkS k))) (fun _ i _ => n - (intOf i).toNat)
  case atStart => exact ⟨0, by omega, rfl, rfl, Lib.hid (World.grownBy.refl _ _), Lib.hid fun hn => by
    obtain ⟨hA, arr, hb, hs, ha⟩ := H.out hn
    exact ⟨hA, arr, hb, hs, fun i hi => by omega⟩⟩
  case round =>
    obtain ⟨j, hj, rfl, rfl, hg, harr⟩ := hrel
    by_cases hlt : j < n
    · obtain ⟨rfl, arr, hb, hs, ha⟩ := harr.out (by omega)
      obtain ⟨x0, hx0⟩ := arr_some (arr := arr) (j := j) (by omega)
      have HX := Lib.hid hx0
      have HB := Lib.hid hb
      have HA := Lib.hid ha
      have HS := Lib.hid hs
      obtain ⟨M, hM⟩ : ∃ M : Nat, M = k + j := ⟨_, rfl⟩
      rw [← hM]
      have hMb : M ≤ 2000000000 := by omega
      have hM1 : 1 ≤ M := by omega
      have HM := Lib.hid hM
      clear hb ha hs hM hx0
      go_wp2_with (go_at_call 41; refine (markTx_calls M _ hM1 (by omega)).mono ?_; rintro e w1 ⟨rfl, hb1⟩; have hb2 := HB.out.keep hb1; have y0 := (hb2.cell j).trans HX.out; have z0 := hb2.frozen j; have hg2 := Lib.hid (gb_trans hg.out (gb_below hb1)); have HB2 := Lib.hid hb2; clear hb1 hb2)
      go_roundw
      case rel =>
        refine ⟨j + 1, by omega, by have := HM.out; go_num, by go_num, Lib.hid ?_, Lib.hid ?_⟩
        · exact gb_set hg2.out (by simp) _
        · intro _
          refine ⟨by first | rfl | trivial, _, HB2.out.set_ j _, by simpa using HS.out, ?_⟩
          exact HA.out.mark HS.out hlt (by have := HM.out; subst this; rfl)
      case measure => simp [intOf]; omega
    · obtain rfl : j = n := by omega
      go_wp2
      go_ret
      exact ⟨rfl, harr.out, hg.out⟩
open Go.ChangeShapes Go.WideShapes Go.Deep in
theorem openStrs {H : Type} {enc : TypeId × Value → H} {w : World} {base : Nat} {spare : Nat → Bool} {held : Bool} {fuel : Nat} {A : Option Addr} {n c : Nat} {x : DataW H × List MemPlace} (h : DataW.trod enc Try.prog w base spare held fuel 48 [.slice A n c] = some x) :
    ∃ s, StrRow w A n s ∧ n ≤ maxLen ∧ ∀ i, i < n → (s i).size ≤ maxLen := by
  rcases open_slice1 Try.underlying48 (by kernel_rfl) h with ⟨hcs, hx⟩ | ⟨a, len, cap, m, fu, V, D, Pl, hcs, hb, hl, hm, hmm, hx, hi⟩
  · simp only [List.cons.injEq, Value.slice.injEq, and_true] at hcs
    obtain ⟨rfl, rfl, rfl⟩ := hcs
    exact ⟨fun _ => ⟨#[]⟩, fun h0 => by omega, by unfold maxLen; omega, fun i h0 => by omega⟩
  · simp only [List.cons.injEq, Value.slice.injEq, and_true] at hcs
    obtain ⟨rfl, rfl, rfl⟩ := hcs
    have hlm : n ≤ m := by rw [hmm]; split <;> omega
    have hall : ∀ i, ∃ v : ByteArray, i < n → w.cell? (a.add i) = some (.string v) ∧ v.size ≤ maxLen := by
      intro i
      by_cases hin : i < n
      · obtain ⟨hc, ht⟩ := hi i (by omega)
        obtain ⟨v, e, _, q⟩ := DataW.trod_string Try.underlying9 ht
        have e1 := one_cell e
        rw [e1] at hc
        exact ⟨v, fun _ => ⟨hc, q⟩⟩
      · exact ⟨⟨#[]⟩, fun h0 => absurd h0 hin⟩
    obtain ⟨F, hF⟩ := Classical.axiomOfChoice hall
    refine ⟨F, fun hn => ?_, by omega, fun i h0 => (hF i h0).2⟩
    have hspot : a.spot = none := by
      obtain ⟨hc0, -⟩ := hi 0 (by omega)
      simpa [Addr.add] using Go.World.cell?_spot hc0
    obtain ⟨g, o, spot⟩ := a
    simp only at hspot
    subst hspot
    exact ⟨g, o, rfl, fun i h0 => cell_add (hF i h0).1 rfl⟩
end Go.Proofs.Yticnpibkpfpojaa
