/- What mark and held do with lists of numbers, and markText. -/
import Derived.Test.YtonoeohmpaegdaaInts
import Derived.Test.YtonoeohmpaegdaaOwn
import Derived.KernelRfl
namespace Go.Proofs.Ytonoeohmpaegdaa
set_option linter.unusedVariables false
open Go.RowKit

/-- a row of numbers at the head of a block of the call's own -/
def IntOwn (w : World) (A : Option Addr) (n : Nat) (p : Nat → Int) (G : Nat) : Prop := 0 < n → A = some ⟨G, 0, none⟩ ∧ ∃ arr : Array Value, Blk w G 2 arr ∧ n ≤ arr.size ∧ IntArr arr n p
theorem IntOwn.row {w : World} {A : Option Addr} {n G : Nat} {p : Nat → Int} (h : IntOwn w A n p G) : IntRow w A n p := fun hn => by
  obtain ⟨hA, arr, hb, -, ha⟩ := h hn
  exact hA ▸ (ha.row hb) hn
theorem IntOwn.keep {w w' : World} {A : Option Addr} {n G : Nat} {p : Nat → Int} (h : IntOwn w A n p G) (hb : Below w.heap.size w w') : IntOwn w' A n p G := fun hn => by
  obtain ⟨hA, arr, hk, hs, ha⟩ := h hn
  exact ⟨hA, arr, hk.keep hb, hs, ha⟩
theorem IntOwn.grown {w w' : World} {A : Option Addr} {n G H : Nat} {p : Nat → Int} (h : IntOwn w A n p G) (hg : w.grownBy w' (some H)) (hne : 0 < n → G ≠ H) : IntOwn w' A n p G := fun hn => by
  obtain ⟨hA, arr, hk, hs, ha⟩ := h hn
  exact ⟨hA, arr, (hg.block G hk.lt (by simpa using hne hn)).trans hk, hs, ha⟩
theorem IntOwn.lt {w : World} {A : Option Addr} {n G : Nat} {p : Nat → Int} (h : IntOwn w A n p G) (hn : 0 < n) : G < w.heap.size := by
  obtain ⟨-, arr, hb, -⟩ := h hn
  exact hb.lt
theorem intOwn_of {w : World} {base n : Nat} {v : Value} {f : Nat → Int} (ho : w.ownsRow base 2 1 v n (intsL f n)) (hbase : base ≤ w.heap.size) : ∃ A c G, v = .slice A n c ∧ IntOwn w A n f G ∧ base ≤ G := by
  rcases ho.2 with ⟨hv, h0⟩ | ⟨g, cap, cur, hv, hb, hg, hc, hm, hs, ht⟩
  · subst h0
    exact ⟨none, 0, base, hv, fun h => absurd h (Nat.lt_irrefl _), Nat.le_refl _⟩
  · refine ⟨some ⟨g, 0, none⟩, cap, g, hv, fun hn => ⟨rfl, cur, hg, by rw [hs]; omega, fun i hi => ?_⟩, hb⟩
    have := (congrArg (fun l => l[i]?) ht)
    simp only [List.getElem?_take, Nat.mul_one, if_pos hi, intsL_at f hi] at this
    simpa using this
theorem IntArr.mark {arr : Array Value} {n k : Nat} {p : Nat → Int} (h : IntArr arr k p) (hs : n ≤ arr.size) (hk : k < n) {v : Int} (e : v = p k) : IntArr (arr.setIfInBounds k (.int .i64 v)) (k + 1) p := by
  subst e
  intro i hi
  rcases Nat.lt_or_ge i k with h1 | h1
  · rw [Array.getElem?_setIfInBounds_ne (by omega)]
    exact h i h1
  · obtain rfl : i = k := by omega
    rw [Array.getElem?_setIfInBounds_self_of_lt (by omega)]
def mk1 (k : Nat) : Nat → Int := fun i => ((k + i : Nat) : Int)
set_option maxHeartbeats 2000000 in
theorem markInt64S_calls (A : Option Addr) (n c G : Nat) (p : Nat → Int) (k : Nat) (w : World) (h : IntOwn w A n p G) (hn : n ≤ 1048576) (hk : k ≤ 1000000000) :
    Calls Try.prog 16 #[.slice A n c, .int .i64 k] w fun e w' => e = .returned (.int .i64 ((k + n : Nat) : Int)) ∧ IntOwn w' A n (mk1 k) G ∧ w.grownBy w' (some G) := by
  have H := Lib.hid h
  clear h
  go_enter Try.func16, Try.ntmps16
  go_wp2
  go_loopw [1, 5] (fun q i wr => ∃ j : Nat, j ≤ n ∧ q = .int .i64 ((k + j : Nat) : Int) ∧ i = .int .i64 j ∧ Hid (w.grownBy wr (some G)) ∧ Hid (0 < n → A = some ⟨G, 0, none⟩ ∧ ∃ arr : Array Value, Blk wr G 2 arr ∧ n ≤ arr.size ∧ IntArr arr j (mk1 k))) (fun _ i _ => n - (intOf i).toNat)
  case atStart => exact ⟨0, by omega, rfl, rfl, Lib.hid (World.grownBy.refl _ _), Lib.hid fun hn => by
    obtain ⟨hA, arr, hb, hs, ha⟩ := H.out hn
    exact ⟨hA, arr, hb, hs, fun i hi => by omega⟩⟩
  case round =>
    obtain ⟨j, hj, rfl, rfl, hg, harr⟩ := hrel
    by_cases hlt : j < n
    · obtain ⟨rfl, arr, hb, hs, ha⟩ := harr.out (by omega)
      obtain ⟨x0, hx0⟩ := arr_some (arr := arr) (j := j) (by omega)
      have y0 := (hb.cell j).trans hx0
      have z0 := hb.frozen j
      have HB := Lib.hid hb
      have HA := Lib.hid ha
      have HS := Lib.hid hs
      obtain ⟨M, hM⟩ : ∃ M : Nat, M = k + j := ⟨_, rfl⟩
      rw [← hM]
      have hMb : M ≤ 2000000000000 := by omega
      have HM := Lib.hid hM
      clear hb ha hs hM hx0
      go_wp2
      go_roundw
      case rel =>
        refine ⟨j + 1, by omega, by have := HM.out; go_num, by go_num, Lib.hid ?_, Lib.hid ?_⟩
        · exact gb_set hg.out (by simp) _
        · intro _
          refine ⟨by first | rfl | trivial, _, HB.out.set_ j _, by simpa using HS.out, ?_⟩
          exact HA.out.mark HS.out hlt (by have := HM.out; show _ = ((k + j : Nat) : Int); omega)
      case measure => simp [intOf]; omega
    · obtain rfl : j = n := by omega
      go_wp2
      go_ret
      exact ⟨rfl, harr.out, hg.out⟩
set_option maxHeartbeats 2000000 in
theorem heldInt64S_calls (A : Option Addr) (n c k : Nat) (w : World) (h : IntRow w A n (mk1 k)) (hn : n ≤ 1048576) (hk : k ≤ 1000000000) :
    Calls Try.prog 17 #[.slice A n c, .int .i64 k] w fun e w' => e = .returned (.int .i64 ((k + n : Nat) : Int)) ∧ w = w' := by
  have H := Lib.hid h
  clear h
  go_enter Try.func17, Try.ntmps17
  go_wp2
  go_loopw [1, 5] (fun q i wr => ∃ j : Nat, j ≤ n ∧ q = .int .i64 ((k + j : Nat) : Int) ∧ i = .int .i64 j ∧ w = wr) (fun _ i _ => n - (intOf i).toNat)
  case atStart => exact ⟨0, by omega, rfl, rfl, rfl⟩
  case round =>
    obtain ⟨j, hj, rfl, rfl, rfl⟩ := hrel
    by_cases hlt : j < n
    · obtain ⟨b, o, rfl, hrow⟩ := H.out (by omega)
      have c0 := hrow j hlt
      obtain ⟨M, hM⟩ : ∃ M : Nat, M = k + j := ⟨_, rfl⟩
      have hMb : M ≤ 2000000000000 := by omega
      have d0 : w.cell? ⟨b, o + j, none⟩ = some (.int .i64 (M : Int)) := c0.trans (by rw [hM]; rfl)
      rw [← hM]
      have HM := Lib.hid hM
      have HR := Lib.hid hrow
      clear hM hrow c0
      go_wp2
      go_roundw
      case rel => exact ⟨j + 1, by omega, by have := HM.out; go_num, by go_num, by first | rfl | trivial⟩
      case measure => simp [intOf]; omega
    · obtain rfl : j = n := by omega
      go_wp2
      go_ret
      exact ⟨rfl, rfl⟩
set_option maxRecDepth 20000 in
set_option maxHeartbeats 2000000 in
theorem markText_calls (k : Nat) (w : World) (hk : k ≤ 4000000000) :
    Calls Try.prog 50 #[.int .i64 k] w fun e w' => (∃ t : ByteArray, e = .returned (.string t)) ∧ Below w.heap.size w w' := by
  rcases Nat.eq_zero_or_pos k with h0 | h0
  · subst h0
    go_enter Try.func50, Try.ntmps50
    go_wp2
    go_ret
    exact ⟨⟨_, rfl⟩, Below.refl _ _⟩
  · go_enter Try.func50, Try.ntmps50
    go_wp2
    go_loopw [0, 3] (fun q s wr => ∃ (j : Nat) (t : ByteArray), q = .int .i64 j ∧ s = .string t ∧ t.size + j ≤ k ∧ Hid (Below w.heap.size w wr)) (fun q _ _ => (intOf q).toNat)
    case atStart => exact ⟨k, _, rfl, rfl, by rw [show (ByteArray.size ⟨#[]⟩) = 0 from rfl]; omega, Lib.hid (Below.refl _ _)⟩
    case round =>
      obtain ⟨j, t, rfl, rfl, hj, hbr⟩ := hrel
      by_cases hlt : 0 < j
      · have g1 : ¬ 9223372036854775807 < 1 + t.size := by omega
        have hconv := run_convert_bytes_back (P := Try.prog) (wr.alloc (.cells #[.int .u8 (48 + (j : Int) % 10)] 5)) 140 9 5 ⟨wr.heap.size, 0, none⟩ 1 [UInt8.ofNat (48 + j % 10)] Try.underlying140 Try.underlying5 Try.underlying9 (fun i hi => by
          obtain rfl : i = 0 := by simpa using hi
          rw [show (⟨wr.heap.size, 0, none⟩ : Addr).add 0 = ⟨wr.heap.size, 0, none⟩ by simp [Addr.add]]
          refine ((Blk.new wr 5 _).cell 0).trans ?_
          have h1 : (UInt8.ofNat (48 + j % 10)).toNat = 48 + j % 10 := by simp; omega
          show some (Value.int .u8 (48 + (j : Int) % 10)) = some (Value.int .u8 ((UInt8.ofNat (48 + j % 10)).toNat : Int))
          rw [h1]
          congr 2)
        simp only [List.length_cons, List.length_nil, Nat.zero_add] at hconv
        obtain ⟨d, hd⟩ : ∃ d : ByteArray, d = ⟨[UInt8.ofNat (48 + j % 10)].toArray⟩ := ⟨_, rfl⟩
        have hd1 : d.size = 1 := by rw [hd]; rfl
        rw [← hd] at hconv
        have g2 : ¬ 9223372036854775807 < d.size + t.size := by omega
        clear hd
        go_wp2
        go_roundw
        case rel => exact ⟨j / 10, _, by go_num, rfl, by have := Nat.div_lt_self hlt (show 1 < 10 by omega); rw [ByteArray.size_append]; omega, Lib.hid (hbr.out.alloc hbr.out.size _)⟩
        case measure => simp [intOf]; omega
      · obtain rfl : j = 0 := by omega
        have g1 : ¬ 9223372036854775807 < 1 + t.size := by omega
        go_wp2
        go_ret
        exact ⟨⟨_, rfl⟩, hbr.out⟩
end Go.Proofs.Ytonoeohmpaegdaa
