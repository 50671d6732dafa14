/- slices.SortStableFunc over a list of at most 20 numbers that are places of pours, by when these are due. -/
import Derived.Test.YtonoeohmpaegdaaGreedyP
import Derived.Test.YtonoeohmpaegdaaInts
import Derived.Deep.AppendLies
namespace Go.Proofs.Ytonoeohmpaegdaa
set_option linter.unusedVariables false
open Go.RowKit Go.Sort

def cmpI (a b : Int) : Int := if a < b then -1 else if b < a then 1 else 0
theorem cmpI_neg {a b : Int} : cmpI a b < 0 ↔ a < b := by unfold cmpI; split <;> (try split) <;> omega
theorem isNaN_calls (x : Int) (w : World) : Calls Try.prog 97 #[.int .i64 x] w fun e w' => e = .returned (.bool false) ∧ w = w' := by
  go_enter Try.func97, Try.ntmps97
  go_wp2
  go_ret
  exact ⟨by first | rfl | simp, rfl⟩
theorem compare_calls (x y : Int) (w : World) : Calls Try.prog 65 #[.int .i64 x, .int .i64 y] w fun e w' => e = .returned (.int .i64 (cmpI x y)) ∧ w = w' := by
  rcases (show (x < y ∧ cmpI x y = -1) ∨ (¬ x < y ∧ y < x ∧ cmpI x y = 1) ∨ (¬ x < y ∧ ¬ y < x ∧ cmpI x y = 0) by unfold cmpI; split <;> (try split) <;> omega) with ⟨h1, h2⟩ | ⟨h1, h3, h2⟩ | ⟨h1, h3, h2⟩
  all_goals
    rw [h2]
    clear h2
    go_enter Try.func65, Try.ntmps65
    go_wp2_with (go_at_call 97; refine (isNaN_calls _ _).mono ?_; rintro e w1 ⟨rfl, rfl⟩)
    go_ret
    exact ⟨rfl, rfl⟩
set_option maxHeartbeats 1000000 in
theorem due1_calls (A : Option Addr) (n c : Nat) (ps : Nat → ByteArray) (pm pr pd : Nat → Int) (gb x y : Nat) (w : World) (h : PourRow w A n ps pm pr pd) (hn : n ≤ 1048576) (hg : w.cell? ⟨gb, 0, none⟩ = some (.slice A n c)) (hx : x < n) (hy : y < n) :
    Calls Try.prog 64 #[.int .i64 x, .int .i64 y, .pointer (some ⟨gb, 0, none⟩)] w fun e w' => e = .returned (.int .i64 (cmpI (pd x) (pd y))) ∧ ∃ q, w' = w.drewN q := by
  obtain ⟨b, o, rfl, hrow⟩ := h (by omega)
  obtain ⟨-, -, -, c3⟩ := hrow x hx
  obtain ⟨-, -, -, d3⟩ := hrow y hy
  have HR := Lib.hid hrow
  clear hrow h
  go_enter Try.func64, Try.ntmps64
  go_wp2_with fail
  go_quiet ((go_at_call 65; exact quiet_left (compare_calls _ _ _)))
  go_wp2
  go_ret
  exact ⟨rfl, _, rfl⟩
/-- block g holds the numbers of dk -/
def OrdBlk (w : World) (g n : Nat) (dk : Array Int) : Prop := ∃ cur : Array Value, Blk w g 2 cur ∧ n ≤ cur.size ∧ ∀ i, i < n → cur[i]? = some (.int .i64 dk[i]!)
/-- .. which are places -/
def Rng (n : Nat) (dk : Array Int) : Prop := dk.size = n ∧ ∀ i, i < n → 0 ≤ dk[i]! ∧ dk[i]! < (n : Int)
theorem Rng.swap {n : Nat} {dk : Array Int} (h : Rng n dk) {j : Nat} (hj : j + 1 < n) : Rng n (swp dk (j + 1) j) := by
  obtain ⟨hs, hr⟩ := h
  refine ⟨by rw [size_swp]; exact hs, fun i hi => ?_⟩
  rcases Nat.decEq i (j + 1) with h1 | h1
  · rcases Nat.decEq i j with h2 | h2
    · rw [swp_other dk (j + 1) j i h1 h2]; exact hr i hi
    · subst h2
      rw [swp_right dk (i + 1) i (by omega)]; exact hr _ hj
  · subst h1
    rw [swp_left dk (j + 1) j (by omega) (by omega)]; exact hr _ (by omega)
theorem OrdBlk.swap {cur : Array Value} {n : Nat} {dk : Array Int} (hz : n ≤ cur.size) (hs : dk.size = n) (hc : ∀ i, i < n → cur[i]? = some (.int .i64 dk[i]!)) {j : Nat} (hj : j + 1 < n) {x y : Int} (hx : dk[j + 1]! = x) (hy : dk[j]! = y) : ∀ i, i < n → ((cur.setIfInBounds (j + 1) (.int .i64 y)).setIfInBounds j (.int .i64 x))[i]? = some (.int .i64 (swp dk (j + 1) j)[i]!) := fun i hi => by
  subst hx hy
  rcases Nat.decEq i j with h2 | h2
  · rw [Array.getElem?_setIfInBounds_ne (by omega)]
    rcases Nat.decEq i (j + 1) with h1 | h1
    · rw [Array.getElem?_setIfInBounds_ne (by omega), hc i hi, swp_other dk (j + 1) j i h1 h2]
    · subst h1
      rw [Array.getElem?_setIfInBounds_self_of_lt (by omega), swp_left dk (j + 1) j (by omega) (by omega)]
  · subst h2
    rw [Array.getElem?_setIfInBounds_self_of_lt (by simp; omega), swp_right dk (i + 1) i (by omega)]
theorem inner_stop {lt : Int → Int → Bool} {j : Nat} {dk : Array Int} (h : j = 0 ∨ ∃ k, j = k + 1 ∧ lt dk[k + 1]! dk[k]! = false) : insInner lt 0 j dk = dk := by
  rcases h with rfl | ⟨k, rfl, h⟩
  · unfold insInner; rfl
  · unfold insInner; rw [if_neg (by simp [h])]
theorem inner_go {lt : Int → Int → Bool} {k : Nat} {dk : Array Int} (h : lt dk[k + 1]! dk[k]! = true) : insInner lt 0 (k + 1) dk = insInner lt 0 k (swp dk (k + 1) k) := by
  rw [insInner, if_pos (by simp [h])]
theorem outer_go {lt : Int → Int → Bool} {i n : Nat} {dk : Array Int} (h : i < n) : insOuter lt 0 n i dk = insOuter lt 0 n (i + 1) (insInner lt 0 i dk) := by rw [insOuter, if_pos h]
theorem outer_stop {lt : Int → Int → Bool} {i n : Nat} {dk : Array Int} (h : ¬ i < n) : insOuter lt 0 n i dk = dk := by rw [insOuter, if_neg h]
theorem gb_drewN {w w' : World} {g : Nat} (h : w.grownBy w' (some g)) (q : Nat) : w.grownBy (w'.drewN q) (some g) := ⟨h.os, h.tape, h.output, h.size, h.block⟩
theorem OrdBlk.drewN {w : World} {g n : Nat} {dk : Array Int} (h : OrdBlk w g n dk) (q : Nat) : OrdBlk (w.drewN q) g n dk := by
  obtain ⟨cur, h1, h2, h3⟩ := h
  exact ⟨cur, h1.drewN q, h2, h3⟩
set_option maxRecDepth 20000 in
set_option maxHeartbeats 4000000 in
theorem insSort_calls (g n cap : Nat) (d0 : Array Int) (pd : Nat → Int) (gb : Nat) (w : World) (hn : n ≤ 1048576) (hb : OrdBlk w g n d0) (hr : Rng n d0)
    (hp : ∀ W, w.grownBy W (some g) → ∀ x y : Nat, x < n → y < n → Calls Try.prog 64 #[.int .i64 x, .int .i64 y, .pointer (some ⟨gb, 0, none⟩)] W fun e w' => e = .returned (.int .i64 (cmpI (pd x) (pd y))) ∧ ∃ q, w' = W.drewN q) :
    Calls Try.prog 104 #[.slice (some ⟨g, 0, none⟩) n cap, .int .i64 0, .int .i64 n, .func (.func 64) #[] #[.pointer (some ⟨gb, 0, none⟩)]] w fun e w' => e = .returned (.tuple #[]) ∧ w.grownBy w' (some g) ∧ OrdBlk w' g n (insertionSort (dueLt pd) d0 0 n) := by
  have HP := Lib.hid hp
  have HB := Lib.hid hb
  have HRG := Lib.hid hr
  obtain ⟨R, hR⟩ : ∃ R, R = insertionSort (dueLt pd) d0 0 n := ⟨_, rfl⟩
  rw [← hR]
  have HO : Hid (insOuter (dueLt pd) 0 n 1 d0 = R) := Lib.hid (by rw [hR]; rfl)
  clear hp hb hr hR
  go_enter Try.func104, Try.ntmps104
  go_wp2
  go_loopw [8] (fun vi wr => ∃ (i : Nat) (dk : Array Int), vi = .int .i64 i ∧ 1 ≤ i ∧ i ≤ n + 1 ∧ Hid (Rng n dk) ∧ Hid (OrdBlk wr g n dk) ∧ Hid (insOuter (dueLt pd) 0 n i dk = R) ∧ Hid (w.grownBy wr (some g))) (fun vi _ => n + 1 - (intOf vi).toNat)
  case atStart => exact ⟨1, d0, by go_num, by omega, by omega, HRG, HB, HO, Lib.hid (World.grownBy.refl _ _)⟩
  case round =>
    clear HB HRG HO
    obtain ⟨i, dk, rfl, hi1, hin, hrg, hob, ho, hgr⟩ := hrel
    by_cases hlt : i < n
    · have HI0 : Hid (insOuter (dueLt pd) 0 n (i + 1) (insInner (dueLt pd) 0 i dk) = R) := Lib.hid (by rw [← ho.out, outer_go hlt])
      clear ho
      go_wp2
      go_loopw [9] (fun vj wr2 => ∃ (j : Nat) (dj : Array Int), vj = .int .i64 j ∧ j ≤ i ∧ Hid (Rng n dj) ∧ Hid (OrdBlk wr2 g n dj) ∧ Hid (insOuter (dueLt pd) 0 n (i + 1) (insInner (dueLt pd) 0 j dj) = R) ∧ Hid (w.grownBy wr2 (some g))) (fun vj _ => (intOf vj).toNat)
      case atStart => exact ⟨i, dk, rfl, by omega, hrg, hob, HI0, hgr⟩
      case round =>
        clear hrg hob HI0 hgr
        obtain ⟨j, dj, rfl, hji, hrg, hob, ho, hgr⟩ := hrel
        rcases Nat.eq_zero_or_pos j with rfl | hj0
        · have hg0 : decide (((0 : Nat) : Int) > (0 : Int)) = false := by decide
          have HS : Hid (insOuter (dueLt pd) 0 n (i + 1) dj = R) := Lib.hid (by rw [← ho.out, inner_stop (Or.inl rfl)])
          clear ho
          go_wp2_with fail
          go_quiet (fail)
          go_wp2
          go_roundw
          case rel => exact ⟨i + 1, dj, by go_num, by omega, by omega, hrg, Lib.hid (hob.out.drewN _), HS, Lib.hid (gb_drewN hgr.out _)⟩
          case measure => simp [intOf]; omega
        · obtain ⟨k, rfl⟩ : ∃ k, j = k + 1 := ⟨j - 1, by omega⟩
          obtain ⟨cur, hblk, hz, hc⟩ := hob.out
          obtain ⟨hrs, hrr⟩ := hrg.out
          obtain ⟨x0, x1⟩ := hrr (k + 1) (by omega)
          obtain ⟨y0, y1⟩ := hrr k (by omega)
          obtain ⟨X, hX⟩ := Int.eq_ofNat_of_zero_le x0
          obtain ⟨Y, hY⟩ := Int.eq_ofNat_of_zero_le y0
          have hXn : X < n := by omega
          have hYn : Y < n := by omega
          have cj := (hblk.cell (k + 1)).trans (hc (k + 1) (by omega))
          have cp := (hblk.cell k).trans (hc k (by omega))
          rw [hX] at cj
          rw [hY] at cp
          have fz := hblk.frozen
          have HF := Lib.hid fz
          have HBK := Lib.hid hblk
          have HC2 := Lib.hid hc
          have HX := Lib.hid hX
          have HY := Lib.hid hY
          have HZ := Lib.hid hz
          have HCL := Lib.hid (show ∀ q, Calls Try.prog 64 #[.int .i64 X, .int .i64 Y, .pointer (some ⟨gb, 0, none⟩)] (wr.drewN q) (fun e w' => e = .returned (.int .i64 (cmpI (pd X) (pd Y))) ∧ ∃ q2, w' = (wr.drewN q).drewN q2) from fun q => HP.out (wr.drewN q) (gb_drewN hgr.out q) X Y hXn hYn)
          have hcn := cmpI_neg (a := pd X) (b := pd Y)
          have hlt2 : dueLt pd dj[k + 1]! dj[k]! = decide (pd X < pd Y) := by rw [hX, hY]; rfl
          have hg1 : decide (((k + 1 : Nat) : Int) > (0 : Int)) = true := decide_eq_true (by omega)
          have hkz : ((k : Int) + 1) < (n : Int) := by omega
          have hg2 : decide ((k : Int) + 1 > (0 : Int)) = true := decide_eq_true (by omega)
          generalize hcv : cmpI (pd X) (pd Y) = cv at HCL hcn
          clear hblk hc hX hY hz hrr hrs x0 x1 y0 y1 hob fz hcv
          by_cases hlv : pd X < pd Y
          · have hcv2 : cv < 0 := hcn.2 hlv
            have HI : Hid (insOuter (dueLt pd) 0 n (i + 1) (insInner (dueLt pd) 0 k (swp dj (k + 1) k)) = R) := Lib.hid (by rw [← ho.out, inner_go (by rw [hlt2]; exact decide_eq_true hlv)])
            clear ho hlt2 hcn hlv
            go_wp2_with fail
            go_quiet ((go_at_call 64; with_reducible exact quiet_more (HCL.out _)))
            go_wp2_with fail
            refine wp_gen (fun W1 hW1 => ?_)
            have BK1 : Hid (Blk W1 g 2 cur) := Lib.hid (by rw [hW1]; exact HBK.out.drewN _)
            have GR1 : Hid (w.grownBy W1 (some g)) := Lib.hid (by rw [hW1]; exact gb_drewN hgr.out _)
            have cj1 : W1.cell? ⟨g, k + 1, none⟩ = some (.int .i64 X) := by rw [hW1]; exact cj
            have cp1 : W1.cell? ⟨g, k, none⟩ = some (.int .i64 Y) := by rw [hW1]; exact cp
            have f1 : W1.frozen? ⟨g, k + 1, none⟩ = false := BK1.out.frozen _
            have f2 : W1.frozen? ⟨g, k, none⟩ = false := BK1.out.frozen _
            clear hW1 cj cp hgr HBK
            go_region
            all_goals go_wp2
            all_goals go_roundw
            all_goals try (case measure => simp [intOf])
            all_goals refine ⟨k, swp dj (k + 1) k, by go_num, by omega, Lib.hid (hrg.out.swap (by omega)), Lib.hid ⟨_, ?_, ?_, OrdBlk.swap HZ.out hrg.out.1 HC2.out (by omega) HX.out HY.out⟩, HI, Lib.hid ?_⟩
            · exact (BK1.out.set_ (k + 1) _).set_ k _
            · have := HZ.out
              simpa using this
            · exact gb_drewN (gb_set (gb_set GR1.out rfl _) rfl _) 1
          · have hcv2 : ¬ cv < 0 := fun q => hlv (hcn.1 q)
            have HS : Hid (insOuter (dueLt pd) 0 n (i + 1) dj = R) := Lib.hid (by rw [← ho.out, inner_stop (Or.inr ⟨k, rfl, by rw [hlt2]; exact decide_eq_false hlv⟩)])
            clear ho hlt2 hcn hlv
            go_wp2_with fail
            go_quiet ((go_at_call 64; with_reducible exact quiet_more (HCL.out _)))
            go_wp2
            go_roundw
            case rel => exact ⟨i + 1, dj, by go_num, by omega, by omega, hrg, Lib.hid ⟨cur, HBK.out.drewN _, HZ.out, HC2.out⟩, HS, Lib.hid (gb_drewN hgr.out _)⟩
            case measure => simp [intOf]; omega
    · have HS : Hid (dk = R) := Lib.hid (by rw [← ho.out, outer_stop hlt])
      clear ho
      go_wp2
      go_end0
      exact ⟨rfl, hgr.out, by rw [← HS.out]; exact hob.out⟩
set_option maxRecDepth 20000 in
set_option maxHeartbeats 2000000 in
theorem stable_calls (g n cap : Nat) (d0 : Array Int) (pd : Nat → Int) (gb : Nat) (w : World) (hn : n ≤ 12) (hb : OrdBlk w g n d0) (hr : Rng n d0) (hp : ∀ W, w.grownBy W (some g) → ∀ x y : Nat, x < n → y < n → Calls Try.prog 64 #[.int .i64 x, .int .i64 y, .pointer (some ⟨gb, 0, none⟩)] W fun e w' => e = .returned (.int .i64 (cmpI (pd x) (pd y))) ∧ ∃ q, w' = W.drewN q) :
    Calls Try.prog 96 #[.slice (some ⟨g, 0, none⟩) n cap, .int .i64 n, .func (.func 64) #[] #[.pointer (some ⟨gb, 0, none⟩)]] w fun e w' => e = .returned (.tuple #[]) ∧ w.grownBy w' (some g) ∧ OrdBlk w' g n (insertionSort (dueLt pd) d0 0 n) := by
  have HP := Lib.hid (insSort_calls g n cap d0 pd gb w (by omega) hb hr hp)
  clear hp hb hr
  go_enter Try.func96, Try.ntmps96
  go_wp2
  go_loopw [8, 7] (fun vi va wr => vi = .int .i64 20 ∧ va = .int .i64 0 ∧ w = wr) (fun _ _ _ => 0)
  case atStart => exact ⟨rfl, rfl, rfl⟩
  case round =>
    obtain ⟨rfl, rfl, rfl⟩ := hrel
    go_wp2_with (go_at_call 104; refine HP.out.mono ?_; rintro e w1 ⟨rfl, h1, h2⟩)
    go_loopw [6] (fun vi wr => vi = .int .i64 20 ∧ w1 = wr) (fun _ _ => 0)
    case atStart => exact ⟨rfl, rfl⟩
    case round =>
      obtain ⟨rfl, rfl⟩ := hrel
      go_wp2
      go_end0
      exact ⟨rfl, h1, h2⟩
set_option maxRecDepth 20000 in
set_option maxHeartbeats 2000000 in
theorem sortStable_calls (g n cap : Nat) (d0 : Array Int) (pd : Nat → Int) (gb : Nat) (w : World) (hn : n ≤ 12) (hb : OrdBlk w g n d0) (hr : Rng n d0) (hp : ∀ W, w.grownBy W (some g) → ∀ x y : Nat, x < n → y < n → Calls Try.prog 64 #[.int .i64 x, .int .i64 y, .pointer (some ⟨gb, 0, none⟩)] W fun e w' => e = .returned (.int .i64 (cmpI (pd x) (pd y))) ∧ ∃ q, w' = W.drewN q) :
    Calls Try.prog 63 #[.slice (some ⟨g, 0, none⟩) n cap, .func (.func 64) #[] #[.pointer (some ⟨gb, 0, none⟩)]] w fun e w' => e = .returned (.tuple #[]) ∧ w.grownBy w' (some g) ∧ OrdBlk w' g n (insertionSort (dueLt pd) d0 0 n) := by
  have HP := Lib.hid (stable_calls g n cap d0 pd gb w hn hb hr hp)
  clear hp hb hr
  go_enter Try.func63, Try.ntmps63
  go_wp2_with (go_at_call 96; refine HP.out.mono ?_; rintro e w1 ⟨rfl, h1, h2⟩)
  go_end0
  exact ⟨rfl, h1, h2⟩
set_option maxRecDepth 20000 in
theorem insNone_calls (A : Option Addr) (c : Nat) (f : Value) (w : World) :
    Calls Try.prog 104 #[.slice A 0 c, .int .i64 0, .int .i64 0, f] w fun e w' => e = .returned (.tuple #[]) ∧ w = w' := by
  go_enter Try.func104, Try.ntmps104
  go_wp2
  go_loopw [8] (fun vi wr => vi = .int .i64 1 ∧ w = wr) (fun _ _ => 0)
  case atStart => exact ⟨by go_num, rfl⟩
  case round =>
    obtain ⟨rfl, rfl⟩ := hrel
    go_wp2
    go_end0
    exact ⟨rfl, rfl⟩
set_option maxRecDepth 20000 in
theorem stableNone_calls (A : Option Addr) (c : Nat) (f : Value) (w : World) :
    Calls Try.prog 96 #[.slice A 0 c, .int .i64 0, f] w fun e w' => e = .returned (.tuple #[]) ∧ w = w' := by
  go_enter Try.func96, Try.ntmps96
  go_wp2
  go_loopw [8, 7] (fun vi va wr => vi = .int .i64 20 ∧ va = .int .i64 0 ∧ w = wr) (fun _ _ _ => 0)
  case atStart => exact ⟨rfl, rfl, rfl⟩
  case round =>
    obtain ⟨rfl, rfl, rfl⟩ := hrel
    go_wp2_with (go_at_call 104; refine (insNone_calls _ _ _ _).mono ?_; rintro e w1 ⟨rfl, rfl⟩)
    go_loopw [6] (fun vi wr => vi = .int .i64 20 ∧ w = wr) (fun _ _ => 0)
    case atStart => exact ⟨rfl, rfl⟩
    case round =>
      obtain ⟨rfl, rfl⟩ := hrel
      go_wp2
      go_end0
      exact ⟨rfl, rfl⟩
theorem sortNone_calls (A : Option Addr) (c : Nat) (f : Value) (w : World) :
    Calls Try.prog 63 #[.slice A 0 c, f] w fun e w' => e = .returned (.tuple #[]) ∧ w = w' := by
  go_enter Try.func63, Try.ntmps63
  go_wp2_with (go_at_call 96; refine (stableNone_calls _ _ _ _).mono ?_; rintro e w1 ⟨rfl, rfl⟩)
  go_end0
  exact ⟨rfl, rfl⟩
end Go.Proofs.Ytonoeohmpaegdaa
