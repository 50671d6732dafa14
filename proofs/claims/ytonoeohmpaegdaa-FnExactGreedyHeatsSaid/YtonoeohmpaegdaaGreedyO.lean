/- What GreedyHeats gives: words for its result, the valid arguments, one heat's numbers. -/
import Derived.Test.YtonoeohmpaegdaaSortO
import Derived.Test.YtonoeohmpaegdaaFreesS
namespace Go.Proofs.Ytonoeohmpaegdaa
set_option linter.unusedVariables false
open Go.RowKit Go.Sort

theorem Heat_info : (Try.prog.info? 105).map (fun i => (i.zero, i.size, i.bytes)) = some (some (.agg #[.int .i64 0, .int .i64 0, .int .i64 0, .int .i64 0]), 4, 32) := by kernel_rfl
def HeatArr (arr : Array Value) (m : Nat) (a0 a1 a2 a3 : Nat → Int) : Prop := ∀ i, i < m → arr[i * 4]? = some (.int .i64 (a0 i)) ∧ arr[i * 4 + 1]? = some (.int .i64 (a1 i)) ∧ arr[i * 4 + 2]? = some (.int .i64 (a2 i)) ∧ arr[i * 4 + 3]? = some (.int .i64 (a3 i))
theorem HeatArr.row {w : World} {g T n : Nat} {arr : Array Value} {a0 a1 a2 a3 : Nat → Int} (h : HeatArr arr n a0 a1 a2 a3) (hb : Blk w g T arr) : HeatRow w (some ⟨g, 0, none⟩) n a0 a1 a2 a3 := fun _ =>
  ⟨g, 0, rfl, fun i hi => by
    have h2 := h i hi
    rw [Nat.zero_add]
    exact ⟨(hb.cell _).trans h2.1, (hb.cell _).trans h2.2.1, (hb.cell _).trans h2.2.2.1, (hb.cell _).trans h2.2.2.2⟩⟩
/-- the row lies at the head of a block of the call's own -/
def HeatOwn (w : World) (A : Option Addr) (n : Nat) (a0 : Nat → Int) (a1 : Nat → Int) (a2 : Nat → Int) (a3 : Nat → Int) (G : Nat) : Prop := 0 < n → A = some ⟨G, 0, none⟩ ∧ ∃ arr : Array Value, Blk w G 105 arr ∧ n * 4 ≤ arr.size ∧ HeatArr arr n a0 a1 a2 a3
theorem HeatOwn.row {w : World} {A : Option Addr} {n G : Nat} {a0 : Nat → Int} {a1 : Nat → Int} {a2 : Nat → Int} {a3 : Nat → Int} (h : HeatOwn w A n a0 a1 a2 a3 G) : HeatRow w A n a0 a1 a2 a3 := fun hn => by
  obtain ⟨hA, arr, hb, -, ha⟩ := h hn
  exact hA ▸ (ha.row hb) hn
theorem HeatOwn.keep {w w' : World} {A : Option Addr} {n G : Nat} {a0 : Nat → Int} {a1 : Nat → Int} {a2 : Nat → Int} {a3 : Nat → Int} (h : HeatOwn w A n a0 a1 a2 a3 G) (hb : Below w.heap.size w w') : HeatOwn w' A n a0 a1 a2 a3 G := fun hn => by
  obtain ⟨hA, arr, hk, hs, ha⟩ := h hn
  exact ⟨hA, arr, hk.keep hb, hs, ha⟩
theorem HeatOwn.grown {w w' : World} {A : Option Addr} {n G H : Nat} {a0 : Nat → Int} {a1 : Nat → Int} {a2 : Nat → Int} {a3 : Nat → Int} (h : HeatOwn w A n a0 a1 a2 a3 G) (hg : w.grownBy w' (some H)) (hne : G ≠ H) : HeatOwn w' A n a0 a1 a2 a3 G := fun hn => by
  obtain ⟨hA, arr, hk, hs, ha⟩ := h hn
  exact ⟨hA, arr, (hg.block G hk.lt (by simpa using hne)).trans hk, hs, ha⟩
theorem HeatRow.grown {w w' : World} {A : Option Addr} {n H : Nat} {a0 : Nat → Int} {a1 : Nat → Int} {a2 : Nat → Int} {a3 : Nat → Int} (h : HeatRow w A n a0 a1 a2 a3) (hg : w.grownBy w' (some H)) (hne : ∀ b o, A = some ⟨b, o, none⟩ → b ≠ H) : HeatRow w' A n a0 a1 a2 a3 := fun hn => by
  obtain ⟨b, o, hA, hall⟩ := h hn
  have hb := hne b o hA
  exact ⟨b, o, hA, fun i hi => ⟨hg.cell (hall i hi).1 (by simpa using hb), hg.cell (hall i hi).2.1 (by simpa using hb), hg.cell (hall i hi).2.2.1 (by simpa using hb), hg.cell (hall i hi).2.2.2 (by simpa using hb)⟩⟩
theorem HeatArr.mark {arr : Array Value} {n k : Nat} {a0 : Nat → Int} {a1 : Nat → Int} {a2 : Nat → Int} {a3 : Nat → Int} {v0 : Int} {v1 : Int} {v2 : Int} {v3 : Int} (h : HeatArr arr k a0 a1 a2 a3) (hs : n * 4 ≤ arr.size) (hk : k < n) (e0 : v0 = a0 k) (e1 : v1 = a1 k) (e2 : v2 = a2 k) (e3 : v3 = a3 k) : HeatArr ((((arr.setIfInBounds (k * 4) (.int .i64 v0)).setIfInBounds (k * 4 + 1) (.int .i64 v1)).setIfInBounds (k * 4 + 2) (.int .i64 v2)).setIfInBounds (k * 4 + 3) (.int .i64 v3)) (k + 1) a0 a1 a2 a3 := by
  subst e0 e1 e2 e3
  intro i hi
  rcases Nat.lt_or_ge i k with h1 | h1
  · have h2 := h i h1
    refine ⟨?_, ?_, ?_, ?_⟩
    all_goals simp (disch := omega) only [Array.getElem?_setIfInBounds_ne]
    · exact h2.1
    · exact h2.2.1
    · exact h2.2.2.1
    · exact h2.2.2.2
  · obtain rfl : i = k := by omega
    refine ⟨?_, ?_, ?_, ?_⟩
    · rw [Array.getElem?_setIfInBounds_ne (by omega), Array.getElem?_setIfInBounds_ne (by omega), Array.getElem?_setIfInBounds_ne (by omega), Array.getElem?_setIfInBounds_self_of_lt (by (try simp); omega)]
    · rw [Array.getElem?_setIfInBounds_ne (by omega), Array.getElem?_setIfInBounds_ne (by omega), Array.getElem?_setIfInBounds_self_of_lt (by (try simp); omega)]
    · rw [Array.getElem?_setIfInBounds_ne (by omega), Array.getElem?_setIfInBounds_self_of_lt (by (try simp); omega)]
    · rw [Array.getElem?_setIfInBounds_self_of_lt (by (try simp); omega)]
theorem HeatArr.size_mark {arr : Array Value} {n k : Nat} {v0 : Int} {v1 : Int} {v2 : Int} {v3 : Int} (hs : n * 4 ≤ arr.size) : n * 4 ≤ (((((arr.setIfInBounds (k * 4) (.int .i64 v0)).setIfInBounds (k * 4 + 1) (.int .i64 v1)).setIfInBounds (k * 4 + 2) (.int .i64 v2)).setIfInBounds (k * 4 + 3) (.int .i64 v3))).size := by simpa using hs
theorem HeatOwn.same {w w' : World} {A : Option Addr} {n G : Nat} {a0 : Nat → Int} {a1 : Nat → Int} {a2 : Nat → Int} {a3 : Nat → Int} (h : HeatOwn w A n a0 a1 a2 a3 G) (hb : w'.heap[G]? = w.heap[G]?) : HeatOwn w' A n a0 a1 a2 a3 G := fun hn => by
  obtain ⟨hA, arr, hk, hs, ha⟩ := h hn
  exact ⟨hA, arr, hb.trans hk, hs, ha⟩
set_option maxRecDepth 20000 in
set_option maxHeartbeats 2000000 in
theorem markHeatS_calls (A : Option Addr) (n c G : Nat) (a0 : Nat → Int) (a1 : Nat → Int) (a2 : Nat → Int) (a3 : Nat → Int) (k : Nat) (w : World) (h : HeatOwn w A n a0 a1 a2 a3 G) (hn : n ≤ 1048576) (hk : k ≤ 1000000000) :
    Calls Try.prog 29 #[.slice A n c, .int .i64 k] w fun e w' => e = .returned (.int .i64 ((k + 4 * n : Nat) : Int)) ∧ HeatOwn w' A n (fun i => ((k + 4 * i : Nat) : Int)) (fun i => ((k + 4 * i + 1 : Nat) : Int)) (fun i => ((k + 4 * i + 2 : Nat) : Int)) (fun i => ((k + 4 * i + 3 : Nat) : Int)) G ∧ w.grownBy w' (some G) := by
  have H := Lib.hid h
  clear h
  go_enter Try.func29, Try.ntmps29
  go_wp2
  go_loopw [1, 5] (fun q i wr => ∃ j : Nat, j ≤ n ∧ q = .int .i64 ((k + 4 * j : Nat) : Int) ∧ i = .int .i64 j ∧ Hid (w.grownBy wr (some G)) ∧ Hid (0 < n → A = some ⟨G, 0, none⟩ ∧ ∃ arr : Array Value, Blk wr G 105 arr ∧ n * 4 ≤ arr.size ∧ HeatArr arr j (fun i => ((k + 4 * i : Nat) : Int)) (fun i => ((k + 4 * i + 1 : Nat) : Int)) (fun i => ((k + 4 * i + 2 : Nat) : Int)) (fun i => ((k + 4 * i + 3 : Nat) : Int)))) (fun _ i _ => n - (intOf i).toNat)
  case atStart => exact ⟨0, by omega, rfl, rfl, Lib.hid (World.grownBy.refl _ _), Lib.hid fun hn => by
    obtain ⟨hA, arr, hb, hs, ha⟩ := H.out hn
    exact ⟨hA, arr, hb, hs, fun i hi => by omega⟩⟩
  case round =>
    obtain ⟨j, hj, rfl, rfl, hg, harr⟩ := hrel
    by_cases hlt : j < n
    · obtain ⟨rfl, arr, hb, hs, ha⟩ := harr.out (by omega)
      obtain ⟨x0, hx0⟩ := arr_some (arr := arr) (j := j * 4) (by omega)
      obtain ⟨x1, hx1⟩ := arr_some (arr := arr) (j := j * 4 + 1) (by omega)
      obtain ⟨x2, hx2⟩ := arr_some (arr := arr) (j := j * 4 + 2) (by omega)
      obtain ⟨x3, hx3⟩ := arr_some (arr := arr) (j := j * 4 + 3) (by omega)
      have y0 := (hb.cell (j * 4)).trans hx0
      have z0 := hb.frozen (j * 4)
      have y1 := (hb.cell (j * 4 + 1)).trans hx1
      have z1 := hb.frozen (j * 4 + 1)
      have y2 := (hb.cell (j * 4 + 2)).trans hx2
      have z2 := hb.frozen (j * 4 + 2)
      have y3 := (hb.cell (j * 4 + 3)).trans hx3
      have z3 := hb.frozen (j * 4 + 3)
      have HB := Lib.hid hb
      have HA := Lib.hid ha
      have HS := Lib.hid hs
      obtain ⟨M, hM⟩ : ∃ M : Nat, M = k + 4 * j := ⟨_, rfl⟩
      rw [← hM]
      have hMb : M ≤ 2000000000000 := by omega
      have HM := Lib.hid hM
      clear hb ha hs hM hx0 hx1 hx2 hx3
      go_wp2
      go_roundw
      case rel =>
        refine ⟨j + 1, by omega, by have := HM.out; go_num, by go_num, Lib.hid ?_, Lib.hid ?_⟩
        · exact (gb_set (gb_set (gb_set (gb_set hg.out (by simp) _) (by simp) _) (by simp) _) (by simp) _)
        · intro _
          refine ⟨by first | rfl | trivial, _, ((((HB.out.set_ (j * 4) _).set_ (j * 4 + 1) _).set_ (j * 4 + 2) _).set_ (j * 4 + 3) _), ?_, ?_⟩
          · exact HeatArr.size_mark HS.out
          · exact HA.out.mark HS.out hlt (by have := HM.out; show _ = ((k + 4 * j : Nat) : Int); omega) (by have := HM.out; show _ = ((k + 4 * j + 1 : Nat) : Int); omega) (by have := HM.out; show _ = ((k + 4 * j + 2 : Nat) : Int); omega) (by have := HM.out; show _ = ((k + 4 * j + 3 : Nat) : Int); omega)
      case measure => simp [intOf]; omega
    · obtain rfl : j = n := by omega
      go_wp2
      go_ret
      exact ⟨rfl, harr.out, hg.out⟩
set_option maxHeartbeats 2000000 in
theorem heldHeatS_calls (A : Option Addr) (n c k : Nat) (w : World) (h : HeatRow w A n (fun i => ((k + 4 * i : Nat) : Int)) (fun i => ((k + 4 * i + 1 : Nat) : Int)) (fun i => ((k + 4 * i + 2 : Nat) : Int)) (fun i => ((k + 4 * i + 3 : Nat) : Int))) (hn : n ≤ 1048576) (hk : k ≤ 1000000000) :
    Calls Try.prog 30 #[.slice A n c, .int .i64 k] w fun e w' => e = .returned (.int .i64 ((k + 4 * n : Nat) : Int)) ∧ w = w' := by
  have H := Lib.hid h
  clear h
  go_enter Try.func30, Try.ntmps30
  go_wp2
  go_loopw [1, 5] (fun q i wr => ∃ j : Nat, j ≤ n ∧ q = .int .i64 ((k + 4 * j : Nat) : Int) ∧ i = .int .i64 j ∧ w = wr) (fun _ i _ => n - (intOf i).toNat)
  case atStart => exact ⟨0, by omega, rfl, rfl, rfl⟩
  case round =>
    obtain ⟨j, hj, rfl, rfl, rfl⟩ := hrel
    by_cases hlt : j < n
    · obtain ⟨b, o, rfl, hrow⟩ := H.out (by omega)
      obtain ⟨c0, c1, c2, c3⟩ := hrow j hlt
      obtain ⟨M, hM⟩ : ∃ M : Nat, M = k + 4 * j := ⟨_, rfl⟩
      have hMb : M ≤ 2000000000000 := by omega
      have d0 : w.cell? ⟨b, o + j * 4, none⟩ = some (.int .i64 ((M : Int))) := c0.trans (by rw [hM])
      have d1 : w.cell? ⟨b, o + j * 4 + 1, none⟩ = some (.int .i64 ((M : Int) + 1)) := c1.trans (by rw [hM]; congr 3)
      have d2 : w.cell? ⟨b, o + j * 4 + 2, none⟩ = some (.int .i64 ((M : Int) + 1 + 1)) := c2.trans (by rw [hM]; congr 3)
      have d3 : w.cell? ⟨b, o + j * 4 + 3, none⟩ = some (.int .i64 ((M : Int) + 1 + 1 + 1)) := c3.trans (by rw [hM]; congr 3)
      rw [← hM]
      have HM := Lib.hid hM
      have HR := Lib.hid hrow
      clear hM hrow c0 c1 c2 c3
      go_wp2
      go_roundw
      case rel => exact ⟨j + 1, by omega, by have := HM.out; go_num, by go_num, by first | rfl | trivial⟩
      case measure => simp [intOf]; omega
    · obtain rfl : j = n := by omega
      go_wp2
      go_ret
      exact ⟨rfl, rfl⟩
/-- heats that a call has returned -/
def HeatsOut (w : World) (L : List HeatV) (v : Value) (w' : World) : Prop := ∃ A c G, v = .slice A L.length c ∧ HeatOwn w' A L.length (ha0 L) (ha1 L) (ha2 L) (ha3 L) G ∧ w.heap.size ≤ G ∧ Below w.heap.size w w'
theorem heatOwn_of {w : World} {base : Nat} {v : Value} {L : List HeatV} (ho : w.ownsRow base 105 4 v L.length (heatsL L)) : ∃ A c G, v = .slice A L.length c ∧ HeatOwn w A L.length (ha0 L) (ha1 L) (ha2 L) (ha3 L) G ∧ base ≤ G := by
  rcases ho.2 with ⟨hv, h0⟩ | ⟨g, cap, cur, hv, hb, hg, hc, hm, hs, ht⟩
  · refine ⟨none, 0, base, by rw [hv, h0], fun h => ?_, Nat.le_refl _⟩
    omega
  · refine ⟨some ⟨g, 0, none⟩, cap, g, hv, fun hn => ⟨rfl, cur, hg, by rw [hs]; omega, fun i hi => ?_⟩, hb⟩
    have h4 := heatsL_at L i hi
    have ha : ∀ j, j < 4 → cur[i * 4 + j]? = (heatsL L)[i * 4 + j]? := fun j hj => by
      have := (congrArg (fun l => l[i * 4 + j]?) ht)
      simp only [List.getElem?_take, if_pos (show i * 4 + j < L.length * 4 by omega)] at this
      simpa using this
    have h0 := ha 0 (by omega)
    simp only [Nat.add_zero] at h0
    exact ⟨h0.trans h4.1, (ha 1 (by omega)).trans h4.2.1, (ha 2 (by omega)).trans h4.2.2.1, (ha 3 (by omega)).trans h4.2.2.2⟩
noncomputable def poursB (n : Nat) (ps : Nat → ByteArray) (pm pr pd : Nat → Int) : Bool := allB (goodAt (fun i => pourB (ps i) (pm i) (pr i) (pd i)) ps) n && decide ((n : Int) ≤ 12)
noncomputable def crucsB (m : Nat) (cs : Nat → ByteArray) (cc ch cf : Nat → Int) : Bool := allB (goodAt (fun i => crucB (cs i) (cc i) (ch i) (cf i)) cs) m && (decide ((1 : Int) ≤ m) && decide ((m : Int) ≤ 4))
theorem poursB_of {n : Nat} {ps : Nat → ByteArray} {pm pr pd : Nat → Int} (h : poursB n ps pm pr pd = true) : n ≤ 12 ∧ ∀ i, i < n → pourB (ps i) (pm i) (pr i) (pd i) = true := by
  obtain ⟨h1, h2⟩ := Bool.and_eq_true _ _ |>.mp h
  have h3 := of_decide_eq_true h2
  refine ⟨by omega, fun i hi => ?_⟩
  have h4 := allB_of h1 i hi
  simp only [goodAt, Bool.and_eq_true] at h4
  exact h4.1
theorem crucsB_of {m : Nat} {cs : Nat → ByteArray} {cc ch cf : Nat → Int} (h : crucsB m cs cc ch cf = true) : 0 < m ∧ m ≤ 4 ∧ ∀ i, i < m → crucB (cs i) (cc i) (ch i) (cf i) = true := by
  obtain ⟨h1, h2⟩ := Bool.and_eq_true _ _ |>.mp h
  obtain ⟨h5, h6⟩ := Bool.and_eq_true _ _ |>.mp h2
  have h7 := of_decide_eq_true h5
  have h8 := of_decide_eq_true h6
  refine ⟨by omega, by omega, fun i hi => ?_⟩
  have h4 := allB_of h1 i hi
  simp only [goodAt, Bool.and_eq_true] at h4
  exact h4.1
theorem fit_of {n : Nat} {ps : Nat → ByteArray} {pm pr pd : Nat → Int} {m : Nat} {cs : Nat → ByteArray} {cc ch cf : Nat → Int} (h : poursB n ps pm pr pd = true) (h2 : crucsB m cs cc ch cf = true) : GP.Fit ⟨n, m, pm, pr, pd, cc, ch, cf⟩ := by
  refine ⟨fun i hi => ?_, fun c hc => ?_⟩
  · obtain ⟨⟨a0, a1⟩, ⟨b0, b1⟩, d1⟩ := pourB_of ((poursB_of h).2 i hi)
    exact ⟨b0, by simp only at *; omega, d1⟩
  · obtain ⟨⟨k0, k1⟩, ⟨h0, h1⟩, ⟨f0, f1⟩⟩ := crucB_of ((crucsB_of h2).2.2 c hc)
    exact ⟨⟨h0, h1⟩, f0, f1⟩
theorem next_is {s : ByteArray} {s2 : ByteArray} {D : GP} {L : List HeatV} {p c : Nat} (hp : pourB s (D.pm p) (D.pr p) (D.pd p) = true) (hc : crucB s2 (D.cc c) (D.ch c) (D.cf c) = true) (hi : D.cf c ≤ D.fr L c ∧ D.fr L c ≤ 10000) :
    (D.ok L p c = true ∧ nhA s (D.pm p) (D.pr p) (D.pd p) s2 (D.cc c) (D.ch c) (D.cf c) (D.fr L c) = D.st L p c ∧ nhB s (D.pm p) (D.pr p) (D.pd p) s2 (D.cc c) (D.ch c) (D.cf c) (D.fr L c) = D.st L p c + D.ch c ∧ nhC s (D.pm p) (D.pr p) (D.pd p) s2 (D.cc c) (D.ch c) (D.cf c) (D.fr L c) = 0) ∨
    (D.ok L p c = false ∧ ∃ z, z ≠ 0 ∧ (z = 5 ∨ z = 6) ∧ nhA s (D.pm p) (D.pr p) (D.pd p) s2 (D.cc c) (D.ch c) (D.cf c) (D.fr L c) = 0 ∧ nhB s (D.pm p) (D.pr p) (D.pd p) s2 (D.cc c) (D.ch c) (D.cf c) (D.fr L c) = 0 ∧ nhC s (D.pm p) (D.pr p) (D.pd p) s2 (D.cc c) (D.ch c) (D.cf c) (D.fr L c) = z) := by
  obtain ⟨⟨k0, k1⟩, ⟨h0, h1⟩, ⟨f0, f1⟩⟩ := crucB_of hc
  rcases nh_cases hp hc (inB_yes hi.1 hi.2) with ⟨h1, h2, h3, h4⟩ | ⟨h1, h5, h2, h3, h4⟩ | ⟨h1, h5, h2, h3, h4⟩
  · refine Or.inr ⟨?_, 5, by decide, Or.inl rfl, h2, h3, h4⟩
    unfold GP.ok
    rw [decide_eq_false (by omega)]; rfl
  · refine Or.inr ⟨?_, 6, by decide, Or.inr rfl, h2, h3, h4⟩
    unfold GP.ok GP.st
    rw [decide_eq_false (show ¬ (nhS (D.pr p) (D.ch c) (D.fr L c) + D.ch c ≤ D.pd p) by omega), Bool.and_false]
  · refine Or.inl ⟨?_, h2, h3, h4⟩
    unfold GP.ok GP.st
    rw [decide_eq_true h1, decide_eq_true h5]; rfl
/-- the best heat so far, as the program has it -/
def bestA : Option HeatV → Array Value
  | none => #[.int .i64 0, .int .i64 0, .int .i64 0, .int .i64 (-1)]
  | some h => #[.int .i64 h.p, .int .i64 h.c, .int .i64 h.s, .int .i64 h.e]
/-- .. as the reference has it -/
def bestS : Option HeatV → Array Value
  | none => #[.int .i64 (-1), .int .i64 0, .int .i64 0, .int .i64 0]
  | some h => #[.int .i64 h.p, .int .i64 h.c, .int .i64 h.s, .int .i64 h.e]
theorem best_yes {D : GP} {L : List HeatV} {p c : Nat} (h1 : D.ok L p c = true) (h2 : GP.beat (D.best L p c) (D.st L p c + D.ch c) = true) : D.best L p (c + 1) = some ⟨p, c, D.st L p c, D.st L p c + D.ch c⟩ := by
  show (bif D.ok L p c && GP.beat (D.best L p c) (D.st L p c + D.ch c) then _ else _) = _
  rw [h1, h2]; rfl
theorem best_no {D : GP} {L : List HeatV} {p c : Nat} (h : (D.ok L p c && GP.beat (D.best L p c) (D.st L p c + D.ch c)) = false) : D.best L p (c + 1) = D.best L p c := by
  show (bif D.ok L p c && GP.beat (D.best L p c) (D.st L p c + D.ch c) then _ else _) = _
  rw [h]; rfl
noncomputable def ghL (n : Nat) (ps : Nat → ByteArray) (pm pr pd : Nat → Int) (m : Nat) (cs : Nat → ByteArray) (cc ch cf : Nat → Int) : List HeatV := bif poursB n ps pm pr pd && crucsB m cs cc ch cf && allB (⟨n, m, pm, pr, pd, cc, ch, cf⟩ : GP).got n then (⟨n, m, pm, pr, pd, cc, ch, cf⟩ : GP).hs n else []
noncomputable def ghC (n : Nat) (ps : Nat → ByteArray) (pm pr pd : Nat → Int) (m : Nat) (cs : Nat → ByteArray) (cc ch cf : Nat → Int) : Int := bif poursB n ps pm pr pd && crucsB m cs cc ch cf then (bif allB (⟨n, m, pm, pr, pd, cc, ch, cf⟩ : GP).got n then 0 else 3) else 1
def GhOut (w : World) (n : Nat) (ps : Nat → ByteArray) (pm pr pd : Nat → Int) (m : Nat) (cs : Nat → ByteArray) (cc ch cf : Nat → Int) (e : Ending) (w' : World) : Prop :=
  ∃ v, e = .returned (.tuple #[v, .int .i64 (ghC n ps pm pr pd m cs cc ch cf)]) ∧ HeatsOut w (ghL n ps pm pr pd m cs cc ch cf) v w'
theorem GhOut.none {w w' : World} {n : Nat} {ps : Nat → ByteArray} {pm pr pd : Nat → Int} {m : Nat} {cs : Nat → ByteArray} {cc ch cf : Nat → Int} (hb : Below w.heap.size w w') {k : Int} (h1 : ghL n ps pm pr pd m cs cc ch cf = []) (h2 : ghC n ps pm pr pd m cs cc ch cf = k) : GhOut w n ps pm pr pd m cs cc ch cf (.returned (.tuple #[.slice none 0 0, .int .i64 k])) w' := by
  unfold GhOut
  rw [h1, h2]
  exact ⟨_, rfl, Option.none, 0, w.heap.size, rfl, fun h0 => absurd h0 (Nat.lt_irrefl _), Nat.le_refl _, hb⟩
theorem got_no {f : Nat → Bool} {n k : Nat} (hk : k < n) (h : f k = false) : allB f n = false := by
  cases e : allB f n
  · rfl
  · rw [allB_of e k hk] at h; cases h
theorem own_slice {w : World} {base : Nat} {e : TypeId} {size : Nat} {v : Value} {n : Nat} {xs : List Value} (h : w.ownsRow base e size v n xs) : ∃ A c, v = .slice A n c := by
  rcases h.2 with ⟨hv, h0⟩ | ⟨g, cap, cur, hv, -⟩
  · subst h0
    exact ⟨_, _, hv⟩
  · exact ⟨_, _, hv⟩
/-- the sort of the places, whatever row has them -/
theorem sortAny (base n : Nat) (A : Option Addr) (c : Nat) (pd : Nat → Int) (gb : Nat) (wr : World) (hn : n ≤ 12) (hbase : base ≤ wr.heap.size) (ho : wr.ownsRow base 2 1 (.slice A n c) n (intsL (fun i => (i : Int)) n))
    (hp : ∀ W, Below base wr W → ∀ x y : Nat, x < n → y < n → Calls Try.prog 64 #[.int .i64 x, .int .i64 y, .pointer (some ⟨gb, 0, none⟩)] W fun e w' => e = .returned (.int .i64 (cmpI (pd x) (pd y))) ∧ ∃ q, w' = W.drewN q) :
    Calls Try.prog 63 #[.slice A n c, .func (.func 64) #[] #[.pointer (some ⟨gb, 0, none⟩)]] wr fun e w' => e = .returned (.tuple #[]) ∧ Below base wr w' ∧ IntRow w' A n (fun k => (ordF pd n k : Int)) := by
  rcases Nat.eq_zero_or_pos n with rfl | h0
  · exact (sortNone_calls A c _ wr).mono fun e w' h => ⟨h.1, by rw [← h.2]; exact Below.refl _ _, fun h => absurd h (Nat.lt_irrefl _)⟩
  · obtain ⟨g, cap, cur, hv, hg, hblk, hcap, hcm, hcs, hcur⟩ := own_blk ho h0
    simp only [Value.slice.injEq] at hv
    obtain ⟨rfl, -, rfl⟩ := hv
    have hob : OrdBlk wr g n (upTo n) := ⟨cur, hblk, by omega, fun i hi => by rw [hcur i (by omega), intsL_at _ hi, upTo_at hi]⟩
    refine (sortStable_calls g n c (upTo n) pd gb wr hn hob ⟨upTo_size n, fun i hi => by rw [upTo_at hi]; omega⟩ (fun W hW => hp W ((Below.refl base wr).grown hW hbase (fun k hk => by cases hk; exact hg)))).mono ?_
    rintro e w' ⟨he, hgr, cur2, hb2, hz2, hc2⟩
    refine ⟨he, (Below.refl base wr).grown hgr hbase (fun k hk => by cases hk; exact hg), fun _ => ⟨g, 0, rfl, fun i hi => ?_⟩⟩
    rw [Nat.zero_add]
    rw [hb2.cell i, hc2 i hi]
    exact congrArg (fun z => some (Value.int .i64 z)) (ordA_at pd hi)
end Go.Proofs.Ytonoeohmpaegdaa
