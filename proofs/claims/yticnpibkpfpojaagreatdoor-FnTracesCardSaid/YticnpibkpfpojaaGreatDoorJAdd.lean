import Derived.Test.YticnpibkpfpojaaGreatDoorBells
import Derived.Laws.StructEq
import Derived.Test.YticnpibkpfpojaaGreatDoorAddB
import Derived.Lib.AppendZerosOnto
import Derived.Lib.Overlaps
import Derived.Laws.CopyOwn
import Derived.Shelf.Spec.SlicesInsert
import Derived.Deep.Upon
import Derived.Test.YticnpibkpfpojaaGreatDoorAddS
import Derived.Test.YticnpibkpfpojaaGreatDoorMeltN
import Derived.Test.YticnpibkpfpojaaGreatDoorMeltX
import Derived.SizedLaws
import Derived.Test.YticnpibkpfpojaaGreatDoorFrame
import Derived.Test.YticnpibkpfpojaaGreatDoorProg
import Derived.Stop.LaidErr
import Derived.Test.YticnpibkpfpojaaGreatDoorTraP
import Derived.Test.YticnpibkpfpojaaGreatDoorJRd
/- When two bells, and two lists of bells, are the same, in the program and in the reference. -/
namespace Go.Proofs.YticnpibkpfpojaaGreatDoor
set_option linter.unusedVariables false
open Go.RowKit

def shareEq (x y : BellV) (i : Nat) : Bool := (x.ss i).toList == (y.ss i).toList && x.ms i == y.ms i
def sharesEq (x y : BellV) : Bool := x.n == y.n && allB (shareEq x y) x.n
theorem share_eqIn (w : World) (s1 s2 : ByteArray) (m1 m2 : Int) : (Op.equalIn 10000 41 (.agg #[.string s1, .int .i64 m1]) (.agg #[.string s2, .int .i64 m2])).run Tryz.prog w = .ok ((s1.toList == s2.toList) && (m1 == m2)) w := by
  rw [show (10000 : Nat) = 9999 + 1 from rfl, run_equalIn_struct _ _ _ _ _ (by kernel_rfl) (by kernel_rfl)]
  have hf : (Tryz.prog.fieldsOf 41).toList.map (fun f => (f.name, f.type, f.offset)) = [("Melt", 9, 0), ("Mass", 2, 1)] := by kernel_rfl
  obtain ⟨f0, f1, hl⟩ := list2 (show (Tryz.prog.fieldsOf 41).toList.length = 2 by kernel_rfl)
  rw [hl] at hf ⊢
  simp only [List.map_cons, List.map_nil, List.cons.injEq, Prod.mk.injEq, and_true] at hf
  obtain ⟨⟨n0, t0, o0⟩, ⟨n1, t1, o1⟩⟩ := hf
  simp [Op.eqFields, n0, t0, o0, n1, t1, o1, go_sem]
  by_cases h1 : s1.toList = s2.toList <;> by_cases h2 : m1 = m2 <;> simp [h1, h2]
theorem share_neq (w : World) (s1 s2 : ByteArray) (m1 m2 : Int) : (binOp .neq 41 (.agg #[.string s1, .int .i64 m1]) (.agg #[.string s2, .int .i64 m2])).run Tryz.prog w = .ok (.bool (!((s1.toList == s2.toList) && (m1 == m2)))) w := by
  rw [run_neq_struct, share_eqIn]; rfl
theorem share_guard : Tryz.prog.eqGuardType Tryz.prog.depth 41 = false := by kernel_rfl
set_option maxHeartbeats 1000000 in
theorem equalShares_calls (A B : Option Addr) (c d : Nat) (x y : BellV) (w : World) (h : ShareRow w A x.n x.ss x.ms) (h2 : ShareRow w B y.n y.ss y.ms) (hn : x.n ≤ 1048576) (hm : y.n ≤ 1048576) :
    Calls Tryz.prog 71 #[.slice A x.n c, .slice B y.n d] w fun e w' => e = .returned (.bool (sharesEq x y)) ∧ ∃ m, w' = w.drewN m := by
  have H := Lib.hid h
  have H2 := Lib.hid h2
  clear h h2
  by_cases hne : x.n = y.n
  · generalize hres : sharesEq x y = R
    have HRES := Lib.hid hres
    have HNE := Lib.hid hne
    clear hres
    go_enter Tryz.func71, Tryz.ntmps71
    go_wp2
    clear hne
    go_loopw [13] (fun i wr => ∃ k : Nat, k ≤ x.n ∧ i = .int .i64 k ∧ Hid (allB (shareEq x y) k = true) ∧ Hid (∃ m, wr = w.drewN m)) (fun i _ => x.n - (intOf i).toNat)
    case atStart => exact ⟨0, by omega, rfl, rfl, Lib.hid ⟨0, rfl⟩⟩
    case round =>
      obtain ⟨k, hk, rfl, hgood, hwr⟩ := hrel
      by_cases hlt : k < x.n
      · have hlt2 : k < y.n := by have := HNE.out; omega
        obtain ⟨b, o, rfl, hrow⟩ := H.out (by omega)
        obtain ⟨b2, o2, rfl, hrow2⟩ := H2.out (by omega)
        have e0 : wr.cell? ⟨b, o + k * 2, none⟩ = some (.string (x.ss k)) := by obtain ⟨m, hm⟩ := hwr.out; rw [hm]; exact (hrow k hlt).1
        have e1 : wr.cell? ⟨b, o + k * 2 + 1, none⟩ = some (.int .i64 (x.ms k)) := by obtain ⟨m, hm⟩ := hwr.out; rw [hm]; exact (hrow k hlt).2
        have g0 : wr.cell? ⟨b2, o2 + k * 2, none⟩ = some (.string (y.ss k)) := by obtain ⟨m, hm⟩ := hwr.out; rw [hm]; exact (hrow2 k hlt2).1
        have g1 : wr.cell? ⟨b2, o2 + k * 2 + 1, none⟩ = some (.int .i64 (y.ms k)) := by obtain ⟨m, hm⟩ := hwr.out; rw [hm]; exact (hrow2 k hlt2).2
        have HR := Lib.hid hrow
        have HR2 := Lib.hid hrow2
        have hguard := share_guard
        have hq := fun w => share_neq w (x.ss k) (y.ss k) (x.ms k) (y.ms k)
        clear hrow hrow2
        cases q1 : shareEq x y k
        · simp only [show ((x.ss k).toList == (y.ss k).toList && x.ms k == y.ms k) = false from q1] at hq
          skip
          go_wp2_with fail
          go_quiet (fail)
          go_wp2
          go_ret
          exact ⟨ret_bool (by rw [← HRES.out]; unfold sharesEq; rw [allB_no hlt q1, Bool.and_false]), by obtain ⟨m, hm⟩ := hwr.out; rw [hm]; exact ⟨_, World.drewN_drewN _ _ _⟩⟩
        · simp only [show ((x.ss k).toList == (y.ss k).toList && x.ms k == y.ms k) = true from q1] at hq
          skip
          go_wp2_with fail
          go_quiet (fail)
          go_wp2
          go_roundw
          case rel => exact ⟨k + 1, by omega, by go_num, Lib.hid (by rw [show allB (shareEq x y) (k + 1) = (allB (shareEq x y) k && shareEq x y k) from rfl, hgood.out, q1]; rfl), Lib.hid (by obtain ⟨m, hm⟩ := hwr.out; rw [hm]; exact ⟨_, World.drewN_drewN _ _ _⟩)⟩
          case measure => simp [intOf]; omega
      · obtain hkn : k = x.n := by omega
        have HKN := Lib.hid hkn
        have hnl : (x.n : Int) ≤ k := by omega
        have hnl2 : x.n ≤ k := by omega
        have hnl3 : (y.n : Int) ≤ k := by have := HNE.out; omega
        have hnl4 : y.n ≤ k := by have := HNE.out; omega
        clear hkn
        skip
        go_wp2
        go_ret
        exact ⟨ret_bool (by rw [← HRES.out]; unfold sharesEq; rw [HNE.out, beq_self_eq_true, Bool.true_and, ← HNE.out, ← HKN.out]; exact hgood.out.symm), hwr.out⟩
  · have hz : sharesEq x y = false := by unfold sharesEq; rw [beq_eq_false_iff_ne.2 hne]; rfl
    rw [hz]
    have hne2 : decide (x.n = y.n) = false := decide_eq_false hne
    have hne3 : (x.n == y.n) = false := beq_eq_false_iff_ne.2 hne
    have hne4 : (((x.n : Nat) : Int) == ((y.n : Nat) : Int)) = false := beq_eq_false_iff_ne.2 (by omega)
    go_enter Tryz.func71, Tryz.ntmps71
    go_wp2
    go_ret
    exact ⟨rfl, 0, rfl⟩
def sameV (x y : BellV) : Bool := (x.id.toList == y.id.toList) && ((x.no == y.no) && ((x.ma == y.ma) && ((x.fe == y.fe) && sharesEq x y)))
set_option maxHeartbeats 2000000 in
theorem sameBell_calls (A B : Option Addr) (c d : Nat) (x y : BellV) (w : World) (h : ShareRow w A x.n x.ss x.ms) (h2 : ShareRow w B y.n y.ss y.ms) (hn : x.n ≤ 1048576) (hm : y.n ≤ 1048576) :
    Calls Tryz.prog 36 #[.agg #[.string x.id, .int .i64 x.no, .int .i64 x.ma, .int .i64 x.fe, .slice A x.n c], .agg #[.string y.id, .int .i64 y.no, .int .i64 y.ma, .int .i64 y.fe, .slice B y.n d]] w fun e w' => e = .returned (.bool (sameV x y)) ∧ Below w.heap.size w w' := by
  have hB := ((Below.refl w.heap.size w).alloc (Nat.le_refl _) (.cells #[.string x.id, .int .i64 x.no, .int .i64 x.ma, .int .i64 x.fe, .slice A x.n c] 28)).alloc (by simp) (.cells #[.string y.id, .int .i64 y.no, .int .i64 y.ma, .int .i64 y.fe, .slice B y.n d] 28)
  have H := Lib.hid (h.below hB (Nat.le_refl _))
  have H2 := Lib.hid (h2.below hB (Nat.le_refl _))
  generalize hres : sameV x y = R
  have HRES := Lib.hid hres
  clear h h2 hres
  cases t1 : (x.id.toList == y.id.toList)
  · go_enter Tryz.func36, Tryz.ntmps36
    go_wp2_with (go_at_call 71; refine (equalShares_calls A B c d x y _ H.out H2.out hn hm).mono ?_; rintro e w1 ⟨rfl, nd, rfl⟩)
    go_ret
    exact ⟨ret_bool (by rw [← HRES.out]; simp [sameV, *]), by first | exact hB | exact below_drewN hB _⟩
  · cases t2 : (x.no == y.no)
    · go_enter Tryz.func36, Tryz.ntmps36
      go_wp2_with (go_at_call 71; refine (equalShares_calls A B c d x y _ H.out H2.out hn hm).mono ?_; rintro e w1 ⟨rfl, nd, rfl⟩)
      go_ret
      exact ⟨ret_bool (by rw [← HRES.out]; simp [sameV, *]), by first | exact hB | exact below_drewN hB _⟩
    · cases t3 : (x.ma == y.ma)
      · go_enter Tryz.func36, Tryz.ntmps36
        go_wp2_with (go_at_call 71; refine (equalShares_calls A B c d x y _ H.out H2.out hn hm).mono ?_; rintro e w1 ⟨rfl, nd, rfl⟩)
        go_ret
        exact ⟨ret_bool (by rw [← HRES.out]; simp [sameV, *]), by first | exact hB | exact below_drewN hB _⟩
      · cases t4 : (x.fe == y.fe)
        · go_enter Tryz.func36, Tryz.ntmps36
          go_wp2_with (go_at_call 71; refine (equalShares_calls A B c d x y _ H.out H2.out hn hm).mono ?_; rintro e w1 ⟨rfl, nd, rfl⟩)
          go_ret
          exact ⟨ret_bool (by rw [← HRES.out]; simp [sameV, *]), by first | exact hB | exact below_drewN hB _⟩
        · go_enter Tryz.func36, Tryz.ntmps36
          go_wp2_with (go_at_call 71; refine (equalShares_calls A B c d x y _ H.out H2.out hn hm).mono ?_; rintro e w1 ⟨rfl, nd, rfl⟩)
          go_ret
          exact ⟨ret_bool (by rw [← HRES.out]; simp [sameV, *]), by first | exact hB | exact below_drewN hB _⟩
def allSame (f g : Nat → BellV) (n m : Nat) : Bool := n == m && allB (fun i => sameV (f i) (g i)) n
set_option maxHeartbeats 4000000 in
theorem equalBells_calls (A B : Option Addr) (n m c d : Nat) (f g : Nat → BellV) (w : World) (h : BellRow w A n f) (h2 : BellRow w B m g) (hf : ∀ i, i < n → (f i).n ≤ 1048576) (hg : ∀ i, i < m → (g i).n ≤ 1048576) (hn : n ≤ 1048576) (hm : m ≤ 1048576) :
    Calls Tryz.prog 35 #[.slice A n c, .slice B m d, .func (.func 36) #[] #[]] w fun e w' => e = .returned (.bool (allSame f g n m)) ∧ Below w.heap.size w w' := by
  have H := Lib.hid h
  have H2 := Lib.hid h2
  have HF := Lib.hid hf
  have HG := Lib.hid hg
  clear h h2 hf hg
  by_cases hne : n = m
  · subst hne
    generalize hres : allSame f g n n = R
    have HRES := Lib.hid hres
    clear hres
    go_enter Tryz.func35, Tryz.ntmps35
    go_wp2
    go_loopw [17] (fun i wr => ∃ k : Nat, k ≤ n ∧ i = .int .i64 k ∧ Hid (allB (fun i => sameV (f i) (g i)) k = true) ∧ Below w.heap.size w wr) (fun i _ => n - (intOf i).toNat)
    case atStart => exact ⟨0, by omega, rfl, rfl, Below.refl _ _⟩
    case round =>
      obtain ⟨k, hk, rfl, hgood, hbr⟩ := hrel
      by_cases hlt : k < n
      · have fn := HF.out k hlt
        have gn := HG.out k hlt
        obtain ⟨b, o, rfl, hrow⟩ := H.out (by omega)
        obtain ⟨b2, o2, rfl, hrow2⟩ := H2.out (by omega)
        obtain ⟨AK, CK, c0, c1, c2, c3, c4, c5⟩ := (hrow k hlt).keep hbr
        obtain ⟨AL, CL, d0, d1, d2, d3, d4, d5⟩ := (hrow2 k hlt).keep hbr
        have HR := Lib.hid hrow
        have HR2 := Lib.hid hrow2
        have hal := ((Below.refl wr.heap.size wr).alloc (Nat.le_refl _) (.cells #[.string (f k).id, .int .i64 (f k).no, .int .i64 (f k).ma, .int .i64 (f k).fe, .slice AK (f k).n CK] 28)).alloc (by simp) (.cells #[.string (g k).id, .int .i64 (g k).no, .int .i64 (g k).ma, .int .i64 (g k).fe, .slice AL (g k).n CL] 28)
        have C5 := Lib.hid (c5.keep hal)
        have D5 := Lib.hid (d5.keep hal)
        have hbr2 := hbr.trans (hal.mono hbr.size)
        have hal1 := (Below.refl wr.heap.size wr).alloc (Nat.le_refl _) (.cells #[.string (f k).id, .int .i64 (f k).no, .int .i64 (f k).ma, .int .i64 (f k).fe, .slice AK (f k).n CK] 28)
        have e0 := cell_keep hal1 d0
        have e1 := cell_keep hal1 d1
        have e2 := cell_keep hal1 d2
        have e3 := cell_keep hal1 d3
        have e4 := cell_keep hal1 d4
        clear hrow hrow2 c5 d5 hal hal1
        cases q1 : sameV (f k) (g k)
        · go_wp2_with (go_at_call 36; refine (sameBell_calls AK AL CK CL (f k) (g k) _ C5.out D5.out fn gn).mono ?_; rw [q1]; rintro e w1 ⟨rfl, hb⟩; have hbr3 := hbr2.trans (hb.mono hbr2.size); clear hb hbr2)
          go_ret
          exact ⟨ret_bool (by rw [← HRES.out]; unfold allSame; rw [allB_no hlt q1, Bool.and_false]), hbr3⟩
        · go_wp2_with (go_at_call 36; refine (sameBell_calls AK AL CK CL (f k) (g k) _ C5.out D5.out fn gn).mono ?_; rw [q1]; rintro e w1 ⟨rfl, hb⟩; have hbr3 := hbr2.trans (hb.mono hbr2.size); clear hb hbr2)
          go_roundw
          case rel => exact ⟨k + 1, by omega, by go_num, Lib.hid (by rw [show allB (fun i => sameV (f i) (g i)) (k + 1) = (allB (fun i => sameV (f i) (g i)) k && sameV (f k) (g k)) from rfl, hgood.out, q1]; rfl), hbr3⟩
          case measure => simp [intOf]; omega
      · obtain rfl : k = n := by omega
        go_wp2
        go_ret
        exact ⟨ret_bool (by rw [← HRES.out]; unfold allSame; rw [beq_self_eq_true, Bool.true_and]; exact hgood.out.symm), hbr⟩
  · have hz : allSame f g n m = false := by unfold allSame; rw [beq_eq_false_iff_ne.2 hne]; rfl
    rw [hz]
    have hne2 : decide (n = m) = false := decide_eq_false hne
    have hne3 : (n == m) = false := beq_eq_false_iff_ne.2 hne
    have hne4 : (((n : Nat) : Int) == ((m : Nat) : Int)) = false := beq_eq_false_iff_ne.2 (by omega)
    go_enter Tryz.func35, Tryz.ntmps35
    go_wp2
    go_ret
    exact ⟨rfl, Below.refl _ _⟩
set_option maxHeartbeats 1000000 in
theorem SameBells_calls (A B : Option Addr) (n m c d : Nat) (f g : Nat → BellV) (w : World) (h : BellRow w A n f) (h2 : BellRow w B m g) (hf : ∀ i, i < n → (f i).n ≤ 1048576) (hg : ∀ i, i < m → (g i).n ≤ 1048576) (hn : n ≤ 1048576) (hm : m ≤ 1048576) :
    Calls Tryz.prog 10 #[.slice A n c, .slice B m d] w fun e w' => e = .returned (.bool (allSame f g n m)) ∧ Below w.heap.size w w' := by
  have HC := Lib.hid (equalBells_calls A B n m c d f g w h h2 hf hg hn hm)
  clear h h2 hf hg
  go_enter Tryz.func10, Tryz.ntmps10
  go_wp2_with (go_at_call 35; refine HC.out.mono ?_; rintro e w1 ⟨rfl, hb⟩)
  go_ret
  exact ⟨rfl, hb⟩
end Go.Proofs.YticnpibkpfpojaaGreatDoor

/- slices.Insert over bells, one bell put into a row of the call's own. -/
namespace Go.Proofs.YticnpibkpfpojaaGreatDoor
set_option linter.unusedVariables false
open Go.RowKit

theorem run_copy_rowS {P : Program} (w : World) (dT sT ty elem : TypeId) (i : TypeInfo) (hu : P.underlying dT = some (.slice elem)) (hi : P.info? elem = some i) (g o dLen dCap : Nat) (a : Addr) (sLen sCap : Nat) (cur : Array Value) (t : TypeId) (cs : List Value) (m : Nat) (hm : m = Nat.min sLen dLen) (hl : cs.length = m * i.size)
    (hg : w.heap[g]? = some (.cells cur t (0, 0))) (hsrc : ∀ j v, cs[j]? = some v → w.cell? (a.add j) = some v) (hfit : o + cs.length ≤ cur.size) (h1 : ∀ v ∈ cs, v.oneCell' = true) :
    (Builtin.copy_ #[dT, sT] ty #[.slice (some ⟨g, o, none⟩) dLen dCap, .slice (some a) sLen sCap]).run P w = .ok (goInt m) (w.setRow g (cur.toList.take o ++ cs ++ cur.toList.drop (o + cs.length)).toArray) := by
  have hf := run_firstCells_some (P := P) w i.size m a sLen sCap cs hl hsrc
  have hst := run_storeCells_at P g o t cs 0 cur w hg (by simpa using hfit) h1
  simp [Builtin.copy_, run_underlying hu, Builtin.lenOf, sizeOf, typeInfo, hi, ← hm, hf, hst]
theorem grownBy_setRow (w : World) (g : Nat) (cs : Array Value) : w.grownBy (w.setRow g cs) (some g) :=
  ⟨rfl, rfl, rfl, by simp [World.setRow], fun k hk hne => setRow_other w g k cs (fun e => hne (by rw [e]))⟩
theorem gb_join {w W1 W2 W3 : World} {N : Nat} (h1 : w.grownBy W1 none) (h2 : W1.grownBy W2 (some N)) (h3 : W2.grownBy W3 (some N)) (hN : w.heap.size ≤ N) (row : Option Nat) : w.grownBy W3 row := by
  have s1 := h1.size
  have s2 := h2.size
  have s3 := h3.size
  refine ⟨h3.os.trans (h2.os.trans h1.os), h3.tape.trans (h2.tape.trans h1.tape), h3.output.trans (h2.output.trans h1.output), by omega, fun j hj _ => ?_⟩
  rw [h3.block j (by omega) (fun e => by have := Option.some.inj e; omega), h2.block j (by omega) (fun e => by have := Option.some.inj e; omega), h1.block j hj (by simp)]
theorem grownBy_drew (w : World) (row : Option Nat) : w.grownBy w.drew row := ⟨rfl, rfl, rfl, Nat.le_refl _, fun _ _ _ => rfl⟩
theorem wpList_copy_S {P : Program} {w : World} {ops : Array Oper} {rest : List Oper} {o : Oper} {a : Act} {Q : Exit → Act → World → Prop} (hgd : o.guard = none) (d s : Operand) (dT sT : TypeId)
    (ho : o.op = .call { callee := .builtin .copy, args := #[d, s], argTypes := #[dT, sT] }) (elem : TypeId) (i : TypeInfo) (hu : P.underlying dT = some (.slice elem)) (hi : P.info? elem = some i)
    (g off dLen dCap : Nat) (ad : Addr) (sLen sCap : Nat) (hd : a.eval d = .slice (some ⟨g, off, none⟩) dLen dCap) (hs : a.eval s = .slice (some ad) sLen sCap)
    (cur : List Value) (t : TypeId) (hg : w.heap[g]? = some (.cells cur.toArray t (0, 0))) (cs : List Value) (m : Nat) (hm : m = Nat.min sLen dLen) (hl : cs.length = m * i.size)
    (hsrc : ∀ j v, cs[j]? = some v → w.cell? (ad.add j) = some v) (hfit : off + cs.length ≤ cur.length) (h1 : ∀ v ∈ cs, v.oneCell' = true)
    (h : ∀ w', Hid (w'.heap[g]? = some (.cells (splice cur off cs).toArray t (0, 0))) → Hid (w.grownBy w' (some g)) → wpList P ops Q rest (a.put o.dst (goInt m)) w') : wpList P ops Q (o :: rest) a w := by
  refine wpList_plain hgd fun K hK => ?_
  have hrun := run_copy_rowS (P := P) w dT sT o.type elem i hu hi g off dLen dCap ad sLen sCap cur.toArray t cs m hm hl hg hsrc (by simpa using hfit) h1
  unfold Oper.wp
  simp [execOp, ho, resolve, invoke, builtin, hd, hs, hrun, Result.andThen]
  exact hK _ _ (h _ (show _ = _ by simpa [splice] using setRow_heap w g _ _ t _ hg) (grownBy_setRow w g _))
theorem step_copy_S {P : Program} {ops : Array Oper} {o : Oper} {a : Act} {w : World} {K : Act → World → Prop} {Q : Exit → Act → World → Prop} {E : Prop} (hgd : o.guard = none) (d s : Operand) (dT sT : TypeId)
    (ho : o.op = .call { callee := .builtin .copy, args := #[d, s], argTypes := #[dT, sT] }) (elem : TypeId) (i : TypeInfo) (hu : P.underlying dT = some (.slice elem)) (hi : P.info? elem = some i)
    (g off dLen dCap : Nat) (ad : Addr) (sLen sCap : Nat) (hd : a.eval d = .slice (some ⟨g, off, none⟩) dLen dCap) (hs : a.eval s = .slice (some ad) sLen sCap)
    (cur : List Value) (t : TypeId) (hg : w.heap[g]? = some (.cells cur.toArray t (0, 0))) (cs : List Value) (m : Nat) (hm : m = Nat.min sLen dLen) (hl : cs.length = m * i.size)
    (hsrc : ∀ j v, cs[j]? = some v → w.cell? (ad.add j) = some v) (hfit : off + cs.length ≤ cur.length) (h1 : ∀ v ∈ cs, v.oneCell' = true)
    (h : ∀ w', Hid (w'.heap[g]? = some (.cells (splice cur off cs).toArray t (0, 0))) → Hid (w.grownBy w' (some g)) → K (a.put o.dst (goInt m)) w') :
    if Region.wanted o (yielded ops a.tmps) = true then Oper.wp P o a w K Q else E := by
  have hw : Region.wanted o (yielded ops a.tmps) = true := by simp [Region.wanted, hgd]
  rw [if_pos hw]
  have hrun := run_copy_rowS (P := P) w dT sT o.type elem i hu hi g off dLen dCap ad sLen sCap cur.toArray t cs m hm hl hg hsrc (by simpa using hfit) h1
  unfold Oper.wp
  simp [execOp, ho, resolve, invoke, builtin, hd, hs, hrun, Result.andThen]
  exact h _ (show _ = _ by simpa [splice] using setRow_heap w g _ _ t _ hg) (grownBy_setRow w g _)
def InsOut (base n k : Nat) (v : Value) (xs news : List Value) (w : World) (e : Ending) (w' : World) : Prop := ∃ v', e = .returned v' ∧ w'.ownsRow base 28 5 v' (n + 1) (xs.take (k * 5) ++ news ++ xs.drop (k * 5)) ∧ w.grownBy w' v.ownBlock
set_option maxRecDepth 20000 in
set_option maxHeartbeats 4000000 in
theorem insBell_end (base n : Nat) (A : Option Addr) (c : Nat) (xs : List Value) (w : World) (hown : w.ownsRow base 28 5 (.slice A n c) n xs) (hn : n ≤ 1048576) (vb : Nat) (news : List Value) (hl : news.length = 5) (hnews : ∀ j u, news[j]? = some u → w.cell? ((⟨vb, 0, none⟩ : Addr).add j) = some u) (h1 : ∀ u ∈ news, u.oneCell' = true) (hbase : base ≤ w.heap.size) :
    Calls Tryz.prog 25 #[.slice A n c, .int .i64 n, .slice (some ⟨vb, 0, none⟩) 1 1] w (InsOut base n n (.slice A n c) xs news w) := by
  obtain ⟨i0, hi, hz0, hz1, hz2⟩ := info_parts BellI_info
  have HO := Lib.hid hown
  have HN := Lib.hid hnews
  have hxl := hown.1
  have hnc : n ≤ c := by
    rcases hown.2 with ⟨q, q2⟩ | ⟨g, cap, cur, q, -, -, q2, -⟩
    · omega
    · injection q with _ _ q3; omega
  have hcm : c ≤ 9223372036854775807 := by
    rcases hown.2 with ⟨q, q2⟩ | ⟨g, cap, cur, q, -, -, -, q2, -⟩
    · injection q with _ _ q3; omega
    · unfold maxLen at q2; injection q with _ _ q3; omega
  clear hown hnews
  go_enter Tryz.func25, Tryz.ntmps25
  go_wp2_with (at_builtin; refine wpList_append_own _ rfl _ _ 25 rfl base 28 i0 (.agg #[.string ⟨#[]⟩, .int .i64 0, .int .i64 0, .int .i64 0, .slice none 0 0]) 5 64 Tryz.underlying25 hi hz0 hz1 hz2 rfl (by decide) _ _ _ rfl HO.out ⟨vb, 0, none⟩ 1 1 news rfl (by omega) HN.out h1 (by unfold maxLen; omega) (by omega) hbase ?_; intro v9 w9 hown' hgrow _; refine Hid.out ?_)
  all_goals refine Lib.hid ?_
  all_goals go_wp2
  all_goals go_ret
  all_goals exact ⟨v9, rfl, by rw [List.take_of_length_le (by omega), List.drop_eq_nil_of_le (by omega), List.append_nil]; exact hown', hgrow⟩
theorem addr0 (g o j : Nat) : (⟨g, o, none⟩ : Addr).add j = ⟨g, o + j, none⟩ := by unfold Addr.add; split <;> simp_all
theorem cell_row {w : World} {g : Nat} {cur : List Value} {t : TypeId} (h : w.heap[g]? = some (.cells cur.toArray t (0, 0))) {o : Nat} {cs : List Value} (hc : ∀ j v, cs[j]? = some v → cur[o + j]? = some v) : ∀ j v, cs[j]? = some v → w.cell? ((⟨g, o, none⟩ : Addr).add j) = some v := fun j v hj => by
  rw [addr0]
  have := hc j v hj
  simp [World.cell?, h, this]
set_option maxRecDepth 20000 in
set_option maxHeartbeats 4000000 in
theorem insBell_grow (base n k g c : Nat) (xs : List Value) (w : World) (hown : w.ownsRow base 28 5 (.slice (some ⟨g, 0, none⟩) n c) n xs) (hk : k < n) (hn : n ≤ 1048576) (hc : c < n + 1) (vb : Nat) (news : List Value) (hl : news.length = 5) (hnews : ∀ j u, news[j]? = some u → w.cell? ((⟨vb, 0, none⟩ : Addr).add j) = some u) (h1 : ∀ u ∈ news, u.oneCell' = true) (h1x : ∀ u ∈ xs, u.oneCell' = true) (hbase : base ≤ w.heap.size) :
    Calls Tryz.prog 25 #[.slice (some ⟨g, 0, none⟩) n c, .int .i64 k, .slice (some ⟨vb, 0, none⟩) 1 1] w (InsOut base n k (.slice (some ⟨g, 0, none⟩) n c) xs news w) := by
  obtain ⟨i0, hi, hz0, hz1, hz2⟩ := info_parts BellI_info
  have hxl := hown.1
  obtain ⟨cur, hgc, hnc, hcm, hcs, htk⟩ : ∃ cur : Array Value, w.heap[g]? = some (.cells cur 28 (0, 0)) ∧ n ≤ c ∧ c ≤ maxLen ∧ cur.size = c * 5 ∧ cur.toList.take (n * 5) = xs := by
    rcases hown.2 with ⟨q, q2⟩ | ⟨g2, cap, cur, q, -, q1, q2, q3, q4, q5⟩
    · omega
    · injection q with q6 _ q7
      injection q6 with q6
      injection q6 with q6
      subst q6; subst q7
      exact ⟨cur, q1, q2, q3, q4, q5⟩
  have hgl : g < w.heap.size := (Array.getElem?_eq_some_iff.1 hgc).1
  have hvl : vb < w.heap.size := block_lt_of_cell (hnews 0 _ (List.getElem?_eq_getElem (by omega)))
  have hxsg : ∀ (W : World), W.heap[g]? = w.heap[g]? → ∀ j v, xs[j]? = some v → W.cell? ⟨g, j, none⟩ = some v := fun W hW j v hj => by
    have hj2 : j < n * 5 := by
      rcases Nat.lt_or_ge j (n * 5) with q | q
      · exact q
      · rw [List.getElem?_eq_none (by omega)] at hj; cases hj
    rw [← htk, List.getElem?_take, if_pos hj2] at hj
    simp [World.cell?, hW, hgc]
    simpa using hj
  have hold : (Builtin.firstCells i0.size k (.slice (some ⟨g, 0, none⟩) k c)).run Tryz.prog w.drew = .ok (xs.take (k * 5)).toArray w.drew := by
    rw [hz1]
    exact run_firstCells_some w.drew 5 k ⟨g, 0, none⟩ k c (xs.take (k * 5)) (by rw [List.length_take]; omega) (fun j v hj => by
      rw [addr0, Nat.zero_add]
      rw [List.getElem?_take] at hj
      split at hj
      · exact hxsg w.drew rfl j v hj
      · cases hj)
  have hkk : (n : Int) + 1 - k = ((n + 1 - k : Nat) : Int) := by omega
  have hik : k + (n + 1 - k) = n + 1 := by omega
  have hrz : ∀ ty, (Builtin.append_ #[25, 3] ty #[.slice (some ⟨g, 0, none⟩) k c, .int .i64 ((n : Int) + 1 - k)]).run Tryz.prog w = .ok (.slice (some ⟨w.heap.size, 0, none⟩) (n + 1) (grownCap w (n + 1) c 28)) (w.drew.alloc (.cells ((xs.take (k * 5)).toArray ++ Builtin.zeroCells ((.agg #[.string ⟨#[]⟩, .int .i64 0, .int .i64 0, .int .i64 0, .slice none 0 0]) : Value).cells (n + 1 - k) ++ Builtin.zeroCells ((.agg #[.string ⟨#[]⟩, .int .i64 0, .int .i64 0, .int .i64 0, .slice none 0 0]) : Value).cells (grownCap w (n + 1) c 28 - (n + 1))) 28)) := fun ty => by
    have h := Lib.run_append_grow_zeros w 25 3 ty 28 i0 _ .i64 .i64 Tryz.underlying25 Tryz.underlying3 hi hz0 (some ⟨g, 0, none⟩) k c (xs.take (k * 5)) hold (n + 1 - k) (by omega) (by omega) (by omega) (by omega) (by rw [hz2]; omega) (by rw [hz2, hik]; exact growslice_fits (by omega) (by omega))
    rw [hik] at h
    rw [hkk]
    exact h
  obtain ⟨G, hG⟩ : ∃ G, G = grownCap w (n + 1) c 28 := ⟨_, rfl⟩
  have hGn : n + 1 ≤ G := by rw [hG]; exact grownCap_ge w _ _ _
  have hG63 : G ≤ maxLen := by rw [hG]; exact grownCap_le_maxLen w (n + 1) c 28 (by unfold maxLen; omega)
  obtain ⟨ROW, hROW⟩ : ∃ ROW : List Value, ROW = xs.take (k * 5) ++ ((Builtin.zeroCells ((.agg #[.string ⟨#[]⟩, .int .i64 0, .int .i64 0, .int .i64 0, .slice none 0 0]) : Value).cells (n + 1 - k)).toList ++ (Builtin.zeroCells ((.agg #[.string ⟨#[]⟩, .int .i64 0, .int .i64 0, .int .i64 0, .slice none 0 0]) : Value).cells (G - (n + 1))).toList) := ⟨_, rfl⟩
  have hRa : (xs.take (k * 5)).toArray ++ Builtin.zeroCells ((.agg #[.string ⟨#[]⟩, .int .i64 0, .int .i64 0, .int .i64 0, .slice none 0 0]) : Value).cells (n + 1 - k) ++ Builtin.zeroCells ((.agg #[.string ⟨#[]⟩, .int .i64 0, .int .i64 0, .int .i64 0, .slice none 0 0]) : Value).cells (G - (n + 1)) = ROW.toArray := by
    rw [hROW]; apply Array.ext'; simp
  rw [← hG, hRa] at hrz
  have hRl : ROW.length = G * 5 := by
    rw [hROW]
    simp [Builtin.zeroCells, Value.cells]
    omega
  have hRt : ROW.take (k * 5) = xs.take (k * 5) := by
    rw [hROW, List.take_append_of_le_length (by rw [List.length_take]; omega), List.take_take, Nat.min_self]
  obtain ⟨W1, hW1⟩ : ∃ W1, W1 = w.drew.alloc (.cells ROW.toArray 28) := ⟨_, rfl⟩
  obtain ⟨N, hN⟩ : ∃ N, N = w.heap.size := ⟨_, rfl⟩
  rw [← hW1] at hrz
  have HG1 : Hid (W1.heap[N]? = some (.cells ROW.toArray 28 (0, 0))) := Lib.hid (by rw [hW1, hN]; exact heap_alloc_new w.drew _)
  have HB1 : Hid (w.grownBy W1 none) := Lib.hid (by rw [hW1]; exact ⟨rfl, rfl, rfl, by simp, fun j hj _ => heap_alloc_old w.drew _ hj⟩)
  obtain ⟨Y, hY⟩ : ∃ Y, Y = xs.drop (k * 5) := ⟨_, rfl⟩
  have hYl : Y.length = (n - k) * 5 := by rw [hY, List.length_drop, hxl]; omega
  have hY1 : ∀ u ∈ Y, u.oneCell' = true := fun u hu => by rw [hY] at hu; exact h1x u (List.mem_of_mem_drop hu)
  have HYS : Hid (∀ (W : World), W.heap[g]? = w.heap[g]? → ∀ j v, Y[j]? = some v → W.cell? ((⟨g, k * 5, none⟩ : Addr).add j) = some v) := Lib.hid (fun W hW j v hj => by
    rw [addr0]
    rw [hY, List.getElem?_drop] at hj
    exact hxsg W hW _ _ hj)
  have HVS : Hid (∀ (W : World), W.heap[vb]? = w.heap[vb]? → ∀ j v, news[j]? = some v → W.cell? ((⟨vb, 0, none⟩ : Addr).add j) = some v) := Lib.hid (fun W hW j v hj => by
    have := hnews j v hj
    rw [addr0] at this ⊢
    rw [World.cell?_of_block (show W.heap[(⟨vb, 0 + j, none⟩ : Addr).block]? = w.heap[vb]? from hW)]
    exact this)
  have hfin : Hid ((splice (splice ROW (k * 5) news) ((k + 1) * 5) Y).length = G * 5 ∧ (splice (splice ROW (k * 5) news) ((k + 1) * 5) Y).take ((n + 1) * 5) = xs.take (k * 5) ++ news ++ Y) := Lib.hid (by
    have e1 : (splice ROW (k * 5) news).length = G * 5 := by rw [length_splice _ _ _ (by omega), hRl]
    have e2 : (splice ROW (k * 5) news).take ((k + 1) * 5) = xs.take (k * 5) ++ news := by
      unfold splice
      rw [hRt, ← List.append_assoc, List.take_append_of_le_length (by rw [List.length_append, List.length_take]; omega), List.take_of_length_le (by rw [List.length_append, List.length_take]; omega)]
    refine ⟨by rw [length_splice _ _ _ (by omega), e1], ?_⟩
    show (List.take ((k + 1) * 5) (splice ROW (k * 5) news) ++ (Y ++ _)).take ((n + 1) * 5) = _
    rw [e2, ← List.append_assoc, List.take_append_of_le_length (by simp only [List.length_append, List.length_take]; omega), List.take_of_length_le (by simp only [List.length_append, List.length_take]; omega)])
  have hw1 : IntKind.i64.wrap ((k : Int) + 1) = (k : Int) + 1 := IntWalk.i64_in _ ⟨by omega, by omega⟩
  unfold maxLen at hG63
  have HRL := Lib.hid hRl
  have hNn : N = w.heap.size := hN
  have HNN := Lib.hid hN
  rw [← hN] at hrz
  have HRZ := Lib.hid hrz
  have HY1 := Lib.hid hY1
  have HYL := Lib.hid hYl
  have HYY := Lib.hid hY
  have HGC := Lib.hid hgc
  clear hrz hY hYl hY1 hRt hRa hROW hG hold hkk hik hxsg hgc htk hcs hW1 hnews hRl hN hNn
  have hgN : g ≠ N := by rw [HNN.out]; omega
  have hb1 : (0 : Int) ≤ (k : Int) + 1 := by omega
  have hb2 : ¬ G = k + 1 := by omega
  have hb3 : ¬ G = k := by omega
  have hb4 : ¬ c = k := by omega
  have hb5 : k ≤ n := by omega
  have mixed : Tryz.prog.follows .mixedOrders = true := by kernel_rfl
  go_enter Tryz.func25, Tryz.ntmps25
  have hcpA := fun ty dc => run_copy_rowS (P := Tryz.prog) W1 25 25 ty 28 i0 Tryz.underlying25 hi N (k * 5) (n + 1 - k) dc ⟨vb, 0, none⟩ 1 1 ROW.toArray 28 news 1 (by simp only [Nat.min_def]; split <;> omega) (by rw [hz1, hl]) HG1.out (HVS.out W1 (HB1.out.block vb hvl (by simp))) (by simp only [List.size_toArray]; rw [HRL.out]; omega) h1
  obtain ⟨W2, hW2⟩ : ∃ W2, W2 = W1.setRow N (ROW.toArray.toList.take (k * 5) ++ news ++ ROW.toArray.toList.drop (k * 5 + news.length)).toArray := ⟨_, rfl⟩
  rw [← hW2] at hcpA
  have HR2 : Hid (W2.heap[N]? = some (.cells (splice ROW (k * 5) news).toArray 28 (0, 0))) := Lib.hid (by
    rw [hW2, setRow_heap W1 N _ _ 28 _ HG1.out]; simp [splice])
  have HG2 : Hid (W1.grownBy W2 (some N)) := Lib.hid (by rw [hW2]; exact grownBy_setRow _ _ _)
  clear hW2
  have HCB : Hid (∀ {ops : Array Oper} {o : Oper} {a : Act} {K : Act → World → Prop} {Q : Exit → Act → World → Prop} {E : Prop} (W : World) (hgd : o.guard = none) (d s : Operand) (ho : o.op = .call { callee := .builtin .copy, args := #[d, s], argTypes := #[25, 25] }) (dc sc : Nat) (hd : a.eval d = .slice (some ⟨N, (k + 1) * 5, none⟩) (n - k) dc) (hs : a.eval s = .slice (some ⟨g, k * 5, none⟩) (n - k) sc) (hW : W.heap[N]? = some (.cells (splice ROW (k * 5) news).toArray 28 (0, 0))) (hWg : W.heap[g]? = w.heap[g]?) (h : ∀ w', Hid (w'.heap[N]? = some (.cells (splice (splice ROW (k * 5) news) ((k + 1) * 5) Y).toArray 28 (0, 0))) → Hid (W.grownBy w' (some N)) → K (a.put o.dst (goInt (n - k : Nat))) w'), if Region.wanted o (yielded ops a.tmps) = true then Oper.wp Tryz.prog o a W K Q else E) := Lib.hid (fun W hgd d s ho dc sc hd hs hW hWg h =>
    step_copy_S hgd d s _ _ ho 28 i0 Tryz.underlying25 hi N ((k + 1) * 5) (n - k) dc ⟨g, k * 5, none⟩ (n - k) sc hd hs (splice ROW (k * 5) news) _ hW Y (n - k) (by simp only [Nat.min_def]; split <;> omega) (by rw [hz1, HYL.out]) (HYS.out W hWg) (by rw [HYL.out, length_splice _ _ _ (by rw [HRL.out]; omega), HRL.out]; omega) HY1.out h)
  go_wp2_with (at_builtin; refine Lib.wpList_append_run _ rfl _ _ _ _ rfl _ _ rfl rfl _ _ (HRZ.out _) ?_)
  go_region_law_o (refine HCB.out _ rfl _ _ rfl (G - (k + 1)) (c - k) (by simp [Act.eval, Act.put]) (by simp [Act.eval, Act.put]) HR2.out ((HG2.out.block g (by have := HB1.out.size; omega) (fun e => hgN (Option.some.inj e))).trans (HB1.out.block g hgl (by simp))) ?_; intro W3 HR3 HG3)
  go_wp2
  go_ret
  refine ⟨_, rfl, ⟨?_, .inr ⟨N, G, _, rfl, by rw [HNN.out]; exact hbase, HR3.out, hGn, hG63, ?_, ?_⟩⟩, ?_⟩
  · have := hfin.out.2
    rw [HYY.out] at this
    rw [← this, ← HYY.out, List.length_take, hfin.out.1]
    omega
  · simp only [List.size_toArray]
    exact hfin.out.1
  · show List.take ((n + 1) * 5) _ = _
    rw [hfin.out.2, HYY.out]
  · exact gb_join HB1.out HG2.out ⟨HG3.out.os, HG3.out.tape, HG3.out.output, HG3.out.size, HG3.out.block⟩ (Nat.le_of_eq HNN.out.symm) _
theorem gb_two {w W1 W2 : World} {g : Nat} (h1 : w.grownBy W1 (some g)) (h2 : W1.grownBy W2 (some g)) : w.grownBy W2 (some g) :=
  ⟨h2.os.trans h1.os, h2.tape.trans h1.tape, h2.output.trans h1.output, Nat.le_trans h1.size h2.size, fun j hj hne => (h2.block j (Nat.lt_of_lt_of_le hj h1.size) hne).trans (h1.block j hj hne)⟩
set_option maxRecDepth 20000 in
set_option maxHeartbeats 4000000 in
theorem insBell_room (base n k g c : Nat) (xs : List Value) (w : World) (hown : w.ownsRow base 28 5 (.slice (some ⟨g, 0, none⟩) n c) n xs) (hk : k < n) (hn : n ≤ 1048576) (hc : n + 1 ≤ c) (vb : Nat) (varr : Array Value) (hvB : Blk w vb 28 varr) (hvg : vb ≠ g) (news : List Value) (hl : news.length = 5) (hnews : ∀ j u, news[j]? = some u → w.cell? ((⟨vb, 0, none⟩ : Addr).add j) = some u) (h1 : ∀ u ∈ news, u.oneCell' = true) (h1x : ∀ u ∈ xs, u.oneCell' = true) :
    Calls Tryz.prog 25 #[.slice (some ⟨g, 0, none⟩) n c, .int .i64 k, .slice (some ⟨vb, 0, none⟩) 1 1] w (InsOut base n k (.slice (some ⟨g, 0, none⟩) n c) xs news w) := by
  obtain ⟨i0, hi, hz0, hz1, hz2⟩ := info_parts BellI_info
  have hxl := hown.1
  obtain ⟨cur, hgc, hbg, hcm, hcs, htk⟩ : ∃ cur : Array Value, w.heap[g]? = some (.cells cur 28 (0, 0)) ∧ base ≤ g ∧ c ≤ maxLen ∧ cur.size = c * 5 ∧ cur.toList.take (n * 5) = xs := by
    rcases hown.2 with ⟨q, q2⟩ | ⟨g2, cap, cur, q, q0, q1, q2, q3, q4, q5⟩
    · omega
    · injection q with q6 _ q7
      injection q6 with q6
      injection q6 with q6
      subst q6; subst q7
      exact ⟨cur, q1, q0, q3, q4, q5⟩
  have hgl : g < w.heap.size := (Array.getElem?_eq_some_iff.1 hgc).1
  have hvl : vb < w.heap.size := block_lt_of_cell (hnews 0 _ (List.getElem?_eq_getElem (by omega)))
  have hov : ∀ lb cb, (callFunc 56 #[.slice (some ⟨vb, 0, none⟩) 1 1, .slice (some ⟨g, (k + 1) * 5, none⟩) lb cb]).run Tryz.prog w = .ok (.value (.bool false)) w := fun lb cb => by
    rw [run_callFunc_extern Tryz.func56 (by kernel_rfl) (by kernel_rfl) (by kernel_rfl) (e := Extern.SlicesOverlaps.overlaps #[25, 25] #[4]) (by kernel_rfl),
      Lib.run_overlaps_apart w 25 4 28 Tryz.underlying25 5 (fun W => by simp [Go.sizeOf, typeInfo, hi, hz1]) ⟨vb, 0, none⟩ ⟨g, (k + 1) * 5, none⟩ 1 1 lb cb hvg 28 28 varr.size cur.size (by show World.shape? w vb = _; unfold World.shape?; rw [show w.heap[vb]? = _ from hvB]) (by show World.shape? w g = _; unfold World.shape?; rw [hgc]) (by omega) (hvB.frozen 0) (hvB.frozen varr.size)]
    rfl
  obtain ⟨Y, hY⟩ : ∃ Y, Y = xs.drop (k * 5) := ⟨_, rfl⟩
  have hYl : Y.length = (n - k) * 5 := by rw [hY, List.length_drop, hxl]; omega
  have hY1 : ∀ u ∈ Y, u.oneCell' = true := fun u hu => by rw [hY] at hu; exact h1x u (List.mem_of_mem_drop hu)
  have HYS : Hid (∀ (W : World), W.heap[g]? = w.heap[g]? → ∀ j v, Y[j]? = some v → W.cell? ((⟨g, k * 5, none⟩ : Addr).add j) = some v) := Lib.hid (fun W hW j v hj => by
    rw [addr0]
    rw [hY, List.getElem?_drop] at hj
    have hj2 : k * 5 + j < n * 5 := by
      rcases Nat.lt_or_ge (k * 5 + j) (n * 5) with q | q
      · exact q
      · rw [List.getElem?_eq_none (by omega)] at hj; cases hj
    rw [← htk, List.getElem?_take, if_pos hj2] at hj
    simp [World.cell?, hW, hgc]
    simpa using hj)
  have HVS : Hid (∀ (W : World), W.heap[vb]? = w.heap[vb]? → ∀ j v, news[j]? = some v → W.cell? ((⟨vb, 0, none⟩ : Addr).add j) = some v) := Lib.hid (fun W hW j v hj => by
    have := hnews j v hj
    rw [addr0] at this ⊢
    rw [World.cell?_of_block (show W.heap[(⟨vb, 0 + j, none⟩ : Addr).block]? = w.heap[vb]? from hW)]
    exact this)
  obtain ⟨R1, hR1⟩ : ∃ R1, R1 = splice cur.toList ((k + 1) * 5) Y := ⟨_, rfl⟩
  have hR1l : R1.length = c * 5 := by rw [hR1, length_splice _ _ _ (by simp; omega)]; simpa using hcs
  have hfin : Hid ((splice R1 (k * 5) news).length = c * 5 ∧ (splice R1 (k * 5) news).take ((n + 1) * 5) = xs.take (k * 5) ++ news ++ Y) := Lib.hid (by
    refine ⟨by rw [length_splice _ _ _ (by omega), hR1l], ?_⟩
    have e1 : R1.take (k * 5) = xs.take (k * 5) := by
      rw [hR1]
      show (cur.toList.take ((k + 1) * 5) ++ _).take (k * 5) = _
      rw [List.take_append_of_le_length (by rw [List.length_take]; simp; omega), List.take_take, show min (k * 5) ((k + 1) * 5) = k * 5 by omega, ← htk, List.take_take, show min (k * 5) (n * 5) = k * 5 by omega]
    have e2 : R1.drop (k * 5 + 5) = Y ++ cur.toList.drop ((k + 1) * 5 + Y.length) := by
      rw [hR1]
      show (cur.toList.take ((k + 1) * 5) ++ _).drop (k * 5 + 5) = _
      rw [List.drop_append_of_le_length (by rw [List.length_take]; simp; omega), List.drop_eq_nil_of_le (by rw [List.length_take]; omega), List.nil_append]
    show (R1.take (k * 5) ++ (news ++ R1.drop (k * 5 + news.length))).take ((n + 1) * 5) = _
    rw [e1, hl, e2, ← List.append_assoc, ← List.append_assoc, List.take_append_of_le_length (by simp only [List.length_append, List.length_take]; omega), List.take_of_length_le (by simp only [List.length_append, List.length_take]; omega)])
  have hw1 : IntKind.i64.wrap ((k : Int) + 1) = (k : Int) + 1 := IntWalk.i64_in _ ⟨by omega, by omega⟩
  unfold maxLen at hcm
  have HY1 := Lib.hid hY1
  have HYL := Lib.hid hYl
  have HYY := Lib.hid hY
  have HGC := Lib.hid hgc
  have HR1 := Lib.hid hR1
  have HR1L := Lib.hid hR1l
  have HCS := Lib.hid hcs
  have hb1 : (0 : Int) ≤ (k : Int) + 1 := by omega
  have hb2 : ¬ c = k + 1 := by omega
  have hb4 : ¬ c = k := by omega
  have hb5 : k ≤ n := by omega
  have hb6 : (k : Int) ≤ (n : Int) + 1 := by omega
  have mixed : Tryz.prog.follows .mixedOrders = true := by kernel_rfl
  have HCB : Hid (∀ {ops : Array Oper} {o : Oper} {a : Act} {K : Act → World → Prop} {Q : Exit → Act → World → Prop} {E : Prop} (W : World) (hgd : o.guard = none) (d s : Operand) (ho : o.op = .call { callee := .builtin .copy, args := #[d, s], argTypes := #[25, 25] }) (dc sc : Nat) (hd : a.eval d = .slice (some ⟨g, (k + 1) * 5, none⟩) (n - k) dc) (hs : a.eval s = .slice (some ⟨g, k * 5, none⟩) (n + 1 - k) sc) (hW : W.heap[g]? = w.heap[g]?) (h : ∀ w', Hid (w'.heap[g]? = some (.cells R1.toArray 28 (0, 0))) → Hid (W.grownBy w' (some g)) → K (a.put o.dst (goInt (n - k : Nat))) w'), if Region.wanted o (yielded ops a.tmps) = true then Oper.wp Tryz.prog o a W K Q else E) := Lib.hid (fun W hgd d s ho dc sc hd hs hW h =>
    step_copy_S hgd d s _ _ ho 28 i0 Tryz.underlying25 hi g ((k + 1) * 5) (n - k) dc ⟨g, k * 5, none⟩ (n + 1 - k) sc hd hs cur.toList _ (by rw [hW, HGC.out]) Y (n - k) (by simp only [Nat.min_def]; split <;> omega) (by rw [hz1, HYL.out]) (HYS.out W hW) (by rw [HYL.out, Array.length_toList, HCS.out]; omega) HY1.out (fun w' q1 q2 => h w' (Lib.hid (by rw [q1.out, HR1.out])) q2))
  have HCA : Hid (∀ (W : World), W.heap[g]? = some (.cells R1.toArray 28 (0, 0)) → W.heap[vb]? = w.heap[vb]? → ∃ W2, (∀ ty dc, (Builtin.copy_ #[25, 25] ty #[.slice (some ⟨g, k * 5, none⟩) (n + 1 - k) dc, .slice (some ⟨vb, 0, none⟩) 1 1]).run Tryz.prog W = .ok (goInt 1) W2) ∧ Hid (W2.heap[g]? = some (.cells (splice R1 (k * 5) news).toArray 28 (0, 0))) ∧ Hid (W.grownBy W2 (some g))) := Lib.hid (fun W hW hWv => by
    refine ⟨_, fun ty dc => run_copy_rowS (P := Tryz.prog) W 25 25 ty 28 i0 Tryz.underlying25 hi g (k * 5) (n + 1 - k) dc ⟨vb, 0, none⟩ 1 1 R1.toArray 28 news 1 (by simp only [Nat.min_def]; split <;> omega) (by rw [hz1, hl]) hW (HVS.out W hWv) (by simp only [List.size_toArray]; rw [HR1L.out]; omega) h1, ?_, ?_⟩
    · exact Lib.hid (by rw [setRow_heap W g _ _ 28 _ hW]; simp [splice])
    · exact Lib.hid (grownBy_setRow _ _ _))
  clear hY hYl hY1 hR1 hR1l hgc hcs htk hnews
  go_enter Tryz.func25, Tryz.ntmps25
  go_wp2_with (simp only [hov])
  go_region_law_o (refine HCB.out _ rfl _ _ rfl (c - (k + 1)) (c - k) (by simp [Act.eval, Act.put]) (by simp [Act.eval, Act.put]) rfl ?_; intro W3 HR3 HG3)
  have hG3 := HG3.out
  have HG4 : Hid (w.grownBy W3 (some g)) := Lib.hid ⟨hG3.os, hG3.tape, hG3.output, hG3.size, hG3.block⟩
  obtain ⟨W4, hcpA, HR4, HG5⟩ := HCA.out W3 HR3.out (HG4.out.block vb hvl (fun e => hvg (Option.some.inj e)))
  clear hG3 HG3
  go_wp2
  go_ret
  refine ⟨_, rfl, ⟨?_, .inr ⟨g, c, _, rfl, hbg, HR4.out, hc, hcm, ?_, ?_⟩⟩, gb_two HG4.out HG5.out⟩
  · have := hfin.out.2
    rw [HYY.out] at this
    rw [← this, List.length_take, hfin.out.1]
    omega
  · simp only [List.size_toArray]
    exact hfin.out.1
  · show List.take ((n + 1) * 5) _ = _
    rw [hfin.out.2, HYY.out]
/-- one bell put into a row of the call's own -/
theorem insBell_calls (base n k : Nat) (A : Option Addr) (c : Nat) (xs : List Value) (w : World) (hown : w.ownsRow base 28 5 (.slice A n c) n xs) (hk : k ≤ n) (hn : n ≤ 1048576) (vb : Nat) (varr : Array Value) (hvB : Blk w vb 28 varr) (hvg : some vb ≠ (Value.slice A n c).ownBlock) (news : List Value) (hl : news.length = 5) (hnews : ∀ j u, news[j]? = some u → w.cell? ((⟨vb, 0, none⟩ : Addr).add j) = some u) (h1 : ∀ u ∈ news, u.oneCell' = true) (h1x : ∀ u ∈ xs, u.oneCell' = true) (hbase : base ≤ w.heap.size) :
    Calls Tryz.prog 25 #[.slice A n c, .int .i64 k, .slice (some ⟨vb, 0, none⟩) 1 1] w (InsOut base n k (.slice A n c) xs news w) := by
  by_cases hkn : k = n
  · subst hkn
    exact insBell_end base k A c xs w hown hn vb news hl hnews h1 hbase
  · obtain ⟨g, rfl⟩ : ∃ g, A = some ⟨g, 0, none⟩ := by
      rcases hown.2 with ⟨-, q2⟩ | ⟨g, cap, cur, q, -⟩
      · omega
      · injection q with q1; exact ⟨g, q1⟩
    by_cases hc : n + 1 ≤ c
    · exact insBell_room base n k g c xs w hown (by omega) hn hc vb varr hvB (fun e => hvg (by rw [e]; rfl)) news hl hnews h1 h1x
    · exact insBell_grow base n k g c xs w hown (by omega) hn (by omega) vb news hl hnews h1 h1x hbase
end Go.Proofs.YticnpibkpfpojaaGreatDoor

/- slices.Concat over bells: a list and one bell more. -/
namespace Go.Proofs.YticnpibkpfpojaaGreatDoor
set_option linter.unusedVariables false
open Go.RowKit

set_option maxRecDepth 20000 in
set_option maxHeartbeats 4000000 in
theorem growBells_calls (n : Nat) (w : World) (hn : n ≤ 1048577) (h0 : 0 < n) :
    Calls Tryz.prog 47 #[.slice none 0 0, .int .i64 n] w fun e w' => ∃ v, e = .returned v ∧ w'.ownsRow w.heap.size 28 5 v 0 [] ∧ Below w.heap.size w w' := by
  obtain ⟨i0, hi, hz0, hz1, hz2⟩ := info_parts BellI_info
  have hrz := fun ty => Lib.run_append_nil_zeros (P := Tryz.prog) w 25 3 ty 28 i0 _ .i64 .i64 Tryz.underlying25 Tryz.underlying3 hi hz0 n h0 (by rw [hz1]; decide) (by omega) (by rw [hz2]; omega)
  obtain ⟨G, hG⟩ : ∃ G, G = grownCap w n 0 28 := ⟨_, rfl⟩
  have hGn : n ≤ G := by rw [hG]; exact grownCap_ge w _ _ _
  have hG63 : G ≤ maxLen := by rw [hG]; exact grownCap_le_maxLen w n 0 28 (by unfold maxLen; omega)
  obtain ⟨ROW, hROW⟩ : ∃ ROW, ROW = Builtin.zeroCells ((.agg #[.string ⟨#[]⟩, .int .i64 0, .int .i64 0, .int .i64 0, .slice none 0 0]) : Value).cells n ++ Builtin.zeroCells ((.agg #[.string ⟨#[]⟩, .int .i64 0, .int .i64 0, .int .i64 0, .slice none 0 0]) : Value).cells (G - n) := ⟨_, rfl⟩
  rw [← hG, ← hROW] at hrz
  have hRl : ROW.size = G * 5 := by
    rw [hROW]
    simp [Builtin.zeroCells, Value.cells]
    omega
  obtain ⟨W1, hW1⟩ : ∃ W1, W1 = w.drew.alloc (.cells ROW 28) := ⟨_, rfl⟩
  rw [← hW1] at hrz
  have HG1 : Hid (W1.heap[w.heap.size]? = some (.cells ROW 28 (0, 0))) := Lib.hid (by rw [hW1]; exact heap_alloc_new w.drew _)
  have HB1 : Hid (Below w.heap.size w W1) := Lib.hid (by rw [hW1]; exact (below_drewN (Below.refl w.heap.size w) 1).alloc (Nat.le_refl _) _)
  have HRZ := Lib.hid hrz
  have HRL := Lib.hid hRl
  have hG64 := hG63
  unfold maxLen at hG64
  clear hG hROW hW1 hrz hRl
  go_enter Tryz.func47, Tryz.ntmps47
  go_wp2_with (at_builtin; refine Lib.wpList_append_run _ rfl _ _ _ _ rfl _ _ rfl rfl _ _ (HRZ.out _) ?_)
  go_ret
  exact ⟨_, rfl, ⟨rfl, .inr ⟨w.heap.size, G, ROW, rfl, Nat.le_refl _, HG1.out, Nat.zero_le _, hG63, HRL.out, by simp⟩⟩, HB1.out⟩
def rowL (w : World) (b o N : Nat) : List Value := (List.range N).map fun j => (w.cell? ⟨b, o + j, none⟩).getD (.int .i64 0)
theorem rowL_len (w : World) (b o N : Nat) : (rowL w b o N).length = N := by simp [rowL]
theorem rowL_at {w : World} {b o N j : Nat} {v : Value} (h : j < N) (hc : w.cell? ⟨b, o + j, none⟩ = some v) : (rowL w b o N)[j]? = some v := by
  simp [rowL, h, hc]
theorem bells_some {w : World} {b o n : Nat} {f : Nat → BellV} (h : ∀ i, i < n → BellAt w b (o + i * 5) (f i)) (j : Nat) (hj : j < n * 5) : ∃ v, w.cell? ⟨b, o + j, none⟩ = some v ∧ v.oneCell' = true := by
  obtain ⟨AK, CK, c0, c1, c2, c3, c4, -⟩ := h (j / 5) (by omega)
  rcases (show j = j / 5 * 5 ∨ j = j / 5 * 5 + 1 ∨ j = j / 5 * 5 + 2 ∨ j = j / 5 * 5 + 3 ∨ j = j / 5 * 5 + 4 by omega) with q | q | q | q | q
  · exact ⟨_, by rw [q]; exact c0, rfl⟩
  · exact ⟨_, by rw [q]; exact c1, rfl⟩
  · exact ⟨_, by rw [q]; exact c2, rfl⟩
  · exact ⟨_, by rw [q]; exact c3, rfl⟩
  · exact ⟨_, by rw [q]; exact c4, rfl⟩
theorem rowL_news {w : World} {b o n : Nat} {f : Nat → BellV} (h : ∀ i, i < n → BellAt w b (o + i * 5) (f i)) : ∀ j u, (rowL w b o (n * 5))[j]? = some u → w.cell? ((⟨b, o, none⟩ : Addr).add j) = some u := fun j u hj => by
  have hjn : j < n * 5 := by
    rcases Nat.lt_or_ge j (n * 5) with q | q
    · exact q
    · rw [List.getElem?_eq_none (by rw [rowL_len]; omega)] at hj; cases hj
  have hadd : (⟨b, o, none⟩ : Addr).add j = ⟨b, o + j, none⟩ := by unfold Addr.add; split <;> simp_all
  obtain ⟨v, hv, -⟩ := bells_some h j hjn
  rw [hadd, hv]
  rw [rowL_at hjn hv] at hj
  exact hj
theorem rowL_one {w : World} {b o n : Nat} {f : Nat → BellV} (h : ∀ i, i < n → BellAt w b (o + i * 5) (f i)) : ∀ u ∈ rowL w b o (n * 5), u.oneCell' = true := fun u hu => by
  obtain ⟨j, hj, rfl⟩ := List.mem_map.1 hu
  obtain ⟨v, hv, h1⟩ := bells_some h j (List.mem_range.1 hj)
  rw [hv]; exact h1
/-- the row that holds a list's bells and one more -/
theorem concRow {w w' : World} {base b o n C1 : Nat} {v : Value} {f : Nat → BellV} {x : BellV} {C : Option Addr} (ho : w'.ownsRow base 28 5 v (n + 1) (rowL w b o (n * 5) ++ bellC x (.slice C x.n C1))) (h : ∀ i, i < n → BellAt w b (o + i * 5) (f i)) (hsh : ShareRow w C x.n x.ss x.ms) (hb : Below w.heap.size w w') : ∃ A c, v = .slice A (n + 1) c ∧ BellRow w' A (n + 1) (insF f n x) := by
  obtain ⟨g, cap, cur, hv, hg, hbk, hc, hm, hs, hx⟩ := own_blk ho (by omega)
  refine ⟨_, cap, hv, fun _ => ⟨g, 0, rfl, fun i hi => ?_⟩⟩
  rw [Nat.zero_add]
  have hlen := rowL_len w b o (n * 5)
  rcases Nat.lt_or_ge i n with q | q
  · rw [insF_lo q]
    obtain ⟨AK, CK, c0, c1, c2, c3, c4, c5⟩ := h i q
    have e : ∀ r u, r < 5 → w.cell? ⟨b, o + i * 5 + r, none⟩ = some u → w'.cell? ⟨g, i * 5 + r, none⟩ = some u := fun r u hr hu => by
      rw [hbk.cell, hx _ (by omega), List.getElem?_append_left (by omega)]
      exact rowL_at (by omega) (by rw [← Nat.add_assoc]; exact hu)
    exact ⟨AK, CK, e 0 _ (by omega) c0, e 1 _ (by omega) c1, e 2 _ (by omega) c2, e 3 _ (by omega) c3, e 4 _ (by omega) c4, ShareRow.keep c5 hb⟩
  · obtain rfl : i = n := by omega
    rw [insF_at]
    have e : ∀ r u, r < 5 → (bellC x (.slice C x.n C1))[r]? = some u → w'.cell? ⟨g, i * 5 + r, none⟩ = some u := fun r u hr hu => by
      rw [hbk.cell, hx _ (by omega), List.getElem?_append_right (by omega), hlen, show i * 5 + r - i * 5 = r by omega]
      exact hu
    exact ⟨C, C1, e 0 _ (by omega) rfl, e 1 _ (by omega) rfl, e 2 _ (by omega) rfl, e 3 _ (by omega) rfl, e 4 _ (by omega) rfl, ShareRow.keep hsh hb⟩
theorem src_nothing {P : Program} (size : Nat) {tx e : TypeId} (h : P.underlying tx = some (.slice e)) (A : Option Addr) (c : Nat) (w : World) : Src P size tx (.slice A 0 c) 0 [] w := by
  refine ⟨.inl ⟨e, h⟩, fun w' => by simp [Builtin.lenOf], ?_, ?_, by simp, fun u hu => by cases hu⟩
  · cases A with
    | none => simp [Builtin.firstCells]
    | some a => exact run_firstCells_some w size 0 a 0 c [] (by simp) (fun j v hj => by simp at hj)
  · cases A with
    | none => simp [Builtin.firstCells]
    | some a => exact run_firstCells_some w.drew size 0 a 0 c [] (by simp) (fun j v hj => by simp at hj)
theorem own_zero {w : World} {base e size : Nat} {v : Value} (h : w.ownsRow base e size v 0 []) : ∃ B cap, v = .slice B 0 cap := by
  rcases h.2 with ⟨q, -⟩ | ⟨g, cap, cur, q, -⟩
  · exact ⟨_, _, q⟩
  · exact ⟨_, _, q⟩
set_option maxRecDepth 20000 in
set_option maxHeartbeats 8000000 in
theorem concBells_calls (A : Option Addr) (n c : Nat) (f : Nat → BellV) (x : BellV) (C : Option Addr) (e2 S vb : Nat) (w : World) (h : BellRow w A n f) (hn : n ≤ 1048576) (hnc : n ≤ c) (hS : Blk w S 25 #[.slice A n c, .slice (some ⟨vb, 0, none⟩) 1 1]) (hvb : Blk w vb 28 #[.string x.id, .int .i64 x.no, .int .i64 x.ma, .int .i64 x.fe, .slice C x.n e2]) (hsh : ShareRow w C x.n x.ss x.ms) :
    Calls Tryz.prog 19 #[.slice (some ⟨S, 0, none⟩) 2 2] w fun e w' => ∃ A' c', e = .returned (.slice A' (n + 1) c') ∧ BellRow w' A' (n + 1) (insF f n x) ∧ Below w.heap.size w w' := by
  obtain ⟨i0, hi, hz0, hz1, hz2⟩ := info_parts BellI_info
  have H := Lib.hid h
  have HS := Lib.hid hS
  have HVB := Lib.hid hvb
  have HSH := Lib.hid hsh
  have HGW := Lib.hid (fun W => growBells_calls (n + 1) W (by omega) (by omega))
  rw [show ((n + 1 : Nat) : Int) = (n : Int) + 1 by omega] at HGW
  clear h hS hvb hsh
  go_enter Tryz.func19, Tryz.ntmps19
  go_wp2
  go_loopw [3, 11] (fun sz i wr => wr = w ∧ ((i = .int .i64 0 ∧ sz = .int .i64 0) ∨ (i = .int .i64 1 ∧ sz = .int .i64 n) ∨ (i = .int .i64 2 ∧ sz = .int .i64 ((n : Int) + 1)))) (fun _ i _ => 2 - (intOf i).toNat)
  case atStart => exact ⟨rfl, .inl ⟨rfl, rfl⟩⟩
  case round =>
    obtain ⟨rfl, hs⟩ := hrel
    have s0 := (HS.out.cell 0).trans rfl
    have s1 := (HS.out.cell 1).trans rfl
    rcases hs with ⟨rfl, rfl⟩ | ⟨rfl, rfl⟩ | ⟨rfl, rfl⟩
    · go_wp2
      go_roundw
      case rel => exact ⟨trivial, .inr (.inl ⟨by go_num, by go_num⟩)⟩
      case measure => simp [intOf]
    · go_wp2
      go_roundw
      case rel => exact ⟨trivial, .inr (.inr ⟨by go_num, by go_num⟩)⟩
      case measure => simp [intOf]
    · go_wp2_with fail
      go_at_call 47
      refine (HGW.out _).mono ?_
      rintro e w1 ⟨v1, rfl, hown, hbr⟩
      have HOWN := Lib.hid hown
      clear hown s0 s1
      obtain ⟨w0, hw0⟩ : ∃ w0, w0 = wr := ⟨_, rfl⟩
      subst hw0
      go_wp2
      go_loopw [6, 27] (fun v i w9 => Below w0.heap.size w0 w9 ∧ ((i = .int .i64 0 ∧ Hid (w9.ownsRow w0.heap.size 28 5 v 0 [])) ∨ (i = .int .i64 1 ∧ ∃ b o, Hid (w9.ownsRow w0.heap.size 28 5 v n (rowL w0 b o (n * 5)) ∧ ∀ i, i < n → BellAt w0 b (o + i * 5) (f i))) ∨ (i = .int .i64 2 ∧ ∃ b o, Hid (w9.ownsRow w0.heap.size 28 5 v (n + 1) (rowL w0 b o (n * 5) ++ bellC x (.slice C x.n e2)) ∧ ∀ i, i < n → BellAt w0 b (o + i * 5) (f i))))) (fun _ i _ => 2 - (intOf i).toNat)
      case atStart => exact ⟨hbr, .inl ⟨rfl, HOWN⟩⟩
      case round =>
        clear HOWN hbr
        obtain ⟨hbr, hs⟩ := hrel
        have s0 := ((HS.out.keep hbr).cell 0).trans rfl
        have s1 := ((HS.out.keep hbr).cell 1).trans rfl
        have hbs := hbr.size
        rcases hs with ⟨rfl, hown⟩ | ⟨rfl, b, o, hown⟩ | ⟨rfl, b, o, hown⟩
        · rcases Nat.eq_zero_or_pos n with h0 | h0
          · obtain ⟨BB, cap, rfl⟩ := own_zero hown.out
            have HRN : Hid (∀ ty, (Builtin.append_ #[25, 25] ty #[.slice BB 0 cap, .slice A n c]).run Tryz.prog wr = .ok (.slice BB 0 cap) wr) := Lib.hid (fun ty => by
              rw [h0]
              exact run_append_nothing (P := Tryz.prog) (ty := ty) wr 25 25 28 i0 Tryz.underlying25 hi BB 0 cap (Nat.zero_le _) (.slice A 0 c) (src_nothing i0.size Tryz.underlying25 A c wr))
            have H0 := Lib.hid h0
            clear h0
            go_wp2_with (at_builtin; refine Lib.wpList_append_run _ rfl _ _ _ _ rfl _ _ rfl rfl _ _ (HRN.out _) ?_)
            go_roundw
            case rel => exact ⟨hbr, .inr (.inl ⟨by go_num, 0, 0, Lib.hid ⟨by rw [H0.out]; exact hown.out, fun i hi => by have := H0.out; omega⟩⟩)⟩
            case measure => simp [intOf]
          · obtain ⟨b, o, rfl, hrow⟩ := H.out h0
            have HNW := Lib.hid (rowL_news hrow)
            have HN1 := Lib.hid (rowL_one hrow)
            have HNK : Hid (∀ j u, (rowL w0 b o (n * 5))[j]? = some u → wr.cell? ((⟨b, o, none⟩ : Addr).add j) = some u) := Lib.hid (fun j u hj => by
              have q := HNW.out j u hj
              have hadd : (⟨b, o, none⟩ : Addr).add j = ⟨b, o + j, none⟩ := by unfold Addr.add; split <;> simp_all
              rw [hadd] at q ⊢
              exact cell_keep hbr q)
            have HRW := Lib.hid hrow
            have HLL := Lib.hid (rowL_len w0 b o (n * 5))
            clear hrow
            go_wp2_with (at_builtin; refine wpList_append_own _ rfl _ _ 25 rfl w0.heap.size 28 i0 (.agg #[.string ⟨#[]⟩, .int .i64 0, .int .i64 0, .int .i64 0, .slice none 0 0]) 5 64 Tryz.underlying25 hi hz0 hz1 hz2 rfl (by decide) _ _ _ rfl hown.out ⟨b, o, none⟩ n c (rowL w0 b o (n * 5)) rfl HLL.out HNK.out HN1.out (by unfold maxLen; omega) (by omega) hbs ?_; intro v9 w9 hown' hgrow _; refine Hid.out ?_)
            refine Lib.hid ?_
            rw [Nat.zero_add, List.nil_append] at hown'
            have hb9 := Lib.hid (hbr.grown hgrow hbs (fun z hz => (hown.out.lt z hz).1))
            have HOW := Lib.hid hown'
            clear hown' hgrow
            go_wp2
            go_roundw
            case rel => exact ⟨hb9.out, .inr (.inl ⟨by go_num, b, o, Lib.hid ⟨HOW.out, HRW.out⟩⟩)⟩
            case measure => simp [intOf]
        · have HNB := Lib.hid (World.news_of_block (HVB.out.keep hbr))
          go_wp2_with (at_builtin; refine wpList_append_own _ rfl _ _ 25 rfl w0.heap.size 28 i0 (.agg #[.string ⟨#[]⟩, .int .i64 0, .int .i64 0, .int .i64 0, .slice none 0 0]) 5 64 Tryz.underlying25 hi hz0 hz1 hz2 rfl (by decide) _ _ _ rfl hown.out.1 ⟨vb, 0, none⟩ 1 1 (bellC x (.slice C x.n e2)) rfl rfl HNB.out (fun u hu => by simp [bellC] at hu; rcases hu with rfl | rfl | rfl | rfl | rfl <;> rfl) (by unfold maxLen; omega) (by omega) hbs ?_; intro v9 w9 hown' hgrow _; refine Hid.out ?_)
          refine Lib.hid ?_
          have hb9 := Lib.hid (hbr.grown hgrow hbs (fun z hz => (hown.out.1.lt z hz).1))
          have HOW := Lib.hid hown'
          clear hown' hgrow
          go_wp2
          go_roundw
          case rel => exact ⟨hb9.out, .inr (.inr ⟨by go_num, b, o, Lib.hid ⟨HOW.out, hown.out.2⟩⟩)⟩
          case measure => simp [intOf]
        · obtain ⟨A9, c9, rfl, hrow⟩ := concRow hown.out.1 hown.out.2 HSH.out hbr
          have HRW := Lib.hid hrow
          clear hrow
          go_wp2
          go_ret
          exact ⟨A9, c9, rfl, HRW.out, hbr⟩
end Go.Proofs.YticnpibkpfpojaaGreatDoor

/- The program's copies and the bell put in: where it goes, what lies apart. -/
namespace Go.Proofs.YticnpibkpfpojaaGreatDoor
set_option linter.unusedVariables false
open Go.RowKit


theorem okB_srt {f : Nat → BellV} {n : Nat} (h : okBells f n = true) : Srt (fun q => (f q).id) n := srt_of fun k hk => by
  unfold okBells bellsOk at h
  simp only [Bool.and_eq_true] at h
  have h1 := allB_of h.1 (k + 1) hk
  unfold goodAt at h1
  simp only [Bool.and_eq_true, Bool.or_eq_true] at h1
  rcases h1.2 with h2 | h2
  · simp at h2
  · exact h2
theorem allKnown_ins (g : Nat → MeltV) (m : Nat) (f : Nat → BellV) (n : Nat) (x : BellV) : allKnown (fun q => (g q).id) m (insF f n x) (n + 1) = (allKnown (fun q => (g q).id) m f n && knownB (fun q => (g q).id) m x) := by
  show (allB (fun i => knownB (fun q => (g q).id) m (insF f n x i)) n && knownB (fun q => (g q).id) m (insF f n x n)) = _
  rw [insF_at]
  congr 1
  unfold allKnown
  cases h : allB (fun i => knownB (fun q => (g q).id) m (f i)) n
  · obtain ⟨i, hi, h2⟩ : ∃ i, i < n ∧ knownB (fun q => (g q).id) m (f i) = false := by
      obtain ⟨i, hi, -, h2⟩ := fno_hit2 h
      exact ⟨i, hi, h2⟩
    exact allB_no hi (by show knownB _ m (insF f n x i) = false; rw [insF_lo hi]; exact h2)
  · exact allB_yes fun i hi => by show knownB _ m (insF f n x i) = true; rw [insF_lo hi]; exact allB_of h i hi
theorem pos_half {f : Nat → BellV} {n k : Nat} {x : BellV} (hh : Half (fun q => (f q).id) n x.id k k) (s : Srt (fun q => (f q).id) n) (hk : k ≤ n) (hno : hasB f x n = false) : posA f x n = k := by
  obtain ⟨h1, h2⟩ := hh s
  obtain ⟨p1, p2, p3⟩ := posA_spec f x n
  rcases Nat.lt_trichotomy (posA f x n) k with q | q | q
  · have a := h1 _ q
    have b := p3 (by omega)
    have := ltS_trans a b
    rw [ltS_irrefl] at this; cases this
  · exact q
  · have hkn : k < n := by omega
    have a := h2 k (Nat.le_refl _) hkn
    have b := p2 k q
    have c := ltS_total (f k).id x.id
    rw [show ltS (f k).id x.id = false from a, b] at c
    have d : eqS (f k).id x.id = true := by simpa using c
    have : hasB f x n = true := anyB_hit hkn d
    rw [hno] at this; cases this
/-- lists of bells live behind what writes another row of bells alone -/
theorem BellsX.grow {w w' : World} {base b2 top k m : Nat} {v : Value} {xs ys : List Value} {f : Nat → BellV} (h : BellsX w base top xs k f) (ho : w.ownsRow b2 28 5 v m ys) (hg : w.grownBy w' v.ownBlock) : BellsX w' base top xs k f := by
  obtain ⟨hl, gs, cs, hx, hap⟩ := h
  refine ⟨hl, gs, cs, fun i hi => ?_, hap⟩
  obtain ⟨a, a4, a5, a6, a7⟩ := hx i hi
  refine ⟨a, a4, a5, a6, ?_⟩
  obtain ⟨arr, hb, ha⟩ := a7
  refine ⟨arr, (hg.block _ hb.lt (fun e => ?_)).trans hb, ha⟩
  rcases ho.2 with ⟨rfl, -⟩ | ⟨g3, cap, cur, rfl, -, h3, -⟩
  · cases e
  · have e2 := Option.some.inj e
    have h4 : Blk w (gs i) 28 cur := by rw [show gs i = g3 from e2]; exact h3
    have := (hb.uniq h4).1
    exact absurd this (by decide)
theorem ShareOwnC.grow {w w' : World} {b2 m n G c : Nat} {v : Value} {ys : List Value} {ss : Nat → ByteArray} {ms : Nat → Int} (h : ShareOwnC w n ss ms G c) (ho : w.ownsRow b2 28 5 v m ys) (hg : w.grownBy w' v.ownBlock) : ShareOwnC w' n ss ms G c := by
  obtain ⟨arr, hb, ha⟩ := h
  refine ⟨arr, (hg.block G hb.lt (fun e => ?_)).trans hb, ha⟩
  rcases ho.2 with ⟨rfl, -⟩ | ⟨g3, cap, cur, rfl, -, h3, -⟩
  · cases e
  · have e2 : G = g3 := Option.some.inj e
    subst e2
    have := (hb.uniq (show Blk w G 28 cur from h3)).1
    exact absurd this (by decide)
theorem BellsX.insert {w : World} {base n k top top' G c : Nat} {xs : List Value} {f : Nat → BellV} {x : BellV} (h : BellsX w base top xs n f) (hG : top ≤ G) (hGt : G < top') (hbt : base ≤ top) (hs : ShareOwnC w x.n x.ss x.ms G c) (hk : k ≤ n) : BellsX w base top' (xs.take (k * 5) ++ bellC x (.slice (some ⟨G, 0, none⟩) x.n c) ++ xs.drop (k * 5)) (n + 1) (insF f k x) := by
  obtain ⟨hl, gs, cs, hx, hap⟩ := h
  have hbl : (bellC x (.slice (some ⟨G, 0, none⟩) x.n c)).length = 5 := rfl
  have htl : (xs.take (k * 5)).length = k * 5 := by rw [List.length_take]; omega
  refine ⟨by simp [hl, bellC]; omega, fun i => if i < k then gs i else if i = k then G else gs (i - 1), fun i => if i < k then cs i else if i = k then c else cs (i - 1), fun i hi => ?_, fun i j hij hj => ?_⟩
  · rcases Nat.lt_trichotomy i k with q | q | q
    · have e : ∀ r, r < 5 → (xs.take (k * 5) ++ bellC x (.slice (some ⟨G, 0, none⟩) x.n c) ++ xs.drop (k * 5))[i * 5 + r]? = xs[i * 5 + r]? := fun r hr => by
        rw [List.getElem?_append_left (by rw [List.length_append]; omega), List.getElem?_append_left (by omega), List.getElem?_take, if_pos (by omega)]
      obtain ⟨⟨a0, a1, a2, a3⟩, a4, a5, a6, a7⟩ := hx i (by omega)
      rw [insF_lo q]
      show BellX _ _ _ _ _ _ (if i < k then gs i else if i = k then G else gs (i - 1)) (if i < k then cs i else if i = k then c else cs (i - 1))
      rw [if_pos q, if_pos q]
      exact ⟨⟨(e 0 (by omega)).trans a0, (e 1 (by omega)).trans a1, (e 2 (by omega)).trans a2, (e 3 (by omega)).trans a3⟩, (e 4 (by omega)).trans a4, a5, by omega, a7⟩
    · subst q
      have e : ∀ r, r < 5 → (xs.take (i * 5) ++ bellC x (.slice (some ⟨G, 0, none⟩) x.n c) ++ xs.drop (i * 5))[i * 5 + r]? = (bellC x (.slice (some ⟨G, 0, none⟩) x.n c))[r]? := fun r hr => by
        rw [List.getElem?_append_left (by rw [List.length_append]; omega), List.getElem?_append_right (by omega), htl, show i * 5 + r - i * 5 = r by omega]
      rw [insF_at]
      show BellX _ _ _ _ _ _ (if i < i then gs i else if i = i then G else gs (i - 1)) (if i < i then cs i else if i = i then c else cs (i - 1))
      rw [if_neg (by omega), if_pos rfl, if_neg (by omega), if_pos rfl]
      exact ⟨⟨(e 0 (by omega)).trans rfl, (e 1 (by omega)).trans rfl, (e 2 (by omega)).trans rfl, (e 3 (by omega)).trans rfl⟩, (e 4 (by omega)).trans rfl, by omega, hGt, hs⟩
    · obtain ⟨i, rfl⟩ : ∃ j, i = j + 1 := ⟨i - 1, by omega⟩
      have e : ∀ r, r < 5 → (xs.take (k * 5) ++ bellC x (.slice (some ⟨G, 0, none⟩) x.n c) ++ xs.drop (k * 5))[(i + 1) * 5 + r]? = xs[i * 5 + r]? := fun r hr => by
        rw [List.getElem?_append_right (by rw [List.length_append]; omega), List.length_append, htl, hbl, List.getElem?_drop]
        congr 1
        omega
      obtain ⟨⟨a0, a1, a2, a3⟩, a4, a5, a6, a7⟩ := hx i (by omega)
      rw [insF_hi (by omega)]
      show BellX _ _ _ _ _ _ (if i + 1 < k then gs (i + 1) else if i + 1 = k then G else gs (i + 1 - 1)) (if i + 1 < k then cs (i + 1) else if i + 1 = k then c else cs (i + 1 - 1))
      rw [if_neg (by omega), if_neg (by omega), if_neg (by omega), if_neg (by omega)]
      exact ⟨⟨(e 0 (by omega)).trans a0, (e 1 (by omega)).trans a1, (e 2 (by omega)).trans a2, (e 3 (by omega)).trans a3⟩, (e 4 (by omega)).trans a4, a5, Nat.lt_of_lt_of_le a6 (by omega), a7⟩
  · have lt : ∀ i, i < n → gs i ≠ G := fun i hi => by have := (hx i hi).2.2.2.1; omega
    show (if i < k then gs i else if i = k then G else gs (i - 1)) ≠ (if j < k then gs j else if j = k then G else gs (j - 1))
    rcases Nat.lt_trichotomy i k with q | q | q <;> rcases Nat.lt_trichotomy j k with r | r | r
    · rw [if_pos q, if_pos r]; exact hap i j hij (by omega)
    · rw [if_pos q, if_neg (by omega), if_pos r]; exact lt i (by omega)
    · rw [if_pos q, if_neg (by omega), if_neg (by omega)]; exact hap i (j - 1) (by omega) (by omega)
    · omega
    · omega
    · rw [if_neg (by omega), if_pos q, if_neg (by omega), if_neg (by omega)]; exact (lt (j - 1) (by omega)).symm
    · omega
    · omega
    · rw [if_neg (by omega), if_neg (by omega), if_neg (by omega), if_neg (by omega)]; exact hap (i - 1) (j - 1) (by omega) (by omega)
theorem new_ofB {B : Nat} {w W : World} {t : TypeId} {cs : Array Value} (_ : Below B w (W.alloc (.cells cs t))) : Blk (W.alloc (.cells cs t)) W.heap.size t cs := Blk.new W t cs
theorem own_slice {w : World} {base e size n : Nat} {v : Value} {xs : List Value} (h : w.ownsRow base e size v n xs) : ∃ A c, v = .slice A n c := by
  rcases h.2 with ⟨q, h0⟩ | ⟨g, cap, cur, q, -⟩
  · exact ⟨none, 0, by rw [q, h0]⟩
  · exact ⟨_, _, q⟩
/-- the program's copy of a list -/
def CopyOf (base : Nat) (v : Value) (n : Nat) (xs : List Value) (f : Nat → BellV) (W : World) : Prop := W.ownsRow base 28 5 v n xs ∧ BellsX W base W.heap.size xs n f ∧ base ≤ W.heap.size
theorem BellsX.raise {w : World} {base top top' k : Nat} {xs : List Value} {f : Nat → BellV} (h : BellsX w base top xs k f) (ht : top ≤ top') : BellsX w base top' xs k f := by
  obtain ⟨hl, gs, cs, hx, hap⟩ := h
  exact ⟨hl, gs, cs, fun i hi => by
    obtain ⟨a, a4, a5, a6, a7⟩ := hx i hi
    exact ⟨a, a4, a5, by omega, a7⟩, hap⟩
theorem BellsX.base {w : World} {base base' top k : Nat} {xs : List Value} {f : Nat → BellV} (h : BellsX w base top xs k f) (ht : base' ≤ base) : BellsX w base' top xs k f := by
  obtain ⟨hl, gs, cs, hx, hap⟩ := h
  exact ⟨hl, gs, cs, fun i hi => by
    obtain ⟨a, a4, a5, a6, a7⟩ := hx i hi
    exact ⟨a, a4, by omega, a6, a7⟩, hap⟩
theorem own_base {w : World} {base base' e size n : Nat} {v : Value} {xs : List Value} (h : w.ownsRow base e size v n xs) (ht : base' ≤ base) : w.ownsRow base' e size v n xs := by
  rcases h.2 with ⟨q, h0⟩ | ⟨g, cap, cur, q, q1, q2⟩
  · exact ⟨h.1, .inl ⟨q, h0⟩⟩
  · exact ⟨h.1, .inr ⟨g, cap, cur, q, by omega, q2⟩⟩
theorem CopyOf.keep {base : Nat} {v : Value} {n : Nat} {xs : List Value} {f : Nat → BellV} {W W' : World} (h : CopyOf base v n xs f W) (hb : Below W.heap.size W W') : CopyOf base v n xs f W' := ⟨own_keep h.1 hb, (h.2.1.keep hb).raise hb.size, Nat.le_trans h.2.2 hb.size⟩
theorem copyAll_calls (base : Nat) (A : Option Addr) (n c : Nat) (f : Nat → BellV) (w : World) (h : BellRow w A n f) (hf : ∀ i, i < n → 0 < (f i).n ∧ (f i).n ≤ 1048576) (hn : n ≤ 1048576) (hbw : base ≤ w.heap.size) :
    Calls Tryz.prog 26 #[.slice A n c] w fun e w' => ∃ A1 c1 xs, e = .returned (.slice A1 n c1) ∧ CopyOf base (.slice A1 n c1) n xs f w' ∧ Below w.heap.size w w' := by
  refine (copyBells_calls A n c f w h hf hn).mono ?_
  rintro e w' ⟨v, xs, rfl, ho, hx, hb⟩
  obtain ⟨A1, c1, rfl⟩ := own_slice ho
  exact ⟨A1, c1, xs, rfl, ⟨own_base ho hbw, hx.base hbw, Nat.le_trans hbw hb.size⟩, hb⟩
/-- the copy of one bell, behind the copy of a list -/
theorem copyOne_calls (base : Nat) (v : Value) (n : Nat) (xs : List Value) (f : Nat → BellV) (vb : Nat) (x : BellV) (C : Option Addr) (e2 : Nat) (w : World) (h0 : 0 < x.n) (hx : x.n ≤ 1048576) (hC : CopyOf base v n xs f w) (hB : Blk w vb 28 #[.string x.id, .int .i64 x.no, .int .i64 x.ma, .int .i64 x.fe, .slice C x.n e2]) (hsh : ShareRow w C x.n x.ss x.ms) :
    Calls Tryz.prog 26 #[.slice (some ⟨vb, 0, none⟩) 1 1] w fun e w' => ∃ g2 c2 G c3, e = .returned (.slice (some ⟨g2, 0, none⟩) 1 c2) ∧ (w'.cell? ⟨g2, 0, none⟩ = some (.string x.id) ∧ w'.cell? ⟨g2, 1, none⟩ = some (.int .i64 x.no) ∧ w'.cell? ⟨g2, 2, none⟩ = some (.int .i64 x.ma) ∧ w'.cell? ⟨g2, 3, none⟩ = some (.int .i64 x.fe) ∧ w'.cell? ⟨g2, 4, none⟩ = some (.slice (some ⟨G, 0, none⟩) x.n c3)) ∧ (∃ top, w'.ownsRow base 28 5 v n xs ∧ (∀ z, v.ownBlock = some z → z < top) ∧ BellsX w' base top xs n f ∧ base ≤ top ∧ top ≤ G ∧ G < w'.heap.size ∧ ShareOwnC w' x.n x.ss x.ms G c3) ∧ Below w.heap.size w w' := by
  refine (copyBells_calls (some ⟨vb, 0, none⟩) 1 1 (fun _ => x) w (fun _ => ⟨vb, 0, rfl, fun i hi => by rw [show 0 + i * 5 = 0 by omega]; exact bellAt_blk hB hsh⟩) (fun _ _ => ⟨h0, hx⟩) (by omega)).mono ?_
  rintro e w' ⟨v2, xs2, rfl, ho, hX, hb⟩
  obtain ⟨g, cap, cur, hv, hg, hbk, hc, hm, hs, hxx⟩ := own_blk ho (by omega)
  obtain ⟨hl2, gs, cs, hx2, -⟩ := hX
  obtain ⟨⟨a0, a1, a2, a3⟩, a4, a5, a6, a7⟩ := hx2 0 (by omega)
  have e : ∀ r u, r < 5 → xs2[0 * 5 + r]? = some u → w'.cell? ⟨g, r, none⟩ = some u := fun r u hr hu => by
    rw [hbk.cell, hxx _ (by omega), ← hu]
    congr 1
    omega
  exact ⟨g, cap, gs 0, cs 0, by rw [hv], ⟨e 0 _ (by omega) a0, e 1 _ (by omega) a1, e 2 _ (by omega) a2, e 3 _ (by omega) a3, e 4 _ (by omega) a4⟩, ⟨w.heap.size, own_keep hC.1 hb, fun z hz => (hC.1.lt z hz).2, hC.2.1.keep hb, hC.2.2, a5, a6, a7⟩, hb⟩
set_option maxHeartbeats 1000000 in
theorem addBell1_calls (s : ByteArray) (no ma fe : Int) (A : Option Addr) (n c : Nat) (x : ByteArray) (w : World) :
    Calls Tryz.prog 17 #[.agg #[.string s, .int .i64 no, .int .i64 ma, .int .i64 fe, .slice A n c], .string x] w fun e w' => e = .returned (.int .i64 (cmpS s x)) ∧ Below w.heap.size w w' := by
  have hal := (Below.refl w.heap.size w).alloc (Nat.le_refl _) (.cells #[.string s, .int .i64 no, .int .i64 ma, .int .i64 fe, .slice A n c] 28)
  have HAL := Lib.hid hal
  clear hal
  go_enter Tryz.func17, Tryz.ntmps17
  go_wp2_with (go_at_call 18; refine (compareS_calls _ _ _).mono ?_; rintro e w1 ⟨rfl, rfl⟩)
  go_ret
  exact ⟨rfl, HAL.out⟩
set_option maxRecDepth 20000 in
set_option maxHeartbeats 4000000 in
theorem bellSearch (A : Option Addr) (n c : Nat) (f : Nat → BellV) (x : ByteArray) (w : World) (h : BellRow w A n f) (hn : n ≤ 1048576) (hp : ∀ k W AK CK, k < n → Below w.heap.size w W → Calls Tryz.prog 17 #[.agg #[.string (f k).id, .int .i64 (f k).no, .int .i64 (f k).ma, .int .i64 (f k).fe, .slice AK (f k).n CK], .string x] W fun e w' => e = .returned (.int .i64 (cmpS ((fun q => (f q).id) k) x)) ∧ Below W.heap.size W w') :
    Calls Tryz.prog 16 #[.slice A n c, .string x, .func (.func 17) #[] #[]] w fun e w' => (∃ k : Nat, e = .returned (.tuple #[.int .i64 k, .bool (decide (k < n) && eqS ((fun q => (f q).id) k) x)]) ∧ k ≤ n ∧ Half (fun q => (f q).id) n x k k) ∧ Below w.heap.size w w' := by
  have H := Lib.hid h
  have HP := Lib.hid hp
  clear h hp
  go_enter Tryz.func16, Tryz.ntmps16
  go_wp2
  go_loopw [9, 10] (fun a b wr => ∃ i j : Nat, i ≤ j ∧ j ≤ n ∧ a = .int .i64 i ∧ b = .int .i64 j ∧ Hid (Half (fun q => (f q).id) n x i j) ∧ Below w.heap.size w wr) (fun a b _ => (intOf b - intOf a).toNat)
  case atStart => exact ⟨0, n, by omega, by omega, rfl, rfl, Lib.hid (Half.start _ _ _), Below.refl _ _⟩
  case round =>
    obtain ⟨i, j, hij, hjn, rfl, rfl, hh, hbr⟩ := hrel
    by_cases hlt : i < j
    · obtain ⟨k, hk⟩ : ∃ k, k = (i + j) / 2 := ⟨_, rfl⟩
      have hki : i ≤ k := by omega
      have hkj : k < j := by omega
      have hkn : k < n := by omega
      have u1 : IntKind.u64.wrap ((i : Int) + j) = (i : Int) + j := by
        unfold IntKind.wrap; simp [IntKind.bits, IntKind.signed]; omega
      have u2 : ((i : Int) + j) / 2 = (k : Int) := by omega
      have u3 : ((i : Int) + j) >>> 1 = (k : Int) := by rw [Int.shiftRight_eq_div_pow]; omega
      have u4 : IntKind.i64.wrap (k : Int) = (k : Int) := IntWalk.i64_in _ ⟨by omega, by omega⟩
      have u5 : IntKind.u64.wrap (k : Int) = (k : Int) := by
        unfold IntKind.wrap; simp [IntKind.bits, IntKind.signed]; omega
      clear hk
      obtain ⟨b, o, rfl, hrow⟩ := H.out (by omega)
      obtain ⟨AK, CK, c0, c1, c2, c3, c4, -⟩ := (hrow k hkn).keep hbr
      have HR := Lib.hid hrow
      clear hrow
      have HC := Lib.hid (HP.out k wr AK CK hkn hbr)
      have hcn := cmpS_neg ((fun q => (f q).id) k) x
      generalize hcv : cmpS ((fun q => (f q).id) k) x = cv at HC hcn
      cases q1 : ltS ((fun q => (f q).id) k) x
      · rw [q1] at hcn
        have hcn2 : ¬ cv < 0 := by simpa using hcn
        go_wp2_with (go_at_call 17; with_reducible refine HC.out.mono ?_; rintro e w1 ⟨rfl, hb⟩; have hbr2 := hbr.trans (hb.mono hbr.size); clear hb)
        go_roundw
        case rel => exact ⟨i, k, by omega, by omega, rfl, rfl, Lib.hid (hh.out.down q1), hbr2⟩
        case measure => simp [intOf]; omega
      · rw [q1] at hcn
        have hcn2 : cv < 0 := by simpa using hcn
        go_wp2_with (go_at_call 17; with_reducible refine HC.out.mono ?_; rintro e w1 ⟨rfl, hb⟩; have hbr2 := hbr.trans (hb.mono hbr.size); clear hb)
        go_roundw
        case rel => exact ⟨k + 1, j, by omega, by omega, by go_num, rfl, Lib.hid (hh.out.up hki hkn q1), hbr2⟩
        case measure => simp [intOf]; omega
    · obtain rfl : i = j := by omega
      by_cases hin : i < n
      · obtain ⟨b, o, rfl, hrow⟩ := H.out (by omega)
        have k := i
        obtain ⟨AK, CK, c0, c1, c2, c3, c4, -⟩ := (hrow i hin).keep hbr
        have HR := Lib.hid hrow
        clear hrow
        have HC := Lib.hid (HP.out i wr AK CK hin hbr)
        have hcz := cmpS_zero ((fun q => (f q).id) i) x
        generalize hcv : cmpS ((fun q => (f q).id) i) x = cv at HC hcz
        have hd : decide (i < n) = true := decide_eq_true hin
        go_wp2_with (go_at_call 17; with_reducible refine HC.out.mono ?_; rintro e w1 ⟨rfl, hb⟩; have hbr2 := hbr.trans (hb.mono hbr.size); clear hb)
        refine bodyPost_ret (v := .tuple #[.int .i64 i, .bool (eqS ((fun q => (f q).id) i) x)]) (by simp [results, Tryz.results16, go_sem]) rfl ?_
        exact ⟨⟨i, by rw [hd, Bool.true_and], by omega, hh.out⟩, hbr2⟩
      · have hd : decide (i < n) = false := decide_eq_false hin
        have hd2 : decide ((i : Int) < n) = false := decide_eq_false (by omega)
        go_wp2
        refine bodyPost_ret (v := .tuple #[.int .i64 i, .bool false]) (by simp [results, Tryz.results16, go_sem]) rfl ?_
        exact ⟨⟨i, by simp [hd], by omega, hh.out⟩, hbr⟩
end Go.Proofs.YticnpibkpfpojaaGreatDoor

/- A bell added to a list, in the program. -/
namespace Go.Proofs.YticnpibkpfpojaaGreatDoor
set_option linter.unusedVariables false
set_option linter.unusedSimpArgs false
open Go.RowKit

theorem new_heldA {B : Nat} {a W : World} {cs : Array Value} {t : TypeId} {R : Prop} (h : Below B a (W.alloc (.cells cs t)) ∧ R) : Blk (W.alloc (.cells cs t)) W.heap.size t cs := Blk.new W t cs
theorem new_heldAD {B : Nat} {a W : World} {cs : Array Value} {t : TypeId} {R : Prop} (h : Below B a (W.alloc (.cells cs t)).drew ∧ R) : Blk (W.alloc (.cells cs t)).drew W.heap.size t cs := (Blk.new W t cs).drew
theorem ab_heldA {B : Nat} {a W : World} {o : Obj} {R : Prop} (h : Below B a (W.alloc o) ∧ R) : Below W.heap.size W (W.alloc o) := (Below.refl _ _).alloc (Nat.le_refl _) _
theorem ab_heldAD {B : Nat} {a W : World} {o : Obj} {R : Prop} (h : Below B a (W.alloc o).drew ∧ R) : Below W.heap.size W (W.alloc o).drew := ((Below.refl _ _).alloc (Nat.le_refl _) _).drew
/-- what the copy of the one bell leaves behind the copy of the list -/
def OneOut (base : Nat) (v : Value) (n : Nat) (xs : List Value) (f : Nat → BellV) (x : BellV) (G c3 : Nat) (w' : World) : Prop := ∃ top, w'.ownsRow base 28 5 v n xs ∧ (∀ z, v.ownBlock = some z → z < top) ∧ BellsX w' base top xs n f ∧ base ≤ top ∧ top ≤ G ∧ G < w'.heap.size ∧ ShareOwnC w' x.n x.ss x.ms G c3
theorem OneOut.keep {base : Nat} {v : Value} {n : Nat} {xs : List Value} {f : Nat → BellV} {x : BellV} {G c3 : Nat} {w w' : World} (h : OneOut base v n xs f x G c3 w) (hb : Below w.heap.size w w') : OneOut base v n xs f x G c3 w' := by
  obtain ⟨top, h1, h0, h2, h3, h4, h5, h6⟩ := h
  exact ⟨top, own_keep h1 hb, h0, h2.keep hb, h3, h4, Nat.lt_of_lt_of_le h5 hb.size, h6.keep hb⟩
theorem one_lt {base : Nat} {v : Value} {n : Nat} {xs : List Value} {f : Nat → BellV} {x : BellV} {G c3 : Nat} {w : World} (h : OneOut base v n xs f x G c3 w) : G < w.heap.size := by
  obtain ⟨top, -, -, -, -, -, h5, -⟩ := h
  exact h5
theorem BellsX.one {w : World} {base top n : Nat} {xs : List Value} {f : Nat → BellV} (h : BellsX w base top xs n f) : ∀ u ∈ xs, u.oneCell' = true := fun u hu => by
  obtain ⟨hl, gs, cs, hx, -⟩ := h
  obtain ⟨j, hj, rfl⟩ := List.getElem_of_mem hu
  obtain ⟨⟨a0, a1, a2, a3⟩, a4, -⟩ := hx (j / 5) (by omega)
  have e : ∀ v, xs[j]? = some v → v.oneCell' = true → xs[j].oneCell' = true := fun v hv h1 => by
    rw [List.getElem?_eq_getElem hj] at hv
    rw [Option.some.inj hv]; exact h1
  rcases (show j = j / 5 * 5 ∨ j = j / 5 * 5 + 1 ∨ j = j / 5 * 5 + 2 ∨ j = j / 5 * 5 + 3 ∨ j = j / 5 * 5 + 4 by omega) with q | q | q | q | q
  · exact e _ (by rw [q]; exact a0) rfl
  · exact e _ (by rw [q]; exact a1) rfl
  · exact e _ (by rw [q]; exact a2) rfl
  · exact e _ (by rw [q]; exact a3) rfl
  · exact e _ (by rw [q]; exact a4) rfl
theorem ins_last {base n : Nat} {A1 : Option Addr} {c1 k : Nat} {xs : List Value} {f : Nat → BellV} {x : BellV} {G c3 vb : Nat} {W : World} (h : OneOut base (.slice A1 n c1) n xs f x G c3 W) (hGv : G < vb) (hv : Blk W vb 28 (bellC x (.slice (some ⟨G, 0, none⟩) x.n c3)).toArray) (hk : k ≤ n) (hn : n ≤ 1048576) (hb : base ≤ W.heap.size) :
    Calls Tryz.prog 25 #[.slice A1 n c1, .int .i64 k, .slice (some ⟨vb, 0, none⟩) 1 1] W fun e w' => ∃ A9 c9 G9, e = .returned (.slice A9 (n + 1) c9) ∧ (BellOwn w' A9 (n + 1) (insF f k x) G9 base ∧ base ≤ G9) ∧ Below base W w' := by
  obtain ⟨top, ho, hz, hX, h3, h4, h5, h6⟩ := h
  refine (insBell_calls base n k A1 c1 xs W ho hk hn vb _ hv (fun e => by have := hz vb e.symm; omega) (bellC x (.slice (some ⟨G, 0, none⟩) x.n c3)) rfl (World.news_of_block hv) (fun u hu => by simp [bellC] at hu; rcases hu with rfl | rfl | rfl | rfl | rfl <;> rfl) hX.one hb).mono ?_
  rintro e w' ⟨v', rfl, hown, hgrow⟩
  have hX2 := (hX.insert (c := c3) h4 h5 h3 h6 hk).grow ho hgrow
  obtain ⟨A9, c9, G9, rfl, hB, hG⟩ := bellOwn_of hown hX2 hgrow.size
  exact ⟨A9, c9, G9, rfl, ⟨hB, hG⟩, (Below.refl base W).grown hgrow hb (fun z hz => (ho.lt z hz).1)⟩
set_option maxRecDepth 20000 in
set_option maxHeartbeats 8000000 in
theorem iAddBell_calls (B : Option Addr) (m d : Nat) (g : Nat → MeltV) (A : Option Addr) (n c : Nat) (f : Nat → BellV) (x : BellV) (C : Option Addr) (e2 : Nat) (w : World) (h2 : MeltRow w B m g) (hm : m ≤ 1048576) (hd : m ≤ d) (hg : ∀ i, i < m → FineM (g i)) (h : BellRow w A n f) (hn : n ≤ 1048576) (hnc : n ≤ c) (hf : ∀ i, i < n → Fine (f i)) (h3 : ShareRow w C x.n x.ss x.ms) (hx : Fine x) :
    Calls Tryz.prog 6 #[.slice B m d, .slice A n c, .agg #[.string x.id, .int .i64 x.no, .int .i64 x.ma, .int .i64 x.fe, .slice C x.n e2]] w (AddOut g m f n x w) := by
  have hal := (Below.refl w.heap.size w).alloc (Nat.le_refl _) (.cells #[.string x.id, .int .i64 x.no, .int .i64 x.ma, .int .i64 x.fe, .slice C x.n e2] 28)
  have HX := Lib.hid (Blk.new w 28 #[.string x.id, .int .i64 x.no, .int .i64 x.ma, .int .i64 x.fe, .slice C x.n e2])
  have HBX := Lib.hid hal
  have hWs : (w.alloc (.cells #[.string x.id, .int .i64 x.no, .int .i64 x.ma, .int .i64 x.fe, .slice C x.n e2] 28)).heap.size = w.heap.size + 1 := by simp
  have H := Lib.hid (h.keep hal)
  have HM := Lib.hid (h2.keep hal)
  have HSH := Lib.hid (ShareRow.keep h3 hal)
  have HF := Lib.hid hf
  have HG := Lib.hid hg
  have HFX := Lib.hid hx
  have hn2 : n ≤ maxLen := by unfold maxLen; omega
  have hxn : x.n ≤ 1048576 := hx.2.2
  obtain ⟨o1, q1⟩ : ∃ o, okMelts g m = o := ⟨_, rfl⟩
  obtain ⟨o2, q2⟩ : ∃ o, okBells f n = o := ⟨_, rfl⟩
  obtain ⟨o3, q3⟩ : ∃ o, bellV x = o := ⟨_, rfl⟩
  clear h h2 h3 hf hx hal hg
  go_enter Tryz.func6, Tryz.ntmps6
  go_wp2_with fail
  go_at_call 16
  generalize w.alloc (.cells #[.string x.id, .int .i64 x.no, .int .i64 x.ma, .int .i64 x.fe, .slice C x.n e2] 28) = W0 at *
  have HV1 := Lib.hid (show ∀ W, Below W0.heap.size W0 W → Calls Tryz.prog 20 #[.slice B m d] W (fun e w' => e = .returned (.bool o1) ∧ Below W.heap.size W w') from fun W hW => by
    have q := ValidMelts_calls B m d g W (HM.out.keep hW) HG.out hm hd
    rwa [show okMelts g m = o1 from q1] at q)
  have HV2 := Lib.hid (show ∀ W, Below W0.heap.size W0 W → Calls Tryz.prog 21 #[.slice A n c] W (fun e w' => e = .returned (.bool o2) ∧ Below W.heap.size W w') from fun W hW => by
    have q := ValidBells_calls A n c f W (H.out.keep hW) HF.out hn2
    rwa [show (bellsOk f n && decide ((n : Int) ≤ 24)) = o2 from q2] at q)
  have HV3 := Lib.hid (show ∀ W, Below W0.heap.size W0 W → Calls Tryz.prog 22 #[.agg #[.string x.id, .int .i64 x.no, .int .i64 x.ma, .int .i64 x.fe, .slice C x.n e2]] W (fun e w' => e = .returned (.bool o3) ∧ Below W.heap.size W w') from fun W hW => by
    have q := ValidBell_calls x.id x.no x.ma x.fe C x.n e2 x.ss x.ms W HFX.out.1 (ShareRow.keep HSH.out hW) HFX.out.2.1 hxn
    rwa [show bellB x.id x.no x.ma x.fe x.n x.ss x.ms = o3 from q3] at q)
  have Q1 := Lib.hid q1
  have Q2 := Lib.hid q2
  have Q3 := Lib.hid q3
  clear q1 q2 q3
  refine (bellSearch A n c f x.id W0 H.out hn (fun k W AK CK hk hb => addBell1_calls _ _ _ _ _ _ _ _ _)).mono ?_
  rintro e w1 ⟨⟨k, rfl, hkn, hhalf⟩, hb⟩
  have HH := Lib.hid hhalf
  have KK := Lib.hid hb
  obtain ⟨FD, hFD⟩ : ∃ FD, FD = (decide (k < n) && eqS (f k).id x.id) := ⟨_, rfl⟩
  rw [← hFD]
  have HFD := Lib.hid hFD
  clear hFD hhalf hb
  have x0 := ((HX.out.keep KK.out).cell 0).trans rfl; have x1 := ((HX.out.keep KK.out).cell 1).trans rfl; have x2 := ((HX.out.keep KK.out).cell 2).trans rfl; have x3 := ((HX.out.keep KK.out).cell 3).trans rfl; have x4 := ((HX.out.keep KK.out).cell 4).trans rfl
  go_wp2_with fail
  clear x0 x1 x2 x3 x4
  have hab : Below w1.heap.size w1 ((w1.alloc (.cells #[.string x.id, .int .i64 x.no, .int .i64 x.ma, .int .i64 x.fe, .slice C x.n e2] 28)).alloc (.cells #[.slice A n c, .slice (some ⟨w1.heap.size, 0, none⟩) 1 1] 25)) := ((Below.refl w1.heap.size w1).alloc (Nat.le_refl _) _).alloc (by simp) _
  have HAB := Lib.hid (KK.out.trans (hab.mono KK.out.size))
  clear hab
  go_at_call 19
  refine (concBells_calls A n c f x C e2 (w1.heap.size + 1) w1.heap.size _ (H.out.keep HAB.out) hn hnc (Blk.new2 _ _ _ _) ((Blk.new _ _ _).alloc _) (ShareRow.keep HSH.out HAB.out)).mono ?_
  rintro e w2 ⟨A2, c2, rfl, hrow, hb⟩
  have HMR := Lib.hid hrow
  have K2 := Lib.hid (HAB.out.trans (hb.mono HAB.out.size))
  clear KK HAB hb hrow
  have KK := K2
  clear K2
  have x0 := ((HX.out.keep KK.out).cell 0).trans rfl; have x1 := ((HX.out.keep KK.out).cell 1).trans rfl; have x2 := ((HX.out.keep KK.out).cell 2).trans rfl; have x3 := ((HX.out.keep KK.out).cell 3).trans rfl; have x4 := ((HX.out.keep KK.out).cell 4).trans rfl
  cases o1
  · have hR : adC g m f n x = 1 := by simp [adC, Q1.out]
    go_wp2_with (go_at_call 20; with_reducible refine (HV1.out _ KK.out).mono ?_; rintro e wk ⟨rfl, hb⟩; have HMR2 := Lib.hid (HMR.out.keep hb); have K2 := Lib.hid (KK.out.trans (hb.mono KK.out.size)); clear KK hb x0 x1 x2 x3 x4 HMR; have KK := K2; have HMR := HMR2; clear K2 HMR2; have x0 := ((HX.out.keep KK.out).cell 0).trans rfl; have x1 := ((HX.out.keep KK.out).cell 1).trans rfl; have x2 := ((HX.out.keep KK.out).cell 2).trans rfl; have x3 := ((HX.out.keep KK.out).cell 3).trans rfl; have x4 := ((HX.out.keep KK.out).cell 4).trans rfl)
    refine bodyPost_ret (v := .tuple #[.slice none 0 0, .int .i64 1]) (by simp [results, Tryz.results6, go_sem]) rfl ?_
    exact .inl ⟨by rw [hR]; decide, by rw [hR], HBX.out.trans (KK.out.mono (by omega))⟩
  · cases o2
    · have hR : adC g m f n x = 1 := by simp [adC, Q2.out]
      go_wp2_with (first | (go_at_call 20; with_reducible refine (HV1.out _ KK.out).mono ?_; rintro e wk ⟨rfl, hb⟩; have HMR2 := Lib.hid (HMR.out.keep hb); have K2 := Lib.hid (KK.out.trans (hb.mono KK.out.size)); clear KK hb x0 x1 x2 x3 x4 HMR; have KK := K2; have HMR := HMR2; clear K2 HMR2; have x0 := ((HX.out.keep KK.out).cell 0).trans rfl; have x1 := ((HX.out.keep KK.out).cell 1).trans rfl; have x2 := ((HX.out.keep KK.out).cell 2).trans rfl; have x3 := ((HX.out.keep KK.out).cell 3).trans rfl; have x4 := ((HX.out.keep KK.out).cell 4).trans rfl) | (go_at_call 21; with_reducible refine (HV2.out _ KK.out).mono ?_; rintro e wk ⟨rfl, hb⟩; have HMR2 := Lib.hid (HMR.out.keep hb); have K2 := Lib.hid (KK.out.trans (hb.mono KK.out.size)); clear KK hb x0 x1 x2 x3 x4 HMR; have KK := K2; have HMR := HMR2; clear K2 HMR2; have x0 := ((HX.out.keep KK.out).cell 0).trans rfl; have x1 := ((HX.out.keep KK.out).cell 1).trans rfl; have x2 := ((HX.out.keep KK.out).cell 2).trans rfl; have x3 := ((HX.out.keep KK.out).cell 3).trans rfl; have x4 := ((HX.out.keep KK.out).cell 4).trans rfl))
      refine bodyPost_ret (v := .tuple #[.slice none 0 0, .int .i64 1]) (by simp [results, Tryz.results6, go_sem]) rfl ?_
      exact .inl ⟨by rw [hR]; decide, by rw [hR], HBX.out.trans (KK.out.mono (by omega))⟩
    · cases o3
      · have hR : adC g m f n x = 1 := by simp [adC, Q3.out]
        go_wp2_with (first | (go_at_call 20; with_reducible refine (HV1.out _ KK.out).mono ?_; rintro e wk ⟨rfl, hb⟩; have HMR2 := Lib.hid (HMR.out.keep hb); have K2 := Lib.hid (KK.out.trans (hb.mono KK.out.size)); clear KK hb x0 x1 x2 x3 x4 HMR; have KK := K2; have HMR := HMR2; clear K2 HMR2; have x0 := ((HX.out.keep KK.out).cell 0).trans rfl; have x1 := ((HX.out.keep KK.out).cell 1).trans rfl; have x2 := ((HX.out.keep KK.out).cell 2).trans rfl; have x3 := ((HX.out.keep KK.out).cell 3).trans rfl; have x4 := ((HX.out.keep KK.out).cell 4).trans rfl) | (go_at_call 21; with_reducible refine (HV2.out _ KK.out).mono ?_; rintro e wk ⟨rfl, hb⟩; have HMR2 := Lib.hid (HMR.out.keep hb); have K2 := Lib.hid (KK.out.trans (hb.mono KK.out.size)); clear KK hb x0 x1 x2 x3 x4 HMR; have KK := K2; have HMR := HMR2; clear K2 HMR2; have x0 := ((HX.out.keep KK.out).cell 0).trans rfl; have x1 := ((HX.out.keep KK.out).cell 1).trans rfl; have x2 := ((HX.out.keep KK.out).cell 2).trans rfl; have x3 := ((HX.out.keep KK.out).cell 3).trans rfl; have x4 := ((HX.out.keep KK.out).cell 4).trans rfl) | (go_at_call 22; with_reducible refine (HV3.out _ KK.out).mono ?_; rintro e wk ⟨rfl, hb⟩; have HMR2 := Lib.hid (HMR.out.keep hb); have K2 := Lib.hid (KK.out.trans (hb.mono KK.out.size)); clear KK hb x0 x1 x2 x3 x4 HMR; have KK := K2; have HMR := HMR2; clear K2 HMR2; have x0 := ((HX.out.keep KK.out).cell 0).trans rfl; have x1 := ((HX.out.keep KK.out).cell 1).trans rfl; have x2 := ((HX.out.keep KK.out).cell 2).trans rfl; have x3 := ((HX.out.keep KK.out).cell 3).trans rfl; have x4 := ((HX.out.keep KK.out).cell 4).trans rfl))
        refine bodyPost_ret (v := .tuple #[.slice none 0 0, .int .i64 1]) (by simp [results, Tryz.results6, go_sem]) rfl ?_
        exact .inl ⟨by rw [hR]; decide, by rw [hR], HBX.out.trans (KK.out.mono (by omega))⟩
      · have hn24 : n ≤ 24 := by
          have := Q2.out
          unfold okBells at this
          simp only [Bool.and_eq_true, decide_eq_true_eq] at this
          omega
        have hfew := few_ins Q2.out Q3.out (Nat.le_refl n)
        have hxp := bellV_pos Q3.out
        have hfn : ∀ i, i < n + 1 → (insF f n x i).n ≤ 1048576 := insF_all (C := fun y => y.n ≤ 1048576) (fun i hi => (HF.out i hi).2.2) hxn (Nat.le_refl n)
        obtain ⟨o4, q4⟩ : ∃ o, (allKnown (fun q => (g q).id) m f n && knownB (fun q => (g q).id) m x) = o := ⟨_, rfl⟩
        obtain ⟨o5, q5⟩ : ∃ o, suffB g m (insF f (posA f x n) x) (n + 1) = o := ⟨_, rfl⟩
        have hpn := (posA_spec f x n).1
        have HV4 := Lib.hid (show ∀ W, BellRow W A2 (n + 1) (insF f n x) → Below W0.heap.size W0 W → Calls Tryz.prog 23 #[.slice B m d, .slice A2 (n + 1) c2] W (fun e w' => e = .returned (.bool o4) ∧ Below W.heap.size W w') from fun W hr hW => by
          have q := haveMelts_calls B m d g A2 (n + 1) c2 (insF f n x) W (HM.out.keep hW) hm (okM_srt Q1.out) hr (by omega) hfn
          rwa [allKnown_ins, q4] at q)
        have HV5 := Lib.hid (show ∀ W, BellRow W A2 (n + 1) (insF f n x) → Below W0.heap.size W0 W → Calls Tryz.prog 24 #[.slice B m d, .slice A2 (n + 1) c2] W (fun e w' => e = .returned (.bool o5) ∧ Below W.heap.size W w') from fun W hr hW => by
          have q := suffice_calls B m d g A2 (n + 1) c2 (insF f n x) W (HM.out.keep hW) hm hr hfew (fun i hi => okM_ma Q1.out hi)
          rwa [suffB_ins (Nat.le_refl n) hpn, q5] at q)
        have HHAS : Hid (hasB f x n = FD) := Lib.hid ((HH.out.found (okB_srt Q2.out)).symm.trans HFD.out.symm)
        have hadc : Hid (adC g m f n x = if o4 = false then 3 else if o5 = false then 6 else if FD = true then 4 else if n = 24 then 5 else 0) := Lib.hid (by
          unfold adC
          rw [Q1.out, Q2.out, Q3.out, q4, q5, HHAS.out]
          rfl)
        clear q4 q5 hfew
        cases o4
        · have hR : adC g m f n x = 3 := by rw [hadc.out]; rfl
          go_wp2_with (first | (go_at_call 20; with_reducible refine (HV1.out _ KK.out).mono ?_; rintro e wk ⟨rfl, hb⟩; have HMR2 := Lib.hid (HMR.out.keep hb); have K2 := Lib.hid (KK.out.trans (hb.mono KK.out.size)); clear KK hb x0 x1 x2 x3 x4 HMR; have KK := K2; have HMR := HMR2; clear K2 HMR2; have x0 := ((HX.out.keep KK.out).cell 0).trans rfl; have x1 := ((HX.out.keep KK.out).cell 1).trans rfl; have x2 := ((HX.out.keep KK.out).cell 2).trans rfl; have x3 := ((HX.out.keep KK.out).cell 3).trans rfl; have x4 := ((HX.out.keep KK.out).cell 4).trans rfl) | (go_at_call 21; with_reducible refine (HV2.out _ KK.out).mono ?_; rintro e wk ⟨rfl, hb⟩; have HMR2 := Lib.hid (HMR.out.keep hb); have K2 := Lib.hid (KK.out.trans (hb.mono KK.out.size)); clear KK hb x0 x1 x2 x3 x4 HMR; have KK := K2; have HMR := HMR2; clear K2 HMR2; have x0 := ((HX.out.keep KK.out).cell 0).trans rfl; have x1 := ((HX.out.keep KK.out).cell 1).trans rfl; have x2 := ((HX.out.keep KK.out).cell 2).trans rfl; have x3 := ((HX.out.keep KK.out).cell 3).trans rfl; have x4 := ((HX.out.keep KK.out).cell 4).trans rfl) | (go_at_call 22; with_reducible refine (HV3.out _ KK.out).mono ?_; rintro e wk ⟨rfl, hb⟩; have HMR2 := Lib.hid (HMR.out.keep hb); have K2 := Lib.hid (KK.out.trans (hb.mono KK.out.size)); clear KK hb x0 x1 x2 x3 x4 HMR; have KK := K2; have HMR := HMR2; clear K2 HMR2; have x0 := ((HX.out.keep KK.out).cell 0).trans rfl; have x1 := ((HX.out.keep KK.out).cell 1).trans rfl; have x2 := ((HX.out.keep KK.out).cell 2).trans rfl; have x3 := ((HX.out.keep KK.out).cell 3).trans rfl; have x4 := ((HX.out.keep KK.out).cell 4).trans rfl) | (go_at_call 23; with_reducible refine (HV4.out _ HMR.out KK.out).mono ?_; rintro e wk ⟨rfl, hb⟩; have HMR2 := Lib.hid (HMR.out.keep hb); have K2 := Lib.hid (KK.out.trans (hb.mono KK.out.size)); clear KK hb x0 x1 x2 x3 x4 HMR; have KK := K2; have HMR := HMR2; clear K2 HMR2; have x0 := ((HX.out.keep KK.out).cell 0).trans rfl; have x1 := ((HX.out.keep KK.out).cell 1).trans rfl; have x2 := ((HX.out.keep KK.out).cell 2).trans rfl; have x3 := ((HX.out.keep KK.out).cell 3).trans rfl; have x4 := ((HX.out.keep KK.out).cell 4).trans rfl))
          refine bodyPost_ret (v := .tuple #[.slice none 0 0, .int .i64 3]) (by simp [results, Tryz.results6, go_sem]) rfl ?_
          exact .inl ⟨by rw [hR]; decide, by rw [hR], HBX.out.trans (KK.out.mono (by omega))⟩
        · cases o5
          · have hR : adC g m f n x = 6 := by rw [hadc.out]; rfl
            go_wp2_with (first | (go_at_call 20; with_reducible refine (HV1.out _ KK.out).mono ?_; rintro e wk ⟨rfl, hb⟩; have HMR2 := Lib.hid (HMR.out.keep hb); have K2 := Lib.hid (KK.out.trans (hb.mono KK.out.size)); clear KK hb x0 x1 x2 x3 x4 HMR; have KK := K2; have HMR := HMR2; clear K2 HMR2; have x0 := ((HX.out.keep KK.out).cell 0).trans rfl; have x1 := ((HX.out.keep KK.out).cell 1).trans rfl; have x2 := ((HX.out.keep KK.out).cell 2).trans rfl; have x3 := ((HX.out.keep KK.out).cell 3).trans rfl; have x4 := ((HX.out.keep KK.out).cell 4).trans rfl) | (go_at_call 21; with_reducible refine (HV2.out _ KK.out).mono ?_; rintro e wk ⟨rfl, hb⟩; have HMR2 := Lib.hid (HMR.out.keep hb); have K2 := Lib.hid (KK.out.trans (hb.mono KK.out.size)); clear KK hb x0 x1 x2 x3 x4 HMR; have KK := K2; have HMR := HMR2; clear K2 HMR2; have x0 := ((HX.out.keep KK.out).cell 0).trans rfl; have x1 := ((HX.out.keep KK.out).cell 1).trans rfl; have x2 := ((HX.out.keep KK.out).cell 2).trans rfl; have x3 := ((HX.out.keep KK.out).cell 3).trans rfl; have x4 := ((HX.out.keep KK.out).cell 4).trans rfl) | (go_at_call 22; with_reducible refine (HV3.out _ KK.out).mono ?_; rintro e wk ⟨rfl, hb⟩; have HMR2 := Lib.hid (HMR.out.keep hb); have K2 := Lib.hid (KK.out.trans (hb.mono KK.out.size)); clear KK hb x0 x1 x2 x3 x4 HMR; have KK := K2; have HMR := HMR2; clear K2 HMR2; have x0 := ((HX.out.keep KK.out).cell 0).trans rfl; have x1 := ((HX.out.keep KK.out).cell 1).trans rfl; have x2 := ((HX.out.keep KK.out).cell 2).trans rfl; have x3 := ((HX.out.keep KK.out).cell 3).trans rfl; have x4 := ((HX.out.keep KK.out).cell 4).trans rfl) | (go_at_call 23; with_reducible refine (HV4.out _ HMR.out KK.out).mono ?_; rintro e wk ⟨rfl, hb⟩; have HMR2 := Lib.hid (HMR.out.keep hb); have K2 := Lib.hid (KK.out.trans (hb.mono KK.out.size)); clear KK hb x0 x1 x2 x3 x4 HMR; have KK := K2; have HMR := HMR2; clear K2 HMR2; have x0 := ((HX.out.keep KK.out).cell 0).trans rfl; have x1 := ((HX.out.keep KK.out).cell 1).trans rfl; have x2 := ((HX.out.keep KK.out).cell 2).trans rfl; have x3 := ((HX.out.keep KK.out).cell 3).trans rfl; have x4 := ((HX.out.keep KK.out).cell 4).trans rfl) | (go_at_call 24; with_reducible refine (HV5.out _ HMR.out KK.out).mono ?_; rintro e wk ⟨rfl, hb⟩; have HMR2 := Lib.hid (HMR.out.keep hb); have K2 := Lib.hid (KK.out.trans (hb.mono KK.out.size)); clear KK hb x0 x1 x2 x3 x4 HMR; have KK := K2; have HMR := HMR2; clear K2 HMR2; have x0 := ((HX.out.keep KK.out).cell 0).trans rfl; have x1 := ((HX.out.keep KK.out).cell 1).trans rfl; have x2 := ((HX.out.keep KK.out).cell 2).trans rfl; have x3 := ((HX.out.keep KK.out).cell 3).trans rfl; have x4 := ((HX.out.keep KK.out).cell 4).trans rfl))
            refine bodyPost_ret (v := .tuple #[.slice none 0 0, .int .i64 6]) (by simp [results, Tryz.results6, go_sem]) rfl ?_
            exact .inl ⟨by rw [hR]; decide, by rw [hR], HBX.out.trans (KK.out.mono (by omega))⟩
          · cases FD
            · by_cases z : n = 24
              · have hR : adC g m f n x = 5 := by rw [hadc.out, if_neg (by decide), if_neg (by decide), if_neg (by decide), if_pos z]
                have z2 : (24 : Int) ≤ n := by omega
                clear z
                go_wp2_with (first | (go_at_call 20; with_reducible refine (HV1.out _ KK.out).mono ?_; rintro e wk ⟨rfl, hb⟩; have HMR2 := Lib.hid (HMR.out.keep hb); have K2 := Lib.hid (KK.out.trans (hb.mono KK.out.size)); clear KK hb x0 x1 x2 x3 x4 HMR; have KK := K2; have HMR := HMR2; clear K2 HMR2; have x0 := ((HX.out.keep KK.out).cell 0).trans rfl; have x1 := ((HX.out.keep KK.out).cell 1).trans rfl; have x2 := ((HX.out.keep KK.out).cell 2).trans rfl; have x3 := ((HX.out.keep KK.out).cell 3).trans rfl; have x4 := ((HX.out.keep KK.out).cell 4).trans rfl) | (go_at_call 21; with_reducible refine (HV2.out _ KK.out).mono ?_; rintro e wk ⟨rfl, hb⟩; have HMR2 := Lib.hid (HMR.out.keep hb); have K2 := Lib.hid (KK.out.trans (hb.mono KK.out.size)); clear KK hb x0 x1 x2 x3 x4 HMR; have KK := K2; have HMR := HMR2; clear K2 HMR2; have x0 := ((HX.out.keep KK.out).cell 0).trans rfl; have x1 := ((HX.out.keep KK.out).cell 1).trans rfl; have x2 := ((HX.out.keep KK.out).cell 2).trans rfl; have x3 := ((HX.out.keep KK.out).cell 3).trans rfl; have x4 := ((HX.out.keep KK.out).cell 4).trans rfl) | (go_at_call 22; with_reducible refine (HV3.out _ KK.out).mono ?_; rintro e wk ⟨rfl, hb⟩; have HMR2 := Lib.hid (HMR.out.keep hb); have K2 := Lib.hid (KK.out.trans (hb.mono KK.out.size)); clear KK hb x0 x1 x2 x3 x4 HMR; have KK := K2; have HMR := HMR2; clear K2 HMR2; have x0 := ((HX.out.keep KK.out).cell 0).trans rfl; have x1 := ((HX.out.keep KK.out).cell 1).trans rfl; have x2 := ((HX.out.keep KK.out).cell 2).trans rfl; have x3 := ((HX.out.keep KK.out).cell 3).trans rfl; have x4 := ((HX.out.keep KK.out).cell 4).trans rfl) | (go_at_call 23; with_reducible refine (HV4.out _ HMR.out KK.out).mono ?_; rintro e wk ⟨rfl, hb⟩; have HMR2 := Lib.hid (HMR.out.keep hb); have K2 := Lib.hid (KK.out.trans (hb.mono KK.out.size)); clear KK hb x0 x1 x2 x3 x4 HMR; have KK := K2; have HMR := HMR2; clear K2 HMR2; have x0 := ((HX.out.keep KK.out).cell 0).trans rfl; have x1 := ((HX.out.keep KK.out).cell 1).trans rfl; have x2 := ((HX.out.keep KK.out).cell 2).trans rfl; have x3 := ((HX.out.keep KK.out).cell 3).trans rfl; have x4 := ((HX.out.keep KK.out).cell 4).trans rfl) | (go_at_call 24; with_reducible refine (HV5.out _ HMR.out KK.out).mono ?_; rintro e wk ⟨rfl, hb⟩; have HMR2 := Lib.hid (HMR.out.keep hb); have K2 := Lib.hid (KK.out.trans (hb.mono KK.out.size)); clear KK hb x0 x1 x2 x3 x4 HMR; have KK := K2; have HMR := HMR2; clear K2 HMR2; have x0 := ((HX.out.keep KK.out).cell 0).trans rfl; have x1 := ((HX.out.keep KK.out).cell 1).trans rfl; have x2 := ((HX.out.keep KK.out).cell 2).trans rfl; have x3 := ((HX.out.keep KK.out).cell 3).trans rfl; have x4 := ((HX.out.keep KK.out).cell 4).trans rfl))
                refine bodyPost_ret (v := .tuple #[.slice none 0 0, .int .i64 5]) (by simp [results, Tryz.results6, go_sem]) rfl ?_
                exact .inl ⟨by rw [hR]; decide, by rw [hR], HBX.out.trans (KK.out.mono (by omega))⟩
              · have hR : adC g m f n x = 0 := by rw [hadc.out, if_neg (by decide), if_neg (by decide), if_neg (by decide), if_neg z]
                have z2 : ¬ (24 : Int) ≤ n := by omega
                have hposk : Hid (posA f x n = k) := Lib.hid (pos_half HH.out (okB_srt Q2.out) hkn (by rw [HHAS.out]))
                have HPN := Lib.hid (show ∀ i, i < n → 0 < (f i).n ∧ (f i).n ≤ 1048576 from fun i hi => ⟨bellV_pos (okB_V Q2.out hi), (HF.out i hi).2.2⟩)
                clear z
                go_wp2_with (first | (go_at_call 20; with_reducible refine (HV1.out _ KK.out).mono ?_; rintro e wk ⟨rfl, hb⟩; have HMR2 := Lib.hid (HMR.out.keep hb); have K2 := Lib.hid (KK.out.trans (hb.mono KK.out.size)); clear KK hb x0 x1 x2 x3 x4 HMR; have KK := K2; have HMR := HMR2; clear K2 HMR2; have x0 := ((HX.out.keep KK.out).cell 0).trans rfl; have x1 := ((HX.out.keep KK.out).cell 1).trans rfl; have x2 := ((HX.out.keep KK.out).cell 2).trans rfl; have x3 := ((HX.out.keep KK.out).cell 3).trans rfl; have x4 := ((HX.out.keep KK.out).cell 4).trans rfl) | (go_at_call 21; with_reducible refine (HV2.out _ KK.out).mono ?_; rintro e wk ⟨rfl, hb⟩; have HMR2 := Lib.hid (HMR.out.keep hb); have K2 := Lib.hid (KK.out.trans (hb.mono KK.out.size)); clear KK hb x0 x1 x2 x3 x4 HMR; have KK := K2; have HMR := HMR2; clear K2 HMR2; have x0 := ((HX.out.keep KK.out).cell 0).trans rfl; have x1 := ((HX.out.keep KK.out).cell 1).trans rfl; have x2 := ((HX.out.keep KK.out).cell 2).trans rfl; have x3 := ((HX.out.keep KK.out).cell 3).trans rfl; have x4 := ((HX.out.keep KK.out).cell 4).trans rfl) | (go_at_call 22; with_reducible refine (HV3.out _ KK.out).mono ?_; rintro e wk ⟨rfl, hb⟩; have HMR2 := Lib.hid (HMR.out.keep hb); have K2 := Lib.hid (KK.out.trans (hb.mono KK.out.size)); clear KK hb x0 x1 x2 x3 x4 HMR; have KK := K2; have HMR := HMR2; clear K2 HMR2; have x0 := ((HX.out.keep KK.out).cell 0).trans rfl; have x1 := ((HX.out.keep KK.out).cell 1).trans rfl; have x2 := ((HX.out.keep KK.out).cell 2).trans rfl; have x3 := ((HX.out.keep KK.out).cell 3).trans rfl; have x4 := ((HX.out.keep KK.out).cell 4).trans rfl) | (go_at_call 23; with_reducible refine (HV4.out _ HMR.out KK.out).mono ?_; rintro e wk ⟨rfl, hb⟩; have HMR2 := Lib.hid (HMR.out.keep hb); have K2 := Lib.hid (KK.out.trans (hb.mono KK.out.size)); clear KK hb x0 x1 x2 x3 x4 HMR; have KK := K2; have HMR := HMR2; clear K2 HMR2; have x0 := ((HX.out.keep KK.out).cell 0).trans rfl; have x1 := ((HX.out.keep KK.out).cell 1).trans rfl; have x2 := ((HX.out.keep KK.out).cell 2).trans rfl; have x3 := ((HX.out.keep KK.out).cell 3).trans rfl; have x4 := ((HX.out.keep KK.out).cell 4).trans rfl) | (go_at_call 24; with_reducible refine (HV5.out _ HMR.out KK.out).mono ?_; rintro e wk ⟨rfl, hb⟩; have HMR2 := Lib.hid (HMR.out.keep hb); have K2 := Lib.hid (KK.out.trans (hb.mono KK.out.size)); clear KK hb x0 x1 x2 x3 x4 HMR; have KK := K2; have HMR := HMR2; clear K2 HMR2; have x0 := ((HX.out.keep KK.out).cell 0).trans rfl; have x1 := ((HX.out.keep KK.out).cell 1).trans rfl; have x2 := ((HX.out.keep KK.out).cell 2).trans rfl; have x3 := ((HX.out.keep KK.out).cell 3).trans rfl; have x4 := ((HX.out.keep KK.out).cell 4).trans rfl))
                have HR := Lib.hid hR
                have H9 := Lib.hid (H.out.keep KK.out)
                have S9 := Lib.hid (ShareRow.keep HSH.out KK.out)
                have X9 := Lib.hid (HX.out.keep KK.out)
                clear x0 x1 x2 x3 x4 hR
                have E0 := Lib.hid ((X9.out.cell 0).trans rfl)
                have E1 := Lib.hid ((X9.out.cell 1).trans rfl)
                have E2 := Lib.hid ((X9.out.cell 2).trans rfl)
                have E3 := Lib.hid ((X9.out.cell 3).trans rfl)
                have E4 := Lib.hid ((X9.out.cell 4).trans rfl)
                clear z2 HMR HV4 HV5 HV1 HV2 HV3 X9
                refine wp_gen (fun W0 hW0 => ?_)
                have s0_ : Below wk.heap.size wk W0 := by rw [hW0]; exact Below.refl _ _
                have s1_ : W0.cell? ⟨w.heap.size, 0, none⟩ = some (.string x.id) := by rw [hW0]; exact E0.out
                have s2_ : W0.cell? ⟨w.heap.size, 1, none⟩ = some (.int .i64 x.no) := by rw [hW0]; exact E1.out
                have s3_ : W0.cell? ⟨w.heap.size, 2, none⟩ = some (.int .i64 x.ma) := by rw [hW0]; exact E2.out
                have s4_ : W0.cell? ⟨w.heap.size, 3, none⟩ = some (.int .i64 x.fe) := by rw [hW0]; exact E3.out
                have s5_ : W0.cell? ⟨w.heap.size, 4, none⟩ = some (.slice C x.n e2) := by rw [hW0]; exact E4.out
                skip
                clear hW0
                refine wp_region_held_drew (S := fun w' => Below wk.heap.size wk w' ∧ w'.cell? ⟨w.heap.size, 0, none⟩ = some (.string x.id) ∧ w'.cell? ⟨w.heap.size, 1, none⟩ = some (.int .i64 x.no) ∧ w'.cell? ⟨w.heap.size, 2, none⟩ = some (.int .i64 x.ma) ∧ w'.cell? ⟨w.heap.size, 3, none⟩ = some (.int .i64 x.fe) ∧ w'.cell? ⟨w.heap.size, 4, none⟩ = some (.slice C x.n e2)) (by kernel_rfl) ?_ (fun hHeld => ?_)
                · exact ⟨s0_.drew, s1_, s2_, s3_, s4_, s5_⟩
                clear s0_ s1_ s2_ s3_ s4_ s5_
                refine take_yes (i := 0) (d := 53) (v := ?_) _ rfl rfl (by kernel_rfl) (by kernel_rfl) (by kernel_rfl) (fun _ _ _ _ h => h) (by rfl) ?_ (by assumption) ?_
                rotate_left 1
                · ((intro w hSw; (try dsimp only at hSw); go_simp) <;> (try with_reducible rfl))
                (try simp only [Act.put, List.setIfInBounds_toArray, List.set_cons_zero, List.set_cons_succ])
                refine take_yes (i := 2) (d := 55) (v := ?_) _ rfl rfl (by kernel_rfl) (by kernel_rfl) (by kernel_rfl) (fun _ _ _ _ h => h) (by rfl) ?_ (by assumption) ?_
                rotate_left 1
                · ((intro w hSw; (try dsimp only at hSw); go_simp) <;> (try with_reducible rfl))
                (try simp only [Act.put, List.setIfInBounds_toArray, List.set_cons_zero, List.set_cons_succ])
                refine take_yes (i := 3) (d := 56) (v := ?_) _ rfl rfl (by kernel_rfl) (by kernel_rfl) (by kernel_rfl) (fun _ _ _ _ h => h) (by rfl) ?_ (by assumption) ?_
                rotate_left 1
                · ((intro w hSw; (try dsimp only at hSw); go_simp) <;> (try with_reducible rfl))
                (try simp only [Act.put, List.setIfInBounds_toArray, List.set_cons_zero, List.set_cons_succ])
                refine wpAnyH_ready (rs := [1, 4]) (by kernel_rfl) (by simp) ?_; refine AllReadyH.cons rfl (fun K hK => ?_) (AllReadyH.cons rfl (fun K hK => ?_) AllReadyH.nil)
                · go_simp; go_at_call 26; refine (copyAll_calls wk.heap.size A n c f _ (H9.out.keep (And.left hHeld)) HPN.out hn (And.left hHeld).size).mono ?_; rintro e wd ⟨A1, c1, xs, rfl, hC, hb⟩; refine hK.out _ _ (by obtain ⟨x0_, x1_, x2_, x3_, x4_, x5_⟩ := hHeld; exact ⟨x0_.trans (hb.mono x0_.size), cell_keep hb x1_, cell_keep hb x2_, cell_keep hb x3_, cell_keep hb x4_, cell_keep hb x5_⟩) (fun hHeld2 => ?_); (try replace hnb := Lib.hid (hnb.out.keep hb)); clear hK K hHeld hb; have hHeld := hHeld2; clear hHeld2; (try simp only [Act.put, List.setIfInBounds_toArray, List.set_cons_zero, List.set_cons_succ])
                  (refine wpAnyH_ready (rs := [4]) (by kernel_rfl) (by simp) ?_; refine AllReadyH.cons rfl (fun K hK => ?_) AllReadyH.nil; go_simp; refine hK.out _ _ (by obtain ⟨x0_, x1_, x2_, x3_, x4_, x5_⟩ := hHeld; exact ⟨x0_.trans (((Below.refl _ _).alloc (Nat.le_refl _) _).mono x0_.size), cell_keep ((Below.refl _ _).alloc (Nat.le_refl _) _) x1_, cell_keep ((Below.refl _ _).alloc (Nat.le_refl _) _) x2_, cell_keep ((Below.refl _ _).alloc (Nat.le_refl _) _) x3_, cell_keep ((Below.refl _ _).alloc (Nat.le_refl _) _) x4_, cell_keep ((Below.refl _ _).alloc (Nat.le_refl _) _) x5_⟩) (fun hHeld2 => ?_); clear hK K; have hOld := hHeld; clear hHeld; have hHeld := hHeld2; clear hHeld2; (first | have hnb := Lib.hid (new_heldA hHeld) | have hnb := Lib.hid (new_heldAD hHeld)); (first | have hab := ab_heldA hHeld | have hab := ab_heldAD hHeld); (try replace hC := hC.keep hab); (try have hGv := Lib.hid (one_lt hO.out)); (try replace hO := Lib.hid (hO.out.keep hab)); (try clear d0 d1 d2 d3 d4); clear hab; (try simp only [Act.put, List.setIfInBounds_toArray, List.set_cons_zero, List.set_cons_succ]))
                  (refine wpAnyH_ready (rs := [5]) (by kernel_rfl) (by simp) ?_; refine AllReadyH.cons rfl (fun K hK => ?_) AllReadyH.nil; go_simp; go_at_call 26; refine (copyOne_calls wk.heap.size _ n xs f _ x C e2 _ hxp hxn hC hnb.out (ShareRow.keep S9.out (And.left hHeld))).mono ?_; rintro e wd ⟨g2, c2, G, c3, rfl, ⟨d0, d1, d2, d3, d4⟩, hO1, hb⟩; have hO : Hid (OneOut wk.heap.size (.slice A1 n c1) n xs f x G c3 wd) := Lib.hid hO1; clear hO1; refine hK.out _ _ (by obtain ⟨x0_, x1_, x2_, x3_, x4_, x5_⟩ := hHeld; exact ⟨x0_.trans (hb.mono x0_.size), cell_keep hb x1_, cell_keep hb x2_, cell_keep hb x3_, cell_keep hb x4_, cell_keep hb x5_⟩) (fun hHeld2 => ?_); (try replace hnb := Lib.hid (hnb.out.keep hb)); clear hK K hHeld hb; have hHeld := hHeld2; clear hHeld2; (try simp only [Act.put, List.setIfInBounds_toArray, List.set_cons_zero, List.set_cons_succ]))
                  refine take_yes (i := 6) (d := 59) (v := ?_) _ rfl rfl (by kernel_rfl) (by kernel_rfl) (by kernel_rfl) (fun _ _ _ _ h => h) (by rfl) ?_ (by assumption) ?_
                  rotate_left 1
                  · ((intro w hSw; (try dsimp only at hSw); go_simp) <;> (try with_reducible rfl))
                  (try simp only [Act.put, List.setIfInBounds_toArray, List.set_cons_zero, List.set_cons_succ])
                  (refine wpAnyH_ready (rs := [7]) (by kernel_rfl) (by simp) ?_; refine AllReadyH.cons rfl (fun K hK => ?_) AllReadyH.nil; go_simp; refine hK.out _ _ (by assumption) (fun hHeld2 => ?_); clear hK K hHeld; have hHeld := hHeld2; clear hHeld2; (try simp only [Act.put, List.setIfInBounds_toArray, List.set_cons_zero, List.set_cons_succ]))
                  (refine wpAnyH_ready (rs := [8]) (by kernel_rfl) (by simp) ?_; refine AllReadyH.cons rfl (fun K hK => ?_) AllReadyH.nil; go_simp; refine hK.out _ _ (by obtain ⟨x0_, x1_, x2_, x3_, x4_, x5_⟩ := hHeld; exact ⟨x0_.trans (((Below.refl _ _).alloc (Nat.le_refl _) _).mono x0_.size), cell_keep ((Below.refl _ _).alloc (Nat.le_refl _) _) x1_, cell_keep ((Below.refl _ _).alloc (Nat.le_refl _) _) x2_, cell_keep ((Below.refl _ _).alloc (Nat.le_refl _) _) x3_, cell_keep ((Below.refl _ _).alloc (Nat.le_refl _) _) x4_, cell_keep ((Below.refl _ _).alloc (Nat.le_refl _) _) x5_⟩) (fun hHeld2 => ?_); clear hK K; have hOld := hHeld; clear hHeld; have hHeld := hHeld2; clear hHeld2; (first | have hnb := Lib.hid (new_heldA hHeld) | have hnb := Lib.hid (new_heldAD hHeld)); (first | have hab := ab_heldA hHeld | have hab := ab_heldAD hHeld); (try replace hC := hC.keep hab); (try have hGv := Lib.hid (one_lt hO.out)); (try replace hO := Lib.hid (hO.out.keep hab)); (try clear d0 d1 d2 d3 d4); clear hab; (try simp only [Act.put, List.setIfInBounds_toArray, List.set_cons_zero, List.set_cons_succ]))
                  (refine wpAnyH_ready (rs := [9]) (by kernel_rfl) (by simp) ?_; refine AllReadyH.cons rfl (fun K hK => ?_) AllReadyH.nil; go_simp; go_at_call 25; refine (ins_last hO.out hGv.out hnb.out hkn hn (And.left hHeld).size).mono ?_; rintro e wd ⟨A9, c9, G9, rfl, ⟨hI1, hG91⟩, hb⟩; have hI := Lib.hid hI1; have hG9 : w.heap.size ≤ G9 := Nat.le_trans (Nat.le_trans HBX.out.size KK.out.size) hG91; clear hI1; refine hK.out _ _ (by obtain ⟨x0_, x1_, x2_, x3_, x4_, x5_⟩ := hHeld; exact ⟨x0_.trans hb, cell_keep (x0_.trans hb) E0.out, cell_keep (x0_.trans hb) E1.out, cell_keep (x0_.trans hb) E2.out, cell_keep (x0_.trans hb) E3.out, cell_keep (x0_.trans hb) E4.out⟩) (fun hHeld2 => ?_); (try replace hnb := Lib.hid (hnb.out.keep hb)); clear hK K hHeld hb; have hHeld := hHeld2; clear hHeld2; (try simp only [Act.put, List.setIfInBounds_toArray, List.set_cons_zero, List.set_cons_succ]))
                  refine take_yes (i := 10) (d := 6) (v := ?_) _ rfl rfl (by kernel_rfl) (by kernel_rfl) (by kernel_rfl) (fun _ _ _ _ h => h) (by rfl) ?_ (by assumption) ?_
                  rotate_left 1
                  · ((intro w hSw; (try dsimp only at hSw); go_simp) <;> (try with_reducible rfl))
                  (try simp only [Act.put, List.setIfInBounds_toArray, List.set_cons_zero, List.set_cons_succ])
                  refine take_yes (i := 11) (d := 7) (v := ?_) _ rfl rfl (by kernel_rfl) (by kernel_rfl) (by kernel_rfl) (fun _ _ _ _ h => h) (by rfl) ?_ (by assumption) ?_
                  rotate_left 1
                  · ((intro w hSw; (try dsimp only at hSw); go_simp) <;> (try with_reducible rfl))
                  (try simp only [Act.put, List.setIfInBounds_toArray, List.set_cons_zero, List.set_cons_succ])
                  refine wpAnyH_done (by kernel_rfl) ?_ _
                  obtain ⟨z0, z1, z2, z3, z4, z5⟩ := hHeld
                  have HE := Lib.hid z0
                  clear z0 z1 z2 z3 z4 z5
                  go_wp2_with fail
                  refine bodyPost_ret (v := .tuple #[.slice A9 (n + 1) c9, .int .i64 0]) (by simp [results, Tryz.results6, go_sem]) rfl ?_
                  exact .inr ⟨HR.out, A9, c9, G9, rfl, by rw [hposk.out]; exact hI.out.lower (by have := KK.out.size; omega), hG9, HBX.out.trans ((KK.out.trans (HE.out.mono KK.out.size)).mono (by omega))⟩
                · go_simp; refine hK.out _ _ (by obtain ⟨x0_, x1_, x2_, x3_, x4_, x5_⟩ := hHeld; exact ⟨x0_.trans (((Below.refl _ _).alloc (Nat.le_refl _) _).mono x0_.size), cell_keep ((Below.refl _ _).alloc (Nat.le_refl _) _) x1_, cell_keep ((Below.refl _ _).alloc (Nat.le_refl _) _) x2_, cell_keep ((Below.refl _ _).alloc (Nat.le_refl _) _) x3_, cell_keep ((Below.refl _ _).alloc (Nat.le_refl _) _) x4_, cell_keep ((Below.refl _ _).alloc (Nat.le_refl _) _) x5_⟩) (fun hHeld2 => ?_); clear hK K; have hOld := hHeld; clear hHeld; have hHeld := hHeld2; clear hHeld2; (first | have hnb := Lib.hid (new_heldA hHeld) | have hnb := Lib.hid (new_heldAD hHeld)); (first | have hab := ab_heldA hHeld | have hab := ab_heldAD hHeld); (try replace hC := hC.keep hab); (try have hGv := Lib.hid (one_lt hO.out)); (try replace hO := Lib.hid (hO.out.keep hab)); (try clear d0 d1 d2 d3 d4); clear hab; (try simp only [Act.put, List.setIfInBounds_toArray, List.set_cons_zero, List.set_cons_succ])
                  (refine wpAnyH_ready (rs := [1]) (by kernel_rfl) (by simp) ?_; refine AllReadyH.cons rfl (fun K hK => ?_) AllReadyH.nil; go_simp; go_at_call 26; refine (copyAll_calls wk.heap.size A n c f _ (H9.out.keep (And.left hHeld)) HPN.out hn (And.left hHeld).size).mono ?_; rintro e wd ⟨A1, c1, xs, rfl, hC, hb⟩; refine hK.out _ _ (by obtain ⟨x0_, x1_, x2_, x3_, x4_, x5_⟩ := hHeld; exact ⟨x0_.trans (hb.mono x0_.size), cell_keep hb x1_, cell_keep hb x2_, cell_keep hb x3_, cell_keep hb x4_, cell_keep hb x5_⟩) (fun hHeld2 => ?_); (try replace hnb := Lib.hid (hnb.out.keep hb)); clear hK K hHeld hb; have hHeld := hHeld2; clear hHeld2; (try simp only [Act.put, List.setIfInBounds_toArray, List.set_cons_zero, List.set_cons_succ]))
                  (refine wpAnyH_ready (rs := [5]) (by kernel_rfl) (by simp) ?_; refine AllReadyH.cons rfl (fun K hK => ?_) AllReadyH.nil; go_simp; go_at_call 26; refine (copyOne_calls wk.heap.size _ n xs f _ x C e2 _ hxp hxn hC hnb.out (ShareRow.keep S9.out (And.left hHeld))).mono ?_; rintro e wd ⟨g2, c2, G, c3, rfl, ⟨d0, d1, d2, d3, d4⟩, hO1, hb⟩; have hO : Hid (OneOut wk.heap.size (.slice A1 n c1) n xs f x G c3 wd) := Lib.hid hO1; clear hO1; refine hK.out _ _ (by obtain ⟨x0_, x1_, x2_, x3_, x4_, x5_⟩ := hHeld; exact ⟨x0_.trans (hb.mono x0_.size), cell_keep hb x1_, cell_keep hb x2_, cell_keep hb x3_, cell_keep hb x4_, cell_keep hb x5_⟩) (fun hHeld2 => ?_); (try replace hnb := Lib.hid (hnb.out.keep hb)); clear hK K hHeld hb; have hHeld := hHeld2; clear hHeld2; (try simp only [Act.put, List.setIfInBounds_toArray, List.set_cons_zero, List.set_cons_succ]))
                  refine take_yes (i := 6) (d := 59) (v := ?_) _ rfl rfl (by kernel_rfl) (by kernel_rfl) (by kernel_rfl) (fun _ _ _ _ h => h) (by rfl) ?_ (by assumption) ?_
                  rotate_left 1
                  · ((intro w hSw; (try dsimp only at hSw); go_simp) <;> (try with_reducible rfl))
                  (try simp only [Act.put, List.setIfInBounds_toArray, List.set_cons_zero, List.set_cons_succ])
                  (refine wpAnyH_ready (rs := [7]) (by kernel_rfl) (by simp) ?_; refine AllReadyH.cons rfl (fun K hK => ?_) AllReadyH.nil; go_simp; refine hK.out _ _ (by assumption) (fun hHeld2 => ?_); clear hK K hHeld; have hHeld := hHeld2; clear hHeld2; (try simp only [Act.put, List.setIfInBounds_toArray, List.set_cons_zero, List.set_cons_succ]))
                  (refine wpAnyH_ready (rs := [8]) (by kernel_rfl) (by simp) ?_; refine AllReadyH.cons rfl (fun K hK => ?_) AllReadyH.nil; go_simp; refine hK.out _ _ (by obtain ⟨x0_, x1_, x2_, x3_, x4_, x5_⟩ := hHeld; exact ⟨x0_.trans (((Below.refl _ _).alloc (Nat.le_refl _) _).mono x0_.size), cell_keep ((Below.refl _ _).alloc (Nat.le_refl _) _) x1_, cell_keep ((Below.refl _ _).alloc (Nat.le_refl _) _) x2_, cell_keep ((Below.refl _ _).alloc (Nat.le_refl _) _) x3_, cell_keep ((Below.refl _ _).alloc (Nat.le_refl _) _) x4_, cell_keep ((Below.refl _ _).alloc (Nat.le_refl _) _) x5_⟩) (fun hHeld2 => ?_); clear hK K; have hOld := hHeld; clear hHeld; have hHeld := hHeld2; clear hHeld2; (first | have hnb := Lib.hid (new_heldA hHeld) | have hnb := Lib.hid (new_heldAD hHeld)); (first | have hab := ab_heldA hHeld | have hab := ab_heldAD hHeld); (try replace hC := hC.keep hab); (try have hGv := Lib.hid (one_lt hO.out)); (try replace hO := Lib.hid (hO.out.keep hab)); (try clear d0 d1 d2 d3 d4); clear hab; (try simp only [Act.put, List.setIfInBounds_toArray, List.set_cons_zero, List.set_cons_succ]))
                  (refine wpAnyH_ready (rs := [9]) (by kernel_rfl) (by simp) ?_; refine AllReadyH.cons rfl (fun K hK => ?_) AllReadyH.nil; go_simp; go_at_call 25; refine (ins_last hO.out hGv.out hnb.out hkn hn (And.left hHeld).size).mono ?_; rintro e wd ⟨A9, c9, G9, rfl, ⟨hI1, hG91⟩, hb⟩; have hI := Lib.hid hI1; have hG9 : w.heap.size ≤ G9 := Nat.le_trans (Nat.le_trans HBX.out.size KK.out.size) hG91; clear hI1; refine hK.out _ _ (by obtain ⟨x0_, x1_, x2_, x3_, x4_, x5_⟩ := hHeld; exact ⟨x0_.trans hb, cell_keep (x0_.trans hb) E0.out, cell_keep (x0_.trans hb) E1.out, cell_keep (x0_.trans hb) E2.out, cell_keep (x0_.trans hb) E3.out, cell_keep (x0_.trans hb) E4.out⟩) (fun hHeld2 => ?_); (try replace hnb := Lib.hid (hnb.out.keep hb)); clear hK K hHeld hb; have hHeld := hHeld2; clear hHeld2; (try simp only [Act.put, List.setIfInBounds_toArray, List.set_cons_zero, List.set_cons_succ]))
                  refine take_yes (i := 10) (d := 6) (v := ?_) _ rfl rfl (by kernel_rfl) (by kernel_rfl) (by kernel_rfl) (fun _ _ _ _ h => h) (by rfl) ?_ (by assumption) ?_
                  rotate_left 1
                  · ((intro w hSw; (try dsimp only at hSw); go_simp) <;> (try with_reducible rfl))
                  (try simp only [Act.put, List.setIfInBounds_toArray, List.set_cons_zero, List.set_cons_succ])
                  refine take_yes (i := 11) (d := 7) (v := ?_) _ rfl rfl (by kernel_rfl) (by kernel_rfl) (by kernel_rfl) (fun _ _ _ _ h => h) (by rfl) ?_ (by assumption) ?_
                  rotate_left 1
                  · ((intro w hSw; (try dsimp only at hSw); go_simp) <;> (try with_reducible rfl))
                  (try simp only [Act.put, List.setIfInBounds_toArray, List.set_cons_zero, List.set_cons_succ])
                  refine wpAnyH_done (by kernel_rfl) ?_ _
                  obtain ⟨z0, z1, z2, z3, z4, z5⟩ := hHeld
                  have HE := Lib.hid z0
                  clear z0 z1 z2 z3 z4 z5
                  go_wp2_with fail
                  refine bodyPost_ret (v := .tuple #[.slice A9 (n + 1) c9, .int .i64 0]) (by simp [results, Tryz.results6, go_sem]) rfl ?_
                  exact .inr ⟨HR.out, A9, c9, G9, rfl, by rw [hposk.out]; exact hI.out.lower (by have := KK.out.size; omega), hG9, HBX.out.trans ((KK.out.trans (HE.out.mono KK.out.size)).mono (by omega))⟩
            · have hR : adC g m f n x = 4 := by rw [hadc.out, if_neg (by decide), if_neg (by decide), if_pos rfl]
              go_wp2_with (first | (go_at_call 20; with_reducible refine (HV1.out _ KK.out).mono ?_; rintro e wk ⟨rfl, hb⟩; have HMR2 := Lib.hid (HMR.out.keep hb); have K2 := Lib.hid (KK.out.trans (hb.mono KK.out.size)); clear KK hb x0 x1 x2 x3 x4 HMR; have KK := K2; have HMR := HMR2; clear K2 HMR2; have x0 := ((HX.out.keep KK.out).cell 0).trans rfl; have x1 := ((HX.out.keep KK.out).cell 1).trans rfl; have x2 := ((HX.out.keep KK.out).cell 2).trans rfl; have x3 := ((HX.out.keep KK.out).cell 3).trans rfl; have x4 := ((HX.out.keep KK.out).cell 4).trans rfl) | (go_at_call 21; with_reducible refine (HV2.out _ KK.out).mono ?_; rintro e wk ⟨rfl, hb⟩; have HMR2 := Lib.hid (HMR.out.keep hb); have K2 := Lib.hid (KK.out.trans (hb.mono KK.out.size)); clear KK hb x0 x1 x2 x3 x4 HMR; have KK := K2; have HMR := HMR2; clear K2 HMR2; have x0 := ((HX.out.keep KK.out).cell 0).trans rfl; have x1 := ((HX.out.keep KK.out).cell 1).trans rfl; have x2 := ((HX.out.keep KK.out).cell 2).trans rfl; have x3 := ((HX.out.keep KK.out).cell 3).trans rfl; have x4 := ((HX.out.keep KK.out).cell 4).trans rfl) | (go_at_call 22; with_reducible refine (HV3.out _ KK.out).mono ?_; rintro e wk ⟨rfl, hb⟩; have HMR2 := Lib.hid (HMR.out.keep hb); have K2 := Lib.hid (KK.out.trans (hb.mono KK.out.size)); clear KK hb x0 x1 x2 x3 x4 HMR; have KK := K2; have HMR := HMR2; clear K2 HMR2; have x0 := ((HX.out.keep KK.out).cell 0).trans rfl; have x1 := ((HX.out.keep KK.out).cell 1).trans rfl; have x2 := ((HX.out.keep KK.out).cell 2).trans rfl; have x3 := ((HX.out.keep KK.out).cell 3).trans rfl; have x4 := ((HX.out.keep KK.out).cell 4).trans rfl) | (go_at_call 23; with_reducible refine (HV4.out _ HMR.out KK.out).mono ?_; rintro e wk ⟨rfl, hb⟩; have HMR2 := Lib.hid (HMR.out.keep hb); have K2 := Lib.hid (KK.out.trans (hb.mono KK.out.size)); clear KK hb x0 x1 x2 x3 x4 HMR; have KK := K2; have HMR := HMR2; clear K2 HMR2; have x0 := ((HX.out.keep KK.out).cell 0).trans rfl; have x1 := ((HX.out.keep KK.out).cell 1).trans rfl; have x2 := ((HX.out.keep KK.out).cell 2).trans rfl; have x3 := ((HX.out.keep KK.out).cell 3).trans rfl; have x4 := ((HX.out.keep KK.out).cell 4).trans rfl) | (go_at_call 24; with_reducible refine (HV5.out _ HMR.out KK.out).mono ?_; rintro e wk ⟨rfl, hb⟩; have HMR2 := Lib.hid (HMR.out.keep hb); have K2 := Lib.hid (KK.out.trans (hb.mono KK.out.size)); clear KK hb x0 x1 x2 x3 x4 HMR; have KK := K2; have HMR := HMR2; clear K2 HMR2; have x0 := ((HX.out.keep KK.out).cell 0).trans rfl; have x1 := ((HX.out.keep KK.out).cell 1).trans rfl; have x2 := ((HX.out.keep KK.out).cell 2).trans rfl; have x3 := ((HX.out.keep KK.out).cell 3).trans rfl; have x4 := ((HX.out.keep KK.out).cell 4).trans rfl))
              refine bodyPost_ret (v := .tuple #[.slice none 0 0, .int .i64 4]) (by simp [results, Tryz.results6, go_sem]) rfl ?_
              exact .inl ⟨by rw [hR]; decide, by rw [hR], HBX.out.trans (KK.out.mono (by omega))⟩
end Go.Proofs.YticnpibkpfpojaaGreatDoor

/- A row's wrap that hands the walk both the world's shape and what the row's list gives. No program in sight. -/
namespace Go.Proofs.YticnpibkpfpojaaGreatDoor
set_option linter.unusedVariables false
open Go
theorem handed_shaped {H : Type} {enc : TypeId × Value → H} {a : Assume} {C : Checked} {os : Os} {f : FuncId} {fn : Func} {s : ChangeSpec} {conds : List PathCond} {apart fresh handsOn again : Bool} {X : World → Array Value → Prop}
    (hX : ∀ (w w' : World) (args : Array Value), w.heap = w'.heap → X w args → X w' args)
    (own : ownKnob C.prog.godebug = none) (started : os.Started) (noInit : C.prog.inits.idxOf? f = none) (hfn : C.prog.funcs[f]? = some fn)
    (witness : ∃ (w : World) (tape : Tape) (i : Input), w.os = os ∧ (w.forCall tape i).Shaped C.prog ∧ i.vars = [] ∧ Input.okWide C.prog (w.forCall tape i) .any w.heap.size f i ∧
      ((s.pre enc C.prog fn conds apart (w.forCall tape i).memory i.args ∧ X (w.forCall tape i).memory i.args) ∧ sizedMet enc C.prog fn (OpenSpec.ofChange s) apart (w.forCall tape i).memory i.args) ∧ a.holds C.prog (lone (Frame.enter C.prog f i.args .normal) [] (w.forCall tape i)))
    (contract : ∀ (W : World) (base : Nat) (args : Array Value) (ds gs : List (DataW H)) (before : List MemPlace),
      (∀ (j : Nat) t v, fn.params[j]? = some t → args[j]? = some v → Value.okWide C.prog W .any base t v) →
      DataW.Whole enc C.prog fn.params.toList s.vars apart W args.toList ds gs before →
      W.ShapedOpen C.prog → X W args →
      Calls C.prog f args W fun e W' => ∃ v, e = .returned v ∧ s.post enc C.prog fn apart fresh handsOn again W args v W') :
    ReturnsInHanded a C os f .any (fun w args => (s.pre enc C.prog fn conds apart w args ∧ X w args) ∧ sizedMet enc C.prog fn (OpenSpec.ofChange s) apart w args) (s.post enc C.prog fn apart fresh handsOn again) := by
  refine returnsInHanded_of_calls own started noInit witness ?_
  intro w tape i _ hsh _ hok hpre _
  obtain ⟨_, _, _, fn', hfn', _, _, _, _, hval⟩ := hok
  have e : fn' = fn := Option.some.inj (hfn'.symm.trans hfn)
  subst e
  obtain ⟨⟨⟨ds, gs, before, hw, hc⟩, hx⟩, -⟩ := hpre
  have hw' := DataW.Whole.of_heap (w' := w.forCall tape i) (by rfl) hw
  refine (contract (w.forCall tape i) w.heap.size i.args ds gs before hval hw' hsh (hX _ _ _ (by rfl) hx)).mono fun e W' ⟨v, he, hp⟩ => ?_
  subst he
  exact ChangeSpec.post_blind hp
end Go.Proofs.YticnpibkpfpojaaGreatDoor

/- The one type of the library's plain errors. -/
namespace Go.Proofs.YticnpibkpfpojaaGreatDoor
set_option linter.unusedVariables false
theorem errStar : "*" ++ "errors.errorString" = "*errors.errorString" := by decide
theorem errRow (u : TypeId) (h : Tryz.prog.typeName? 3 u = some "*errors.errorString") : u = 192 :=
  typeName_ptr_named (nm := "errors.errorString") (by rw [errStar]; kernel_rfl) (by kernel_rfl) (by decide) u (by rw [errStar]; exact h)
end Go.Proofs.YticnpibkpfpojaaGreatDoor

/- What the law on traces calls besides: valid bells, one bell as a list, the size of a bell's text. -/
namespace Go.Proofs.YticnpibkpfpojaaGreatDoor
set_option linter.unusedVariables false
open Go.RowKit

theorem bellT_size {s : ByteArray} {no ma fe : Int} {n : Nat} {ss : Nat → ByteArray} {ms : Nat → Int} (h : bellB s no ma fe n ss ms = true) : (bellT s no ma fe n ss ms).size ≤ 1048576 := by
  obtain ⟨h1, ⟨-, hn⟩, h3, h4⟩ := bell_rng h
  have hj := shJ_len ss ms n h4
  have e2 := joinT_succ (l3 no ma fe) (k := 1) (by omega)
  have e3 := joinT_succ (l3 no ma fe) (k := 2) (by omega)
  have e1 := joinT_one (l3 no ma fe)
  have i0 := Lib.itoa_length_le (l3 no ma fe 0) (by have := h3 0 (by omega); omega) (by have := h3 0 (by omega); omega)
  have i1 := Lib.itoa_length_le (l3 no ma fe 1) (by have := h3 1 (by omega); omega) (by have := h3 1 (by omega); omega)
  have i2 := Lib.itoa_length_le (l3 no ma fe 2) (by have := h3 2 (by omega); omega) (by have := h3 2 (by omega); omega)
  have z1 := congrArg ByteArray.size e1
  have z2 := congrArg ByteArray.size e2
  have z3 := congrArg ByteArray.size e3
  simp only [ByteArray.size_append, ba_size, List.length_cons, List.length_nil, Nat.reduceAdd] at z1 z2 z3
  have q0 : (⟨#[]⟩ : ByteArray).size = 0 := rfl
  have q1 : (⟨#[44]⟩ : ByteArray).size = 1 := rfl
  have q2 : (⟨#[32]⟩ : ByteArray).size = 1 := rfl
  have hs : (shJ ss ms n).size ≤ 40 * n := by unfold shJ; rw [ba_size]; exact hj
  unfold bellT
  simp only [ByteArray.size_append]
  omega
theorem same_read {x y : BellV} (h0 : x.id = y.id) (h1 : x.no = y.no) (h2 : x.ma = y.ma) (h3 : x.fe = y.fe) (h4 : x.n = y.n) (h5 : ∀ i, i < x.n → x.ss i = y.ss i ∧ x.ms i = y.ms i) : allSame (fun _ => x) (fun _ => y) 1 1 = true := by
  have hs : sharesEq x y = true := by
    unfold sharesEq
    rw [h4, beq_self_eq_true, Bool.true_and]
    refine allB_yes fun i hi => ?_
    obtain ⟨a, b⟩ := h5 i (by omega)
    unfold shareEq
    rw [a, b, beq_self_eq_true, beq_self_eq_true]
    rfl
  have hv : sameV x y = true := by
    unfold sameV
    rw [h0, h1, h2, h3, hs]
    simp
  show (1 == 1 && allB (fun _ => sameV x y) 1) = true
  rw [allB_yes (fun i _ => hv)]
  rfl
theorem lfV_bd {g : Nat → MeltV} {m : Nat} {f : Nat → BellV} {n : Nat} (s : ByteArray) : 0 ≤ lfV g m f n s ∧ lfV g m f n s ≤ 320000000 := by
  unfold lfV
  split
  · rename_i h
    unfold lfC at h
    split at h
    · rename_i h1
      simp only [Bool.and_eq_true] at h1
      split at h
      · rename_i h2
        simp only [Bool.and_eq_true] at h2
        split at h
        · omega
        · rename_i h3
          obtain ⟨a, -⟩ := mIx_of h2.1
          have h4 := okM_ma h1.1 a
          have h5 := (tkB_bd (id := s) (okB_few h1.2) n (Nat.le_refl _)).1
          omega
      · omega
    · omega
  · omega
theorem one_bell {w : World} {G : Nat} {T : TypeId} {x : BellV} {A : Option Addr} {c : Nat} (h : Blk w G T #[.string x.id, .int .i64 x.no, .int .i64 x.ma, .int .i64 x.fe, .slice A x.n c]) (hr : ShareRow w A x.n x.ss x.ms) : BellRow w (some ⟨G, 0, none⟩) 1 (fun _ => x) := fun _ =>
  ⟨G, 0, rfl, fun i hi => by
    obtain rfl : i = 0 := by omega
    exact ⟨A, c, (h.cell 0).trans rfl, (h.cell 1).trans rfl, (h.cell 2).trans rfl, (h.cell 3).trans rfl, (h.cell 4).trans rfl, hr⟩⟩
set_option maxHeartbeats 1000000 in
theorem validBells_calls (A : Option Addr) (n c : Nat) (f : Nat → BellV) (w : World) (h : BellRow w A n f) (hf : ∀ i, i < n → Fine (f i)) (hn : n ≤ maxLen) :
    Calls Tryz.prog 9 #[.slice A n c] w fun e w' => e = .returned (.bool (okBells f n)) ∧ Below w.heap.size w w' := by
  have HC := Lib.hid (sbells_calls A n c f w h hf hn)
  clear h hf
  go_enter Tryz.func9, Tryz.ntmps9
  go_wp2_with fail
  go_at_call 34
  refine HC.out.mono ?_
  rintro e w1 ⟨rfl, nd, rfl⟩
  go_wp2
  go_ret
  exact ⟨rfl, below_drewN (Below.refl _ _) nd⟩
end Go.Proofs.YticnpibkpfpojaaGreatDoor
