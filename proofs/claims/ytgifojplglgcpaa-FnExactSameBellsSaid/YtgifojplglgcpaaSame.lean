/- When two bells, and two lists of bells, are the same, in the program and in the reference. -/
import Derived.Test.YtgifojplglgcpaaBells
import Derived.Laws.StructEq
namespace Go.Proofs.Ytgifojplglgcpaa
set_option linter.unusedVariables false
open Go.RowKit

def shareEq (x y : BellV) (i : Nat) : Bool := (x.ss i).toList == (y.ss i).toList && x.ms i == y.ms i
def sharesEq (x y : BellV) : Bool := x.n == y.n && allB (shareEq x y) x.n
theorem share_eqIn (w : World) (s1 s2 : ByteArray) (m1 m2 : Int) : (Op.equalIn 10000 149 (.agg #[.string s1, .int .i64 m1]) (.agg #[.string s2, .int .i64 m2])).run Try.prog w = .ok ((s1.toList == s2.toList) && (m1 == m2)) w := by
  rw [show (10000 : Nat) = 9999 + 1 from rfl, run_equalIn_struct _ _ _ _ _ (by kernel_rfl) (by kernel_rfl)]
  have hf : (Try.prog.fieldsOf 149).toList.map (fun f => (f.name, f.type, f.offset)) = [("Melt", 9, 0), ("Mass", 2, 1)] := by kernel_rfl
  obtain ⟨f0, f1, hl⟩ := list2 (show (Try.prog.fieldsOf 149).toList.length = 2 by kernel_rfl)
  rw [hl] at hf ⊢
  simp only [List.map_cons, List.map_nil, List.cons.injEq, Prod.mk.injEq, and_true] at hf
  obtain ⟨⟨n0, t0, o0⟩, ⟨n1, t1, o1⟩⟩ := hf
  simp [Op.eqFields, n0, t0, o0, n1, t1, o1, go_sem]
  by_cases h1 : s1.toList = s2.toList <;> by_cases h2 : m1 = m2 <;> simp [h1, h2]
theorem share_neq (w : World) (s1 s2 : ByteArray) (m1 m2 : Int) : (binOp .neq 149 (.agg #[.string s1, .int .i64 m1]) (.agg #[.string s2, .int .i64 m2])).run Try.prog w = .ok (.bool (!((s1.toList == s2.toList) && (m1 == m2)))) w := by
  rw [run_neq_struct, share_eqIn]; rfl
theorem share_guard : Try.prog.eqGuardType Try.prog.depth 149 = false := by kernel_rfl
set_option maxHeartbeats 1000000 in
theorem equalShares_calls (A B : Option Addr) (c d : Nat) (x y : BellV) (w : World) (h : ShareRow w A x.n x.ss x.ms) (h2 : ShareRow w B y.n y.ss y.ms) (hn : x.n ≤ 1048576) (hm : y.n ≤ 1048576) :
    Calls Try.prog 136 #[.slice A x.n c, .slice B y.n d] w fun e w' => e = .returned (.bool (sharesEq x y)) ∧ ∃ m, w' = w.drewN m := by
  have H := Lib.hid h
  have H2 := Lib.hid h2
  clear h h2
  by_cases hne : x.n = y.n
  · generalize hres : sharesEq x y = R
    have HRES := Lib.hid hres
    have HNE := Lib.hid hne
    clear hres
    go_enter Try.func136, Try.ntmps136
    go_wp2
    clear hne
    go_loopw [13] (fun i wr => ∃ k : Nat, k ≤ x.n ∧ i = .int .i64 k ∧ Hid (allB (shareEq x y) k = true) ∧ Hid (∃ m, wr = w.drewN m)) (fun i _ => x.n - (intOf i).toNat)
    case atStart => exact ⟨0, by omega, rfl, rfl, Lib.hid ⟨0, rfl⟩⟩
    case round =>
      obtain ⟨k, hk, rfl, hgood, hwr⟩ := hrel
      by_cases hlt : k < x.n
      · have hlt2 : k < y.n := by have := HNE.out; omega
        obtain ⟨b, o, rfl, hrow⟩ := H.out (by omega)
        obtain ⟨b2, o2, rfl, hrow2⟩ := H2.out (by omega)
        have e0 : wr.cell? ⟨b, o + k * 2, none⟩ = some (.string (x.ss k)) := by obtain ⟨m, hm⟩ := hwr.out; rw [hm]; exact (hrow k hlt).1
        have e1 : wr.cell? ⟨b, o + k * 2 + 1, none⟩ = some (.int .i64 (x.ms k)) := by obtain ⟨m, hm⟩ := hwr.out; rw [hm]; exact (hrow k hlt).2
        have g0 : wr.cell? ⟨b2, o2 + k * 2, none⟩ = some (.string (y.ss k)) := by obtain ⟨m, hm⟩ := hwr.out; rw [hm]; exact (hrow2 k hlt2).1
        have g1 : wr.cell? ⟨b2, o2 + k * 2 + 1, none⟩ = some (.int .i64 (y.ms k)) := by obtain ⟨m, hm⟩ := hwr.out; rw [hm]; exact (hrow2 k hlt2).2
        have HR := Lib.hid hrow
        have HR2 := Lib.hid hrow2
        have hguard := share_guard
        have hq := fun w => share_neq w (x.ss k) (y.ss k) (x.ms k) (y.ms k)
        clear hrow hrow2
        cases q1 : shareEq x y k
        · simp only [show ((x.ss k).toList == (y.ss k).toList && x.ms k == y.ms k) = false from q1] at hq
          skip
          go_wp2_with fail
          go_quiet (fail)
          go_wp2
          go_ret
          exact ⟨ret_bool (by rw [← HRES.out]; unfold sharesEq; rw [allB_no hlt q1, Bool.and_false]), by obtain ⟨m, hm⟩ := hwr.out; rw [hm]; exact ⟨_, World.drewN_drewN _ _ _⟩⟩
        · simp only [show ((x.ss k).toList == (y.ss k).toList && x.ms k == y.ms k) = true from q1] at hq
          skip
          go_wp2_with fail
          go_quiet (fail)
          go_wp2
          go_roundw
          case rel => exact ⟨k + 1, by omega, by go_num, Lib.hid (by rw [show allB (shareEq x y) (k + 1) = (allB (shareEq x y) k && shareEq x y k) from rfl, hgood.out, q1]; rfl), Lib.hid (by obtain ⟨m, hm⟩ := hwr.out; rw [hm]; exact ⟨_, World.drewN_drewN _ _ _⟩)⟩
          case measure => simp [intOf]; omega
      · obtain hkn : k = x.n := by omega
        have HKN := Lib.hid hkn
        have hnl : (x.n : Int) ≤ k := by omega
        have hnl2 : x.n ≤ k := by omega
        have hnl3 : (y.n : Int) ≤ k := by have := HNE.out; omega
        have hnl4 : y.n ≤ k := by have := HNE.out; omega
        clear hkn
        skip
        go_wp2
        go_ret
        exact ⟨ret_bool (by rw [← HRES.out]; unfold sharesEq; rw [HNE.out, beq_self_eq_true, Bool.true_and, ← HNE.out, ← HKN.out]; exact hgood.out.symm), hwr.out⟩
  · have hz : sharesEq x y = false := by unfold sharesEq; rw [beq_eq_false_iff_ne.2 hne]; rfl
    rw [hz]
    have hne2 : decide (x.n = y.n) = false := decide_eq_false hne
    have hne3 : (x.n == y.n) = false := beq_eq_false_iff_ne.2 hne
    have hne4 : (((x.n : Nat) : Int) == ((y.n : Nat) : Int)) = false := beq_eq_false_iff_ne.2 (by omega)
    go_enter Try.func136, Try.ntmps136
    go_wp2
    go_ret
    exact ⟨rfl, 0, rfl⟩
def sameV (x y : BellV) : Bool := (x.id.toList == y.id.toList) && ((x.no == y.no) && ((x.ma == y.ma) && ((x.fe == y.fe) && sharesEq x y)))
set_option maxHeartbeats 2000000 in
theorem sameBell_calls (A B : Option Addr) (c d : Nat) (x y : BellV) (w : World) (h : ShareRow w A x.n x.ss x.ms) (h2 : ShareRow w B y.n y.ss y.ms) (hn : x.n ≤ 1048576) (hm : y.n ≤ 1048576) :
    Calls Try.prog 117 #[.agg #[.string x.id, .int .i64 x.no, .int .i64 x.ma, .int .i64 x.fe, .slice A x.n c], .agg #[.string y.id, .int .i64 y.no, .int .i64 y.ma, .int .i64 y.fe, .slice B y.n d]] w fun e w' => e = .returned (.bool (sameV x y)) ∧ Below w.heap.size w w' := by
  have hB := ((Below.refl w.heap.size w).alloc (Nat.le_refl _) (.cells #[.string x.id, .int .i64 x.no, .int .i64 x.ma, .int .i64 x.fe, .slice A x.n c] 79)).alloc (by simp) (.cells #[.string y.id, .int .i64 y.no, .int .i64 y.ma, .int .i64 y.fe, .slice B y.n d] 79)
  have H := Lib.hid (h.below hB (Nat.le_refl _))
  have H2 := Lib.hid (h2.below hB (Nat.le_refl _))
  generalize hres : sameV x y = R
  have HRES := Lib.hid hres
  clear h h2 hres
  cases t1 : (x.id.toList == y.id.toList)
  · go_enter Try.func117, Try.ntmps117
    go_wp2_with (go_at_call 136; refine (equalShares_calls A B c d x y _ H.out H2.out hn hm).mono ?_; rintro e w1 ⟨rfl, nd, rfl⟩)
    go_ret
    exact ⟨ret_bool (by rw [← HRES.out]; simp [sameV, *]), by first | exact hB | exact below_drewN hB _⟩
  · cases t2 : (x.no == y.no)
    · go_enter Try.func117, Try.ntmps117
      go_wp2_with (go_at_call 136; refine (equalShares_calls A B c d x y _ H.out H2.out hn hm).mono ?_; rintro e w1 ⟨rfl, nd, rfl⟩)
      go_ret
      exact ⟨ret_bool (by rw [← HRES.out]; simp [sameV, *]), by first | exact hB | exact below_drewN hB _⟩
    · cases t3 : (x.ma == y.ma)
      · go_enter Try.func117, Try.ntmps117
        go_wp2_with (go_at_call 136; refine (equalShares_calls A B c d x y _ H.out H2.out hn hm).mono ?_; rintro e w1 ⟨rfl, nd, rfl⟩)
        go_ret
        exact ⟨ret_bool (by rw [← HRES.out]; simp [sameV, *]), by first | exact hB | exact below_drewN hB _⟩
      · cases t4 : (x.fe == y.fe)
        · go_enter Try.func117, Try.ntmps117
          go_wp2_with (go_at_call 136; refine (equalShares_calls A B c d x y _ H.out H2.out hn hm).mono ?_; rintro e w1 ⟨rfl, nd, rfl⟩)
          go_ret
          exact ⟨ret_bool (by rw [← HRES.out]; simp [sameV, *]), by first | exact hB | exact below_drewN hB _⟩
        · go_enter Try.func117, Try.ntmps117
          go_wp2_with (go_at_call 136; refine (equalShares_calls A B c d x y _ H.out H2.out hn hm).mono ?_; rintro e w1 ⟨rfl, nd, rfl⟩)
          go_ret
          exact ⟨ret_bool (by rw [← HRES.out]; simp [sameV, *]), by first | exact hB | exact below_drewN hB _⟩
set_option maxRecDepth 100000 in
set_option maxHeartbeats 4000000 in
theorem l18Same_calls (b1 o1 b3 o3 : Nat) (x y : BellV) (w : World) (hx : BellAt w b1 o1 x) (hy : BellAt w b3 o3 y) (hn : x.n ≤ 1048576) (hm : y.n ≤ 1048576) :
    Calls Try.prog 115 #[.pointer (some ⟨b1, o1, none⟩), .pointer (some ⟨b3, o3, none⟩)] w fun e w' => e = .returned (.bool (sameV x y)) ∧ ∃ m, w' = w.drewN m := by
  obtain ⟨A, c, c0, c1, c2, c3, c4, h⟩ := hx
  obtain ⟨B, d, d0, d1, d2, d3, d4, h2⟩ := hy
  have H := Lib.hid h
  have H2 := Lib.hid h2
  generalize hres : sameV x y = R
  have HRES := Lib.hid hres
  clear h h2 hres
  cases t1 : (x.id.toList == y.id.toList)
  · have n1 : (x.id.toList != y.id.toList) = true := by simp only [bne, t1]; rfl
    go_enter Try.func115, Try.ntmps115
    go_wp2_with fail
    go_quiet (fail)
    go_wp2
    go_ret
    exact ⟨ret_bool (by rw [← HRES.out]; simp [sameV, t1]), _, rfl⟩
  · have n1 : (x.id.toList != y.id.toList) = false := by simp only [bne, t1]; rfl
    cases t2 : (x.no == y.no)
    · have n2 : (x.no != y.no) = true := by simp only [bne, t2]; rfl
      go_enter Try.func115, Try.ntmps115
      go_wp2_with fail
      go_quiet (fail)
      go_wp2
      go_ret
      exact ⟨ret_bool (by rw [← HRES.out]; simp [sameV, t2]), _, rfl⟩
    · have n2 : (x.no != y.no) = false := by simp only [bne, t2]; rfl
      cases t3 : (x.ma == y.ma)
      · have n3 : (x.ma != y.ma) = true := by simp only [bne, t3]; rfl
        go_enter Try.func115, Try.ntmps115
        go_wp2_with fail
        go_quiet (fail)
        go_wp2
        go_ret
        exact ⟨ret_bool (by rw [← HRES.out]; simp [sameV, t3]), _, rfl⟩
      · have n3 : (x.ma != y.ma) = false := by simp only [bne, t3]; rfl
        cases t4 : (x.fe == y.fe)
        · have n4 : (x.fe != y.fe) = true := by simp only [bne, t4]; rfl
          go_enter Try.func115, Try.ntmps115
          go_wp2_with fail
          go_quiet (fail)
          go_wp2
          go_ret
          exact ⟨ret_bool (by rw [← HRES.out]; simp [sameV, t4]), _, rfl⟩
        · have n4 : (x.fe != y.fe) = false := by simp only [bne, t4]; rfl
          by_cases hne : x.n = y.n
          · have t5 : (((x.n : Nat) : Int) == ((y.n : Nat) : Int)) = true := beq_iff_eq.2 (by omega)
            have n5 : (((x.n : Nat) : Int) != ((y.n : Nat) : Int)) = false := by simp only [bne, t5]; rfl
            have t6 : (x.n == y.n) = true := beq_iff_eq.2 hne
            have n6 : (x.n != y.n) = false := by simp only [bne, t6]; rfl
            have HNE := Lib.hid hne
            have HT := Lib.hid (show sameV x y = sharesEq x y by simp only [sameV, t1, t2, t3, t4, Bool.true_and])
            have C4 := Lib.hid c4
            have D4 := Lib.hid d4
            clear hne
            go_enter Try.func115, Try.ntmps115
            go_wp2_with fail
            go_quiet (fail)
            clear t1 t2 t3 t4 t5 t6 n1 n2 n3 n4 n5 n6
            go_wp2
            go_loopw [5] (fun i wr => ∃ k : Nat, k ≤ x.n ∧ i = .int .i64 k ∧ Hid (allB (shareEq x y) k = true) ∧ Hid (∃ m, wr = w.drewN m)) (fun i _ => x.n - (intOf i).toNat)
            case atStart => exact ⟨0, by omega, rfl, rfl, Lib.hid ⟨_, rfl⟩⟩
            case round =>
              clear c0 c1 c2 c3 c4 d0 d1 d2 d3 d4
              obtain ⟨k, hk, rfl, hgood, hwr⟩ := hrel
              by_cases hlt : k < x.n
              · have hlt2 : k < y.n := by have := HNE.out; omega
                obtain ⟨b, o, rfl, hrow⟩ := H.out (by omega)
                obtain ⟨b2, o2, rfl, hrow2⟩ := H2.out (by omega)
                have e0 : wr.cell? ⟨b, o + k * 2, none⟩ = some (.string (x.ss k)) := by obtain ⟨m, hm⟩ := hwr.out; rw [hm]; exact (hrow k hlt).1
                have e1 : wr.cell? ⟨b, o + k * 2 + 1, none⟩ = some (.int .i64 (x.ms k)) := by obtain ⟨m, hm⟩ := hwr.out; rw [hm]; exact (hrow k hlt).2
                have g0 : wr.cell? ⟨b2, o2 + k * 2, none⟩ = some (.string (y.ss k)) := by obtain ⟨m, hm⟩ := hwr.out; rw [hm]; exact (hrow2 k hlt2).1
                have g1 : wr.cell? ⟨b2, o2 + k * 2 + 1, none⟩ = some (.int .i64 (y.ms k)) := by obtain ⟨m, hm⟩ := hwr.out; rw [hm]; exact (hrow2 k hlt2).2
                have HR := Lib.hid hrow
                have HR2 := Lib.hid hrow2
                have hguard := share_guard
                have hq := fun w => share_neq w (x.ss k) (y.ss k) (x.ms k) (y.ms k)
                clear hrow hrow2
                cases q1 : shareEq x y k
                · simp only [show ((x.ss k).toList == (y.ss k).toList && x.ms k == y.ms k) = false from q1] at hq
                  have d4 : wr.cell? ⟨b1, o1 + 4, none⟩ = some (.slice (some ⟨b, o, none⟩) x.n c) := by { obtain ⟨m, hm⟩ := hwr.out; rw [hm]; exact C4.out }; have d5 : wr.cell? ⟨b3, o3 + 4, none⟩ = some (.slice (some ⟨b2, o2, none⟩) y.n d) := by { obtain ⟨m, hm⟩ := hwr.out; rw [hm]; exact D4.out }
                  go_wp2_with fail
                  go_quiet (fail)
                  go_wp2
                  go_ret
                  exact ⟨ret_bool (by rw [← HRES.out]; rw [HT.out]; unfold sharesEq; rw [allB_no hlt q1, Bool.and_false]), by obtain ⟨m, hm⟩ := hwr.out; rw [hm]; exact ⟨_, World.drewN_drewN _ _ _⟩⟩
                · simp only [show ((x.ss k).toList == (y.ss k).toList && x.ms k == y.ms k) = true from q1] at hq
                  have d4 : wr.cell? ⟨b1, o1 + 4, none⟩ = some (.slice (some ⟨b, o, none⟩) x.n c) := by { obtain ⟨m, hm⟩ := hwr.out; rw [hm]; exact C4.out }; have d5 : wr.cell? ⟨b3, o3 + 4, none⟩ = some (.slice (some ⟨b2, o2, none⟩) y.n d) := by { obtain ⟨m, hm⟩ := hwr.out; rw [hm]; exact D4.out }
                  go_wp2_with fail
                  go_quiet (fail)
                  go_wp2
                  go_roundw
                  case rel => exact ⟨k + 1, by omega, by go_num, Lib.hid (by rw [show allB (shareEq x y) (k + 1) = (allB (shareEq x y) k && shareEq x y k) from rfl, hgood.out, q1]; rfl), Lib.hid (by obtain ⟨m, hm⟩ := hwr.out; rw [hm]; exact ⟨_, World.drewN_drewN _ _ _⟩)⟩
                  case measure => simp [intOf]; omega
              · obtain hkn : k = x.n := by omega
                have HKN := Lib.hid hkn
                have hnl : (x.n : Int) ≤ k := by omega
                have hnl2 : x.n ≤ k := by omega
                have hnl3 : (y.n : Int) ≤ k := by have := HNE.out; omega
                have hnl4 : y.n ≤ k := by have := HNE.out; omega
                clear hkn
                have d4 : wr.cell? ⟨b1, o1 + 4, none⟩ = some (.slice A x.n c) := by { obtain ⟨m, hm⟩ := hwr.out; rw [hm]; exact C4.out }
                go_wp2
                go_ret
                exact ⟨ret_bool (by rw [← HRES.out]; rw [HT.out]; unfold sharesEq; rw [HNE.out, beq_self_eq_true, Bool.true_and, ← HNE.out, ← HKN.out]; exact hgood.out.symm), hwr.out⟩
          · have t5 : (((x.n : Nat) : Int) == ((y.n : Nat) : Int)) = false := beq_eq_false_iff_ne.2 (by omega)
            have n5 : (((x.n : Nat) : Int) != ((y.n : Nat) : Int)) = true := by simp only [bne, t5]; rfl
            have t6 : (x.n == y.n) = false := beq_eq_false_iff_ne.2 hne
            have n6 : (x.n != y.n) = true := by simp only [bne, t6]; rfl
            have t7 : decide (x.n = y.n) = false := decide_eq_false hne
            have HT := Lib.hid (show sameV x y = false by simp only [sameV, sharesEq, t6, Bool.false_and, Bool.and_false])
            clear hne
            go_enter Try.func115, Try.ntmps115
            go_wp2_with fail
            go_quiet (fail)
            go_wp2
            go_ret
            exact ⟨ret_bool (by rw [← HRES.out]; exact HT.out.symm), _, rfl⟩
def allSame (f g : Nat → BellV) (n m : Nat) : Bool := n == m && allB (fun i => sameV (f i) (g i)) n
set_option maxHeartbeats 4000000 in
theorem equalBells_calls (A B : Option Addr) (n m c d : Nat) (f g : Nat → BellV) (w : World) (h : BellRow w A n f) (h2 : BellRow w B m g) (hf : ∀ i, i < n → (f i).n ≤ 1048576) (hg : ∀ i, i < m → (g i).n ≤ 1048576) (hn : n ≤ 1048576) (hm : m ≤ 1048576) :
    Calls Try.prog 116 #[.slice A n c, .slice B m d, .func (.func 117) #[] #[]] w fun e w' => e = .returned (.bool (allSame f g n m)) ∧ Below w.heap.size w w' := by
  have H := Lib.hid h
  have H2 := Lib.hid h2
  have HF := Lib.hid hf
  have HG := Lib.hid hg
  clear h h2 hf hg
  by_cases hne : n = m
  · subst hne
    generalize hres : allSame f g n n = R
    have HRES := Lib.hid hres
    clear hres
    go_enter Try.func116, Try.ntmps116
    go_wp2
    go_loopw [17] (fun i wr => ∃ k : Nat, k ≤ n ∧ i = .int .i64 k ∧ Hid (allB (fun i => sameV (f i) (g i)) k = true) ∧ Below w.heap.size w wr) (fun i _ => n - (intOf i).toNat)
    case atStart => exact ⟨0, by omega, rfl, rfl, Below.refl _ _⟩
    case round =>
      obtain ⟨k, hk, rfl, hgood, hbr⟩ := hrel
      by_cases hlt : k < n
      · have fn := HF.out k hlt
        have gn := HG.out k hlt
        obtain ⟨b, o, rfl, hrow⟩ := H.out (by omega)
        obtain ⟨b2, o2, rfl, hrow2⟩ := H2.out (by omega)
        obtain ⟨AK, CK, c0, c1, c2, c3, c4, c5⟩ := (hrow k hlt).keep hbr
        obtain ⟨AL, CL, d0, d1, d2, d3, d4, d5⟩ := (hrow2 k hlt).keep hbr
        have HR := Lib.hid hrow
        have HR2 := Lib.hid hrow2
        have hal := ((Below.refl wr.heap.size wr).alloc (Nat.le_refl _) (.cells #[.string (f k).id, .int .i64 (f k).no, .int .i64 (f k).ma, .int .i64 (f k).fe, .slice AK (f k).n CK] 79)).alloc (by simp) (.cells #[.string (g k).id, .int .i64 (g k).no, .int .i64 (g k).ma, .int .i64 (g k).fe, .slice AL (g k).n CL] 79)
        have C5 := Lib.hid (c5.keep hal)
        have D5 := Lib.hid (d5.keep hal)
        have hbr2 := hbr.trans (hal.mono hbr.size)
        have hal1 := (Below.refl wr.heap.size wr).alloc (Nat.le_refl _) (.cells #[.string (f k).id, .int .i64 (f k).no, .int .i64 (f k).ma, .int .i64 (f k).fe, .slice AK (f k).n CK] 79)
        have e0 := cell_keep hal1 d0
        have e1 := cell_keep hal1 d1
        have e2 := cell_keep hal1 d2
        have e3 := cell_keep hal1 d3
        have e4 := cell_keep hal1 d4
        clear hrow hrow2 c5 d5 hal hal1
        cases q1 : sameV (f k) (g k)
        · go_wp2_with (go_at_call 117; refine (sameBell_calls AK AL CK CL (f k) (g k) _ C5.out D5.out fn gn).mono ?_; rw [q1]; rintro e w1 ⟨rfl, hb⟩; have hbr3 := hbr2.trans (hb.mono hbr2.size); clear hb hbr2)
          go_ret
          exact ⟨ret_bool (by rw [← HRES.out]; unfold allSame; rw [allB_no hlt q1, Bool.and_false]), hbr3⟩
        · go_wp2_with (go_at_call 117; refine (sameBell_calls AK AL CK CL (f k) (g k) _ C5.out D5.out fn gn).mono ?_; rw [q1]; rintro e w1 ⟨rfl, hb⟩; have hbr3 := hbr2.trans (hb.mono hbr2.size); clear hb hbr2)
          go_roundw
          case rel => exact ⟨k + 1, by omega, by go_num, Lib.hid (by rw [show allB (fun i => sameV (f i) (g i)) (k + 1) = (allB (fun i => sameV (f i) (g i)) k && sameV (f k) (g k)) from rfl, hgood.out, q1]; rfl), hbr3⟩
          case measure => simp [intOf]; omega
      · obtain rfl : k = n := by omega
        go_wp2
        go_ret
        exact ⟨ret_bool (by rw [← HRES.out]; unfold allSame; rw [beq_self_eq_true, Bool.true_and]; exact hgood.out.symm), hbr⟩
  · have hz : allSame f g n m = false := by unfold allSame; rw [beq_eq_false_iff_ne.2 hne]; rfl
    rw [hz]
    have hne2 : decide (n = m) = false := decide_eq_false hne
    have hne3 : (n == m) = false := beq_eq_false_iff_ne.2 hne
    have hne4 : (((n : Nat) : Int) == ((m : Nat) : Int)) = false := beq_eq_false_iff_ne.2 (by omega)
    go_enter Try.func116, Try.ntmps116
    go_wp2
    go_ret
    exact ⟨rfl, Below.refl _ _⟩
set_option maxHeartbeats 1000000 in
theorem SameBells_calls (A B : Option Addr) (n m c d : Nat) (f g : Nat → BellV) (w : World) (h : BellRow w A n f) (h2 : BellRow w B m g) (hf : ∀ i, i < n → (f i).n ≤ 1048576) (hg : ∀ i, i < m → (g i).n ≤ 1048576) (hn : n ≤ 1048576) (hm : m ≤ 1048576) :
    Calls Try.prog 65 #[.slice A n c, .slice B m d] w fun e w' => e = .returned (.bool (allSame f g n m)) ∧ Below w.heap.size w w' := by
  have HC := Lib.hid (equalBells_calls A B n m c d f g w h h2 hf hg hn hm)
  clear h h2 hf hg
  go_enter Try.func65, Try.ntmps65
  go_wp2_with (go_at_call 116; refine HC.out.mono ?_; rintro e w1 ⟨rfl, hb⟩)
  go_ret
  exact ⟨rfl, hb⟩
set_option maxHeartbeats 4000000 in
theorem sSameBells_calls (A B : Option Addr) (n m c d : Nat) (f g : Nat → BellV) (w : World) (h : BellRow w A n f) (h2 : BellRow w B m g) (hf : ∀ i, i < n → (f i).n ≤ 1048576) (hg : ∀ i, i < m → (g i).n ≤ 1048576) (hn : n ≤ 1048576) (hm : m ≤ 1048576) :
    Calls Try.prog 64 #[.slice A n c, .slice B m d] w fun e w' => e = .returned (.bool (allSame f g n m)) ∧ ∃ q, w' = w.drewN q := by
  have H := Lib.hid h
  have H2 := Lib.hid h2
  have HF := Lib.hid hf
  have HG := Lib.hid hg
  clear h h2 hf hg
  by_cases hne : n = m
  · subst hne
    generalize hres : allSame f g n n = R
    have HRES := Lib.hid hres
    clear hres
    go_enter Try.func64, Try.ntmps64
    go_wp2
    go_loopw [5] (fun i wr => ∃ k : Nat, k ≤ n ∧ i = .int .i64 k ∧ Hid (allB (fun i => sameV (f i) (g i)) k = true) ∧ Hid (∃ m, wr = w.drewN m)) (fun i _ => n - (intOf i).toNat)
    case atStart => exact ⟨0, by omega, rfl, rfl, Lib.hid ⟨0, rfl⟩⟩
    case round =>
      obtain ⟨k, hk, rfl, hgood, hwr⟩ := hrel
      by_cases hlt : k < n
      · have fn := HF.out k hlt
        have gn := HG.out k hlt
        obtain ⟨b, o, rfl, hrow⟩ := H.out (by omega)
        obtain ⟨b2, o2, rfl, hrow2⟩ := H2.out (by omega)
        have x1 : BellAt wr b (o + k * 5) (f k) := by obtain ⟨m, hm⟩ := hwr.out; rw [hm]; exact hrow k hlt
        have x2 : BellAt wr b2 (o2 + k * 5) (g k) := by obtain ⟨m, hm⟩ := hwr.out; rw [hm]; exact hrow2 k hlt
        have HR := Lib.hid hrow
        have HR2 := Lib.hid hrow2
        have hcall := fun m => l18Same_calls b (o + k * 5) b2 (o2 + k * 5) (f k) (g k) (wr.drewN m) x1 x2 fn gn
        clear hrow hrow2 x1 x2
        cases q1 : sameV (f k) (g k)
        · rw [q1] at hcall
          have HC := Lib.hid hcall
          clear hcall
          go_wp2_with fail
          go_quiet ((go_at_call 115; with_reducible exact quiet_more (HC.out _)))
          go_wp2
          go_ret
          exact ⟨ret_bool (by rw [← HRES.out]; unfold allSame; rw [allB_no hlt q1, Bool.and_false]), by obtain ⟨m, hm⟩ := hwr.out; rw [hm]; exact ⟨_, World.drewN_drewN _ _ _⟩⟩
        · rw [q1] at hcall
          have HC := Lib.hid hcall
          clear hcall
          go_wp2_with fail
          go_quiet ((go_at_call 115; with_reducible exact quiet_more (HC.out _)))
          go_wp2
          go_roundw
          case rel => exact ⟨k + 1, by omega, by go_num, Lib.hid (by rw [show allB (fun i => sameV (f i) (g i)) (k + 1) = (allB (fun i => sameV (f i) (g i)) k && sameV (f k) (g k)) from rfl, hgood.out, q1]; rfl), Lib.hid (by obtain ⟨m, hm⟩ := hwr.out; rw [hm]; exact ⟨_, World.drewN_drewN _ _ _⟩)⟩
          case measure => simp [intOf]; omega
      · obtain rfl : k = n := by omega
        go_wp2
        go_ret
        exact ⟨ret_bool (by rw [← HRES.out]; unfold allSame; rw [beq_self_eq_true, Bool.true_and]; exact hgood.out.symm), hwr.out⟩
  · have hz : allSame f g n m = false := by unfold allSame; rw [beq_eq_false_iff_ne.2 hne]; rfl
    rw [hz]
    have hne2 : decide (n = m) = false := decide_eq_false hne
    have hne3 : (n == m) = false := beq_eq_false_iff_ne.2 hne
    have hne4 : (((n : Nat) : Int) == ((m : Nat) : Int)) = false := beq_eq_false_iff_ne.2 (by omega)
    go_enter Try.func64, Try.ntmps64
    go_wp2
    go_ret
    exact ⟨rfl, 0, rfl⟩
end Go.Proofs.Ytgifojplglgcpaa
