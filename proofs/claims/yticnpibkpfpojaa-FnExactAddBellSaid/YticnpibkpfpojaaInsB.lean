/- slices.Insert over bells, one bell put into a row of the call's own. -/
import Derived.Test.YticnpibkpfpojaaAddB
import Derived.Lib.AppendZerosOnto
import Derived.Lib.Overlaps
import Derived.Laws.CopyOwn
import Derived.Shelf.Spec.SlicesInsert
namespace Go.Proofs.Yticnpibkpfpojaa
set_option linter.unusedVariables false
open Go.RowKit

theorem run_copy_rowS {P : Program} (w : World) (dT sT ty elem : TypeId) (i : TypeInfo) (hu : P.underlying dT = some (.slice elem)) (hi : P.info? elem = some i) (g o dLen dCap : Nat) (a : Addr) (sLen sCap : Nat) (cur : Array Value) (t : TypeId) (cs : List Value) (m : Nat) (hm : m = Nat.min sLen dLen) (hl : cs.length = m * i.size)
    (hg : w.heap[g]? = some (.cells cur t (0, 0))) (hsrc : ∀ j v, cs[j]? = some v → w.cell? (a.add j) = some v) (hfit : o + cs.length ≤ cur.size) (h1 : ∀ v ∈ cs, v.oneCell' = true) :
    (Builtin.copy_ #[dT, sT] ty #[.slice (some ⟨g, o, none⟩) dLen dCap, .slice (some a) sLen sCap]).run P w = .ok (goInt m) (w.setRow g (cur.toList.take o ++ cs ++ cur.toList.drop (o + cs.length)).toArray) := by
  have hf := run_firstCells_some (P := P) w i.size m a sLen sCap cs hl hsrc
  have hst := run_storeCells_at P g o t cs 0 cur w hg (by simpa using hfit) h1
  simp [Builtin.copy_, run_underlying hu, Builtin.lenOf, sizeOf, typeInfo, hi, ← hm, hf, hst]
theorem grownBy_setRow (w : World) (g : Nat) (cs : Array Value) : w.grownBy (w.setRow g cs) (some g) :=
  ⟨rfl, rfl, rfl, by simp [World.setRow], fun k hk hne => setRow_other w g k cs (fun e => hne (by rw [e]))⟩
theorem gb_join {w W1 W2 W3 : World} {N : Nat} (h1 : w.grownBy W1 none) (h2 : W1.grownBy W2 (some N)) (h3 : W2.grownBy W3 (some N)) (hN : w.heap.size ≤ N) (row : Option Nat) : w.grownBy W3 row := by
  have s1 := h1.size
  have s2 := h2.size
  have s3 := h3.size
  refine ⟨h3.os.trans (h2.os.trans h1.os), h3.tape.trans (h2.tape.trans h1.tape), h3.output.trans (h2.output.trans h1.output), by omega, fun j hj _ => ?_⟩
  rw [h3.block j (by omega) (fun e => by have := Option.some.inj e; omega), h2.block j (by omega) (fun e => by have := Option.some.inj e; omega), h1.block j hj (by simp)]
theorem grownBy_drew (w : World) (row : Option Nat) : w.grownBy w.drew row := ⟨rfl, rfl, rfl, Nat.le_refl _, fun _ _ _ => rfl⟩
theorem wpList_copy_S {P : Program} {w : World} {ops : Array Oper} {rest : List Oper} {o : Oper} {a : Act} {Q : Exit → Act → World → Prop} (hgd : o.guard = none) (d s : Operand) (dT sT : TypeId)
    (ho : o.op = .call { callee := .builtin .copy, args := #[d, s], argTypes := #[dT, sT] }) (elem : TypeId) (i : TypeInfo) (hu : P.underlying dT = some (.slice elem)) (hi : P.info? elem = some i)
    (g off dLen dCap : Nat) (ad : Addr) (sLen sCap : Nat) (hd : a.eval d = .slice (some ⟨g, off, none⟩) dLen dCap) (hs : a.eval s = .slice (some ad) sLen sCap)
    (cur : List Value) (t : TypeId) (hg : w.heap[g]? = some (.cells cur.toArray t (0, 0))) (cs : List Value) (m : Nat) (hm : m = Nat.min sLen dLen) (hl : cs.length = m * i.size)
    (hsrc : ∀ j v, cs[j]? = some v → w.cell? (ad.add j) = some v) (hfit : off + cs.length ≤ cur.length) (h1 : ∀ v ∈ cs, v.oneCell' = true)
    (h : ∀ w', Hid (w'.heap[g]? = some (.cells (splice cur off cs).toArray t (0, 0))) → Hid (w.grownBy w' (some g)) → wpList P ops Q rest (a.put o.dst (goInt m)) w') : wpList P ops Q (o :: rest) a w := by
  refine wpList_plain hgd fun K hK => ?_
  have hrun := run_copy_rowS (P := P) w dT sT o.type elem i hu hi g off dLen dCap ad sLen sCap cur.toArray t cs m hm hl hg hsrc (by simpa using hfit) h1
  unfold Oper.wp
  simp [execOp, ho, resolve, invoke, builtin, hd, hs, hrun, Result.andThen]
  exact hK _ _ (h _ (show _ = _ by simpa [splice] using setRow_heap w g _ _ t _ hg) (grownBy_setRow w g _))
theorem step_copy_S {P : Program} {ops : Array Oper} {o : Oper} {a : Act} {w : World} {K : Act → World → Prop} {Q : Exit → Act → World → Prop} {E : Prop} (hgd : o.guard = none) (d s : Operand) (dT sT : TypeId)
    (ho : o.op = .call { callee := .builtin .copy, args := #[d, s], argTypes := #[dT, sT] }) (elem : TypeId) (i : TypeInfo) (hu : P.underlying dT = some (.slice elem)) (hi : P.info? elem = some i)
    (g off dLen dCap : Nat) (ad : Addr) (sLen sCap : Nat) (hd : a.eval d = .slice (some ⟨g, off, none⟩) dLen dCap) (hs : a.eval s = .slice (some ad) sLen sCap)
    (cur : List Value) (t : TypeId) (hg : w.heap[g]? = some (.cells cur.toArray t (0, 0))) (cs : List Value) (m : Nat) (hm : m = Nat.min sLen dLen) (hl : cs.length = m * i.size)
    (hsrc : ∀ j v, cs[j]? = some v → w.cell? (ad.add j) = some v) (hfit : off + cs.length ≤ cur.length) (h1 : ∀ v ∈ cs, v.oneCell' = true)
    (h : ∀ w', Hid (w'.heap[g]? = some (.cells (splice cur off cs).toArray t (0, 0))) → Hid (w.grownBy w' (some g)) → K (a.put o.dst (goInt m)) w') :
    if Region.wanted o (yielded ops a.tmps) = true then Oper.wp P o a w K Q else E := by
  have hw : Region.wanted o (yielded ops a.tmps) = true := by simp [Region.wanted, hgd]
  rw [if_pos hw]
  have hrun := run_copy_rowS (P := P) w dT sT o.type elem i hu hi g off dLen dCap ad sLen sCap cur.toArray t cs m hm hl hg hsrc (by simpa using hfit) h1
  unfold Oper.wp
  simp [execOp, ho, resolve, invoke, builtin, hd, hs, hrun, Result.andThen]
  exact h _ (show _ = _ by simpa [splice] using setRow_heap w g _ _ t _ hg) (grownBy_setRow w g _)
def InsOut (base n k : Nat) (v : Value) (xs news : List Value) (w : World) (e : Ending) (w' : World) : Prop := ∃ v', e = .returned v' ∧ w'.ownsRow base 38 5 v' (n + 1) (xs.take (k * 5) ++ news ++ xs.drop (k * 5)) ∧ w.grownBy w' v.ownBlock
set_option maxRecDepth 20000 in
set_option maxHeartbeats 4000000 in
theorem insBell_end (base n : Nat) (A : Option Addr) (c : Nat) (xs : List Value) (w : World) (hown : w.ownsRow base 38 5 (.slice A n c) n xs) (hn : n ≤ 1048576) (vb : Nat) (news : List Value) (hl : news.length = 5) (hnews : ∀ j u, news[j]? = some u → w.cell? ((⟨vb, 0, none⟩ : Addr).add j) = some u) (h1 : ∀ u ∈ news, u.oneCell' = true) (hbase : base ≤ w.heap.size) :
    Calls Try.prog 37 #[.slice A n c, .int .i64 n, .slice (some ⟨vb, 0, none⟩) 1 1] w (InsOut base n n (.slice A n c) xs news w) := by
  obtain ⟨i0, hi, hz0, hz1, hz2⟩ := info_parts BellI_info
  have HO := Lib.hid hown
  have HN := Lib.hid hnews
  have hxl := hown.1
  have hnc : n ≤ c := by
    rcases hown.2 with ⟨q, q2⟩ | ⟨g, cap, cur, q, -, -, q2, -⟩
    · omega
    · injection q with _ _ q3; omega
  have hcm : c ≤ 9223372036854775807 := by
    rcases hown.2 with ⟨q, q2⟩ | ⟨g, cap, cur, q, -, -, -, q2, -⟩
    · injection q with _ _ q3; omega
    · unfold maxLen at q2; injection q with _ _ q3; omega
  clear hown hnews
  go_enter Try.func37, Try.ntmps37
  go_wp2_with (at_builtin; refine wpList_append_own _ rfl _ _ 30 rfl base 38 i0 (.agg #[.string ⟨#[]⟩, .int .i64 0, .int .i64 0, .int .i64 0, .slice none 0 0]) 5 64 Try.underlying30 hi hz0 hz1 hz2 rfl (by decide) _ _ _ rfl HO.out ⟨vb, 0, none⟩ 1 1 news rfl (by omega) HN.out h1 (by unfold maxLen; omega) (by omega) hbase ?_; intro v9 w9 hown' hgrow _; refine Hid.out ?_)
  all_goals refine Lib.hid ?_
  all_goals go_wp2
  all_goals go_ret
  all_goals exact ⟨v9, rfl, by rw [List.take_of_length_le (by omega), List.drop_eq_nil_of_le (by omega), List.append_nil]; exact hown', hgrow⟩
theorem addr0 (g o j : Nat) : (⟨g, o, none⟩ : Addr).add j = ⟨g, o + j, none⟩ := by unfold Addr.add; split <;> simp_all
theorem cell_row {w : World} {g : Nat} {cur : List Value} {t : TypeId} (h : w.heap[g]? = some (.cells cur.toArray t (0, 0))) {o : Nat} {cs : List Value} (hc : ∀ j v, cs[j]? = some v → cur[o + j]? = some v) : ∀ j v, cs[j]? = some v → w.cell? ((⟨g, o, none⟩ : Addr).add j) = some v := fun j v hj => by
  rw [addr0]
  have := hc j v hj
  simp [World.cell?, h, this]
set_option maxRecDepth 20000 in
set_option maxHeartbeats 4000000 in
theorem insBell_grow (base n k g c : Nat) (xs : List Value) (w : World) (hown : w.ownsRow base 38 5 (.slice (some ⟨g, 0, none⟩) n c) n xs) (hk : k < n) (hn : n ≤ 1048576) (hc : c < n + 1) (vb : Nat) (news : List Value) (hl : news.length = 5) (hnews : ∀ j u, news[j]? = some u → w.cell? ((⟨vb, 0, none⟩ : Addr).add j) = some u) (h1 : ∀ u ∈ news, u.oneCell' = true) (h1x : ∀ u ∈ xs, u.oneCell' = true) (hbase : base ≤ w.heap.size) :
    Calls Try.prog 37 #[.slice (some ⟨g, 0, none⟩) n c, .int .i64 k, .slice (some ⟨vb, 0, none⟩) 1 1] w (InsOut base n k (.slice (some ⟨g, 0, none⟩) n c) xs news w) := by
  obtain ⟨i0, hi, hz0, hz1, hz2⟩ := info_parts BellI_info
  have hxl := hown.1
  obtain ⟨cur, hgc, hnc, hcm, hcs, htk⟩ : ∃ cur : Array Value, w.heap[g]? = some (.cells cur 38 (0, 0)) ∧ n ≤ c ∧ c ≤ maxLen ∧ cur.size = c * 5 ∧ cur.toList.take (n * 5) = xs := by
    rcases hown.2 with ⟨q, q2⟩ | ⟨g2, cap, cur, q, -, q1, q2, q3, q4, q5⟩
    · omega
    · injection q with q6 _ q7
      injection q6 with q6
      injection q6 with q6
      subst q6; subst q7
      exact ⟨cur, q1, q2, q3, q4, q5⟩
  have hgl : g < w.heap.size := (Array.getElem?_eq_some_iff.1 hgc).1
  have hvl : vb < w.heap.size := block_lt_of_cell (hnews 0 _ (List.getElem?_eq_getElem (by omega)))
  have hxsg : ∀ (W : World), W.heap[g]? = w.heap[g]? → ∀ j v, xs[j]? = some v → W.cell? ⟨g, j, none⟩ = some v := fun W hW j v hj => by
    have hj2 : j < n * 5 := by
      rcases Nat.lt_or_ge j (n * 5) with q | q
      · exact q
      · rw [List.getElem?_eq_none (by omega)] at hj; cases hj
    rw [← htk, List.getElem?_take, if_pos hj2] at hj
    simp [World.cell?, hW, hgc]
    simpa using hj
  have hold : (Builtin.firstCells i0.size k (.slice (some ⟨g, 0, none⟩) k c)).run Try.prog w.drew = .ok (xs.take (k * 5)).toArray w.drew := by
    rw [hz1]
    exact run_firstCells_some w.drew 5 k ⟨g, 0, none⟩ k c (xs.take (k * 5)) (by rw [List.length_take]; omega) (fun j v hj => by
      rw [addr0, Nat.zero_add]
      rw [List.getElem?_take] at hj
      split at hj
      · exact hxsg w.drew rfl j v hj
      · cases hj)
  have hkk : (n : Int) + 1 - k = ((n + 1 - k : Nat) : Int) := by omega
  have hik : k + (n + 1 - k) = n + 1 := by omega
  have hrz : ∀ ty, (Builtin.append_ #[30, 3] ty #[.slice (some ⟨g, 0, none⟩) k c, .int .i64 ((n : Int) + 1 - k)]).run Try.prog w = .ok (.slice (some ⟨w.heap.size, 0, none⟩) (n + 1) (grownCap w (n + 1) c 38)) (w.drew.alloc (.cells ((xs.take (k * 5)).toArray ++ Builtin.zeroCells ((.agg #[.string ⟨#[]⟩, .int .i64 0, .int .i64 0, .int .i64 0, .slice none 0 0]) : Value).cells (n + 1 - k) ++ Builtin.zeroCells ((.agg #[.string ⟨#[]⟩, .int .i64 0, .int .i64 0, .int .i64 0, .slice none 0 0]) : Value).cells (grownCap w (n + 1) c 38 - (n + 1))) 38)) := fun ty => by
    have h := Lib.run_append_grow_zeros w 30 3 ty 38 i0 _ .i64 .i64 Try.underlying30 Try.underlying3 hi hz0 (some ⟨g, 0, none⟩) k c (xs.take (k * 5)) hold (n + 1 - k) (by omega) (by omega) (by omega) (by omega) (by rw [hz2]; omega) (by rw [hz2, hik]; exact growslice_fits (by omega) (by omega))
    rw [hik] at h
    rw [hkk]
    exact h
  obtain ⟨G, hG⟩ : ∃ G, G = grownCap w (n + 1) c 38 := ⟨_, rfl⟩
  have hGn : n + 1 ≤ G := by rw [hG]; exact grownCap_ge w _ _ _
  have hG63 : G ≤ maxLen := by rw [hG]; exact grownCap_le_maxLen w (n + 1) c 38 (by unfold maxLen; omega)
  obtain ⟨ROW, hROW⟩ : ∃ ROW : List Value, ROW = xs.take (k * 5) ++ ((Builtin.zeroCells ((.agg #[.string ⟨#[]⟩, .int .i64 0, .int .i64 0, .int .i64 0, .slice none 0 0]) : Value).cells (n + 1 - k)).toList ++ (Builtin.zeroCells ((.agg #[.string ⟨#[]⟩, .int .i64 0, .int .i64 0, .int .i64 0, .slice none 0 0]) : Value).cells (G - (n + 1))).toList) := ⟨_, rfl⟩
  have hRa : (xs.take (k * 5)).toArray ++ Builtin.zeroCells ((.agg #[.string ⟨#[]⟩, .int .i64 0, .int .i64 0, .int .i64 0, .slice none 0 0]) : Value).cells (n + 1 - k) ++ Builtin.zeroCells ((.agg #[.string ⟨#[]⟩, .int .i64 0, .int .i64 0, .int .i64 0, .slice none 0 0]) : Value).cells (G - (n + 1)) = ROW.toArray := by
    rw [hROW]; apply Array.ext'; simp
  rw [← hG, hRa] at hrz
  have hRl : ROW.length = G * 5 := by
    rw [hROW]
    simp [Builtin.zeroCells, Value.cells]
    omega
  have hRt : ROW.take (k * 5) = xs.take (k * 5) := by
    rw [hROW, List.take_append_of_le_length (by rw [List.length_take]; omega), List.take_take, Nat.min_self]
  obtain ⟨W1, hW1⟩ : ∃ W1, W1 = w.drew.alloc (.cells ROW.toArray 38) := ⟨_, rfl⟩
  obtain ⟨N, hN⟩ : ∃ N, N = w.heap.size := ⟨_, rfl⟩
  rw [← hW1] at hrz
  have HG1 : Hid (W1.heap[N]? = some (.cells ROW.toArray 38 (0, 0))) := Lib.hid (by rw [hW1, hN]; exact heap_alloc_new w.drew _)
  have HB1 : Hid (w.grownBy W1 none) := Lib.hid (by rw [hW1]; exact ⟨rfl, rfl, rfl, by simp, fun j hj _ => heap_alloc_old w.drew _ hj⟩)
  obtain ⟨Y, hY⟩ : ∃ Y, Y = xs.drop (k * 5) := ⟨_, rfl⟩
  have hYl : Y.length = (n - k) * 5 := by rw [hY, List.length_drop, hxl]; omega
  have hY1 : ∀ u ∈ Y, u.oneCell' = true := fun u hu => by rw [hY] at hu; exact h1x u (List.mem_of_mem_drop hu)
  have HYS : Hid (∀ (W : World), W.heap[g]? = w.heap[g]? → ∀ j v, Y[j]? = some v → W.cell? ((⟨g, k * 5, none⟩ : Addr).add j) = some v) := Lib.hid (fun W hW j v hj => by
    rw [addr0]
    rw [hY, List.getElem?_drop] at hj
    exact hxsg W hW _ _ hj)
  have HVS : Hid (∀ (W : World), W.heap[vb]? = w.heap[vb]? → ∀ j v, news[j]? = some v → W.cell? ((⟨vb, 0, none⟩ : Addr).add j) = some v) := Lib.hid (fun W hW j v hj => by
    have := hnews j v hj
    rw [addr0] at this ⊢
    rw [World.cell?_of_block (show W.heap[(⟨vb, 0 + j, none⟩ : Addr).block]? = w.heap[vb]? from hW)]
    exact this)
  have hfin : Hid ((splice (splice ROW (k * 5) news) ((k + 1) * 5) Y).length = G * 5 ∧ (splice (splice ROW (k * 5) news) ((k + 1) * 5) Y).take ((n + 1) * 5) = xs.take (k * 5) ++ news ++ Y) := Lib.hid (by
    have e1 : (splice ROW (k * 5) news).length = G * 5 := by rw [length_splice _ _ _ (by omega), hRl]
    have e2 : (splice ROW (k * 5) news).take ((k + 1) * 5) = xs.take (k * 5) ++ news := by
      unfold splice
      rw [hRt, ← List.append_assoc, List.take_append_of_le_length (by rw [List.length_append, List.length_take]; omega), List.take_of_length_le (by rw [List.length_append, List.length_take]; omega)]
    refine ⟨by rw [length_splice _ _ _ (by omega), e1], ?_⟩
    show (List.take ((k + 1) * 5) (splice ROW (k * 5) news) ++ (Y ++ _)).take ((n + 1) * 5) = _
    rw [e2, ← List.append_assoc, List.take_append_of_le_length (by simp only [List.length_append, List.length_take]; omega), List.take_of_length_le (by simp only [List.length_append, List.length_take]; omega)])
  have hw1 : IntKind.i64.wrap ((k : Int) + 1) = (k : Int) + 1 := IntWalk.i64_in _ ⟨by omega, by omega⟩
  unfold maxLen at hG63
  have HRL := Lib.hid hRl
  have hNn : N = w.heap.size := hN
  have HNN := Lib.hid hN
  rw [← hN] at hrz
  have HRZ := Lib.hid hrz
  have HY1 := Lib.hid hY1
  have HYL := Lib.hid hYl
  have HYY := Lib.hid hY
  have HGC := Lib.hid hgc
  clear hrz hY hYl hY1 hRt hRa hROW hG hold hkk hik hxsg hgc htk hcs hW1 hnews hRl hN hNn
  have hgN : g ≠ N := by rw [HNN.out]; omega
  have hb1 : (0 : Int) ≤ (k : Int) + 1 := by omega
  have hb2 : ¬ G = k + 1 := by omega
  have hb3 : ¬ G = k := by omega
  have hb4 : ¬ c = k := by omega
  have hb5 : k ≤ n := by omega
  have mixed : Try.prog.follows .mixedOrders = true := by kernel_rfl
  go_enter Try.func37, Try.ntmps37
  have hcpA := fun ty dc => run_copy_rowS (P := Try.prog) W1 30 30 ty 38 i0 Try.underlying30 hi N (k * 5) (n + 1 - k) dc ⟨vb, 0, none⟩ 1 1 ROW.toArray 38 news 1 (by simp only [Nat.min_def]; split <;> omega) (by rw [hz1, hl]) HG1.out (HVS.out W1 (HB1.out.block vb hvl (by simp))) (by simp only [List.size_toArray]; rw [HRL.out]; omega) h1
  obtain ⟨W2, hW2⟩ : ∃ W2, W2 = W1.setRow N (ROW.toArray.toList.take (k * 5) ++ news ++ ROW.toArray.toList.drop (k * 5 + news.length)).toArray := ⟨_, rfl⟩
  rw [← hW2] at hcpA
  have HR2 : Hid (W2.heap[N]? = some (.cells (splice ROW (k * 5) news).toArray 38 (0, 0))) := Lib.hid (by
    rw [hW2, setRow_heap W1 N _ _ 38 _ HG1.out]; simp [splice])
  have HG2 : Hid (W1.grownBy W2 (some N)) := Lib.hid (by rw [hW2]; exact grownBy_setRow _ _ _)
  clear hW2
  have HCB : Hid (∀ {ops : Array Oper} {o : Oper} {a : Act} {K : Act → World → Prop} {Q : Exit → Act → World → Prop} {E : Prop} (W : World) (hgd : o.guard = none) (d s : Operand) (ho : o.op = .call { callee := .builtin .copy, args := #[d, s], argTypes := #[30, 30] }) (dc sc : Nat) (hd : a.eval d = .slice (some ⟨N, (k + 1) * 5, none⟩) (n - k) dc) (hs : a.eval s = .slice (some ⟨g, k * 5, none⟩) (n - k) sc) (hW : W.heap[N]? = some (.cells (splice ROW (k * 5) news).toArray 38 (0, 0))) (hWg : W.heap[g]? = w.heap[g]?) (h : ∀ w', Hid (w'.heap[N]? = some (.cells (splice (splice ROW (k * 5) news) ((k + 1) * 5) Y).toArray 38 (0, 0))) → Hid (W.grownBy w' (some N)) → K (a.put o.dst (goInt (n - k : Nat))) w'), if Region.wanted o (yielded ops a.tmps) = true then Oper.wp Try.prog o a W K Q else E) := Lib.hid (fun W hgd d s ho dc sc hd hs hW hWg h =>
    step_copy_S hgd d s _ _ ho 38 i0 Try.underlying30 hi N ((k + 1) * 5) (n - k) dc ⟨g, k * 5, none⟩ (n - k) sc hd hs (splice ROW (k * 5) news) _ hW Y (n - k) (by simp only [Nat.min_def]; split <;> omega) (by rw [hz1, HYL.out]) (HYS.out W hWg) (by rw [HYL.out, length_splice _ _ _ (by rw [HRL.out]; omega), HRL.out]; omega) HY1.out h)
  go_wp2_with (at_builtin; refine Lib.wpList_append_run _ rfl _ _ _ _ rfl _ _ rfl rfl _ _ (HRZ.out _) ?_)
  go_region_law_o (refine HCB.out _ rfl _ _ rfl (G - (k + 1)) (c - k) (by simp [Act.eval, Act.put]) (by simp [Act.eval, Act.put]) HR2.out ((HG2.out.block g (by have := HB1.out.size; omega) (fun e => hgN (Option.some.inj e))).trans (HB1.out.block g hgl (by simp))) ?_; intro W3 HR3 HG3)
  go_wp2
  go_ret
  refine ⟨_, rfl, ⟨?_, .inr ⟨N, G, _, rfl, by rw [HNN.out]; exact hbase, HR3.out, hGn, hG63, ?_, ?_⟩⟩, ?_⟩
  · have := hfin.out.2
    rw [HYY.out] at this
    rw [← this, ← HYY.out, List.length_take, hfin.out.1]
    omega
  · simp only [List.size_toArray]
    exact hfin.out.1
  · show List.take ((n + 1) * 5) _ = _
    rw [hfin.out.2, HYY.out]
  · exact gb_join HB1.out HG2.out ⟨HG3.out.os, HG3.out.tape, HG3.out.output, HG3.out.size, HG3.out.block⟩ (Nat.le_of_eq HNN.out.symm) _
theorem gb_two {w W1 W2 : World} {g : Nat} (h1 : w.grownBy W1 (some g)) (h2 : W1.grownBy W2 (some g)) : w.grownBy W2 (some g) :=
  ⟨h2.os.trans h1.os, h2.tape.trans h1.tape, h2.output.trans h1.output, Nat.le_trans h1.size h2.size, fun j hj hne => (h2.block j (Nat.lt_of_lt_of_le hj h1.size) hne).trans (h1.block j hj hne)⟩
set_option maxRecDepth 20000 in
set_option maxHeartbeats 4000000 in
theorem insBell_room (base n k g c : Nat) (xs : List Value) (w : World) (hown : w.ownsRow base 38 5 (.slice (some ⟨g, 0, none⟩) n c) n xs) (hk : k < n) (hn : n ≤ 1048576) (hc : n + 1 ≤ c) (vb : Nat) (varr : Array Value) (hvB : Blk w vb 38 varr) (hvg : vb ≠ g) (news : List Value) (hl : news.length = 5) (hnews : ∀ j u, news[j]? = some u → w.cell? ((⟨vb, 0, none⟩ : Addr).add j) = some u) (h1 : ∀ u ∈ news, u.oneCell' = true) (h1x : ∀ u ∈ xs, u.oneCell' = true) :
    Calls Try.prog 37 #[.slice (some ⟨g, 0, none⟩) n c, .int .i64 k, .slice (some ⟨vb, 0, none⟩) 1 1] w (InsOut base n k (.slice (some ⟨g, 0, none⟩) n c) xs news w) := by
  obtain ⟨i0, hi, hz0, hz1, hz2⟩ := info_parts BellI_info
  have hxl := hown.1
  obtain ⟨cur, hgc, hbg, hcm, hcs, htk⟩ : ∃ cur : Array Value, w.heap[g]? = some (.cells cur 38 (0, 0)) ∧ base ≤ g ∧ c ≤ maxLen ∧ cur.size = c * 5 ∧ cur.toList.take (n * 5) = xs := by
    rcases hown.2 with ⟨q, q2⟩ | ⟨g2, cap, cur, q, q0, q1, q2, q3, q4, q5⟩
    · omega
    · injection q with q6 _ q7
      injection q6 with q6
      injection q6 with q6
      subst q6; subst q7
      exact ⟨cur, q1, q0, q3, q4, q5⟩
  have hgl : g < w.heap.size := (Array.getElem?_eq_some_iff.1 hgc).1
  have hvl : vb < w.heap.size := block_lt_of_cell (hnews 0 _ (List.getElem?_eq_getElem (by omega)))
  have hov : ∀ lb cb, (callFunc 67 #[.slice (some ⟨vb, 0, none⟩) 1 1, .slice (some ⟨g, (k + 1) * 5, none⟩) lb cb]).run Try.prog w = .ok (.value (.bool false)) w := fun lb cb => by
    rw [run_callFunc_extern Try.func67 (by kernel_rfl) (by kernel_rfl) (by kernel_rfl) (e := Extern.SlicesOverlaps.overlaps #[30, 30] #[4]) (by kernel_rfl),
      Lib.run_overlaps_apart w 30 4 38 Try.underlying30 5 (fun W => by simp [Go.sizeOf, typeInfo, hi, hz1]) ⟨vb, 0, none⟩ ⟨g, (k + 1) * 5, none⟩ 1 1 lb cb hvg 38 38 varr.size cur.size (by show World.shape? w vb = _; unfold World.shape?; rw [show w.heap[vb]? = _ from hvB]) (by show World.shape? w g = _; unfold World.shape?; rw [hgc]) (by omega) (hvB.frozen 0) (hvB.frozen varr.size)]
    rfl
  obtain ⟨Y, hY⟩ : ∃ Y, Y = xs.drop (k * 5) := ⟨_, rfl⟩
  have hYl : Y.length = (n - k) * 5 := by rw [hY, List.length_drop, hxl]; omega
  have hY1 : ∀ u ∈ Y, u.oneCell' = true := fun u hu => by rw [hY] at hu; exact h1x u (List.mem_of_mem_drop hu)
  have HYS : Hid (∀ (W : World), W.heap[g]? = w.heap[g]? → ∀ j v, Y[j]? = some v → W.cell? ((⟨g, k * 5, none⟩ : Addr).add j) = some v) := Lib.hid (fun W hW j v hj => by
    rw [addr0]
    rw [hY, List.getElem?_drop] at hj
    have hj2 : k * 5 + j < n * 5 := by
      rcases Nat.lt_or_ge (k * 5 + j) (n * 5) with q | q
      · exact q
      · rw [List.getElem?_eq_none (by omega)] at hj; cases hj
    rw [← htk, List.getElem?_take, if_pos hj2] at hj
    simp [World.cell?, hW, hgc]
    simpa using hj)
  have HVS : Hid (∀ (W : World), W.heap[vb]? = w.heap[vb]? → ∀ j v, news[j]? = some v → W.cell? ((⟨vb, 0, none⟩ : Addr).add j) = some v) := Lib.hid (fun W hW j v hj => by
    have := hnews j v hj
    rw [addr0] at this ⊢
    rw [World.cell?_of_block (show W.heap[(⟨vb, 0 + j, none⟩ : Addr).block]? = w.heap[vb]? from hW)]
    exact this)
  obtain ⟨R1, hR1⟩ : ∃ R1, R1 = splice cur.toList ((k + 1) * 5) Y := ⟨_, rfl⟩
  have hR1l : R1.length = c * 5 := by rw [hR1, length_splice _ _ _ (by simp; omega)]; simpa using hcs
  have hfin : Hid ((splice R1 (k * 5) news).length = c * 5 ∧ (splice R1 (k * 5) news).take ((n + 1) * 5) = xs.take (k * 5) ++ news ++ Y) := Lib.hid (by
    refine ⟨by rw [length_splice _ _ _ (by omega), hR1l], ?_⟩
    have e1 : R1.take (k * 5) = xs.take (k * 5) := by
      rw [hR1]
      show (cur.toList.take ((k + 1) * 5) ++ _).take (k * 5) = _
      rw [List.take_append_of_le_length (by rw [List.length_take]; simp; omega), List.take_take, show min (k * 5) ((k + 1) * 5) = k * 5 by omega, ← htk, List.take_take, show min (k * 5) (n * 5) = k * 5 by omega]
    have e2 : R1.drop (k * 5 + 5) = Y ++ cur.toList.drop ((k + 1) * 5 + Y.length) := by
      rw [hR1]
      show (cur.toList.take ((k + 1) * 5) ++ _).drop (k * 5 + 5) = _
      rw [List.drop_append_of_le_length (by rw [List.length_take]; simp; omega), List.drop_eq_nil_of_le (by rw [List.length_take]; omega), List.nil_append]
    show (R1.take (k * 5) ++ (news ++ R1.drop (k * 5 + news.length))).take ((n + 1) * 5) = _
    rw [e1, hl, e2, ← List.append_assoc, ← List.append_assoc, List.take_append_of_le_length (by simp only [List.length_append, List.length_take]; omega), List.take_of_length_le (by simp only [List.length_append, List.length_take]; omega)])
  have hw1 : IntKind.i64.wrap ((k : Int) + 1) = (k : Int) + 1 := IntWalk.i64_in _ ⟨by omega, by omega⟩
  unfold maxLen at hcm
  have HY1 := Lib.hid hY1
  have HYL := Lib.hid hYl
  have HYY := Lib.hid hY
  have HGC := Lib.hid hgc
  have HR1 := Lib.hid hR1
  have HR1L := Lib.hid hR1l
  have HCS := Lib.hid hcs
  have hb1 : (0 : Int) ≤ (k : Int) + 1 := by omega
  have hb2 : ¬ c = k + 1 := by omega
  have hb4 : ¬ c = k := by omega
  have hb5 : k ≤ n := by omega
  have hb6 : (k : Int) ≤ (n : Int) + 1 := by omega
  have mixed : Try.prog.follows .mixedOrders = true := by kernel_rfl
  have HCB : Hid (∀ {ops : Array Oper} {o : Oper} {a : Act} {K : Act → World → Prop} {Q : Exit → Act → World → Prop} {E : Prop} (W : World) (hgd : o.guard = none) (d s : Operand) (ho : o.op = .call { callee := .builtin .copy, args := #[d, s], argTypes := #[30, 30] }) (dc sc : Nat) (hd : a.eval d = .slice (some ⟨g, (k + 1) * 5, none⟩) (n - k) dc) (hs : a.eval s = .slice (some ⟨g, k * 5, none⟩) (n + 1 - k) sc) (hW : W.heap[g]? = w.heap[g]?) (h : ∀ w', Hid (w'.heap[g]? = some (.cells R1.toArray 38 (0, 0))) → Hid (W.grownBy w' (some g)) → K (a.put o.dst (goInt (n - k : Nat))) w'), if Region.wanted o (yielded ops a.tmps) = true then Oper.wp Try.prog o a W K Q else E) := Lib.hid (fun W hgd d s ho dc sc hd hs hW h =>
    step_copy_S hgd d s _ _ ho 38 i0 Try.underlying30 hi g ((k + 1) * 5) (n - k) dc ⟨g, k * 5, none⟩ (n + 1 - k) sc hd hs cur.toList _ (by rw [hW, HGC.out]) Y (n - k) (by simp only [Nat.min_def]; split <;> omega) (by rw [hz1, HYL.out]) (HYS.out W hW) (by rw [HYL.out, Array.length_toList, HCS.out]; omega) HY1.out (fun w' q1 q2 => h w' (Lib.hid (by rw [q1.out, HR1.out])) q2))
  have HCA : Hid (∀ (W : World), W.heap[g]? = some (.cells R1.toArray 38 (0, 0)) → W.heap[vb]? = w.heap[vb]? → ∃ W2, (∀ ty dc, (Builtin.copy_ #[30, 30] ty #[.slice (some ⟨g, k * 5, none⟩) (n + 1 - k) dc, .slice (some ⟨vb, 0, none⟩) 1 1]).run Try.prog W = .ok (goInt 1) W2) ∧ Hid (W2.heap[g]? = some (.cells (splice R1 (k * 5) news).toArray 38 (0, 0))) ∧ Hid (W.grownBy W2 (some g))) := Lib.hid (fun W hW hWv => by
    refine ⟨_, fun ty dc => run_copy_rowS (P := Try.prog) W 30 30 ty 38 i0 Try.underlying30 hi g (k * 5) (n + 1 - k) dc ⟨vb, 0, none⟩ 1 1 R1.toArray 38 news 1 (by simp only [Nat.min_def]; split <;> omega) (by rw [hz1, hl]) hW (HVS.out W hWv) (by simp only [List.size_toArray]; rw [HR1L.out]; omega) h1, ?_, ?_⟩
    · exact Lib.hid (by rw [setRow_heap W g _ _ 38 _ hW]; simp [splice])
    · exact Lib.hid (grownBy_setRow _ _ _))
  clear hY hYl hY1 hR1 hR1l hgc hcs htk hnews
  go_enter Try.func37, Try.ntmps37
  go_wp2_with (simp only [hov])
  go_region_law_o (refine HCB.out _ rfl _ _ rfl (c - (k + 1)) (c - k) (by simp [Act.eval, Act.put]) (by simp [Act.eval, Act.put]) rfl ?_; intro W3 HR3 HG3)
  have hG3 := HG3.out
  have HG4 : Hid (w.grownBy W3 (some g)) := Lib.hid ⟨hG3.os, hG3.tape, hG3.output, hG3.size, hG3.block⟩
  obtain ⟨W4, hcpA, HR4, HG5⟩ := HCA.out W3 HR3.out (HG4.out.block vb hvl (fun e => hvg (Option.some.inj e)))
  clear hG3 HG3
  go_wp2
  go_ret
  refine ⟨_, rfl, ⟨?_, .inr ⟨g, c, _, rfl, hbg, HR4.out, hc, hcm, ?_, ?_⟩⟩, gb_two HG4.out HG5.out⟩
  · have := hfin.out.2
    rw [HYY.out] at this
    rw [← this, List.length_take, hfin.out.1]
    omega
  · simp only [List.size_toArray]
    exact hfin.out.1
  · show List.take ((n + 1) * 5) _ = _
    rw [hfin.out.2, HYY.out]
/-- one bell put into a row of the call's own -/
theorem insBell_calls (base n k : Nat) (A : Option Addr) (c : Nat) (xs : List Value) (w : World) (hown : w.ownsRow base 38 5 (.slice A n c) n xs) (hk : k ≤ n) (hn : n ≤ 1048576) (vb : Nat) (varr : Array Value) (hvB : Blk w vb 38 varr) (hvg : some vb ≠ (Value.slice A n c).ownBlock) (news : List Value) (hl : news.length = 5) (hnews : ∀ j u, news[j]? = some u → w.cell? ((⟨vb, 0, none⟩ : Addr).add j) = some u) (h1 : ∀ u ∈ news, u.oneCell' = true) (h1x : ∀ u ∈ xs, u.oneCell' = true) (hbase : base ≤ w.heap.size) :
    Calls Try.prog 37 #[.slice A n c, .int .i64 k, .slice (some ⟨vb, 0, none⟩) 1 1] w (InsOut base n k (.slice A n c) xs news w) := by
  by_cases hkn : k = n
  · subst hkn
    exact insBell_end base k A c xs w hown hn vb news hl hnews h1 hbase
  · obtain ⟨g, rfl⟩ : ∃ g, A = some ⟨g, 0, none⟩ := by
      rcases hown.2 with ⟨-, q2⟩ | ⟨g, cap, cur, q, -⟩
      · omega
      · injection q with q1; exact ⟨g, q1⟩
    by_cases hc : n + 1 ≤ c
    · exact insBell_room base n k g c xs w hown (by omega) hn hc vb varr hvB (fun e => hvg (by rw [e]; rfl)) news hl hnews h1 h1x
    · exact insBell_grow base n k g c xs w hown (by omega) hn (by omega) vb news hl hnews h1 h1x hbase
end Go.Proofs.Yticnpibkpfpojaa
