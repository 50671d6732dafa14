/- A text put into a list of texts in order (the reference's way); lists of texts as lists of bytes. -/
import Derived.Test.YtccjgeoebbnkoaaStrs
import Derived.Test.YtccjgeoebbnkoaaSortS
import Derived.Test.YtccjgeoebbnkoaaBin
import Derived.Sort.OwnSorted
namespace Go.Proofs.Ytccjgeoebbnkoaa
set_option linter.unusedVariables false
open Go.RowKit Go.Sort

def sl (L : List (List UInt8)) : Nat → ByteArray := fun i => ⟨(L[i]?.getD []).toArray⟩
theorem ba_eta (s : ByteArray) : (⟨s.toList.toArray⟩ : ByteArray) = s := by
  rw [ByteArray.toList_eq]
theorem enc_of (s : ByteArray) : Value.string s = encStr s.toList := by
  show Value.string s = Value.string ⟨s.toList.toArray⟩
  rw [ba_eta]
theorem toL (l : List UInt8) : (⟨l.toArray⟩ : ByteArray).toList = l := by
  rw [ByteArray.toList_eq]
theorem sl_strs (L : List (List UInt8)) : L.map encStr = strsL (sl L) L.length := by
  apply List.ext_getElem?
  intro i
  rcases Nat.lt_or_ge i L.length with h | h
  · rw [strsL_at _ h]
    simp [sl, h, encStr]
  · simp [strsL, h]
/-- a list of texts that a call has returned -/
def TxtOut (w : World) (L : List (List UInt8)) (v : Value) (w' : World) : Prop := ∃ A c G, v = .slice A L.length c ∧ StrOwn w' A L.length (sl L) G ∧ w.heap.size ≤ G ∧ Below w.heap.size w w'
theorem snocS {w : World} {base e : Nat} {v : Value} {L : List (List UInt8)} {y : ByteArray} (h : w.ownsRow base e 1 v (L.length + 1) (L.map encStr ++ [.string y])) : w.ownsRow base e 1 v (L ++ [y.toList]).length ((L ++ [y.toList]).map encStr) := by
  rw [List.map_append, List.length_append]
  rw [enc_of] at h
  exact h
set_option maxRecDepth 20000 in
set_option maxHeartbeats 4000000 in
theorem l18Put_calls (A : Option Addr) (c : Nat) (L : List (List UInt8)) (x : ByteArray) (w : World) (h : StrRow w A L.length (sl L)) (hn : L.length ≤ 1048576) :
    Calls Try.prog 100 #[.slice A L.length c, .string x] w fun e w' => ∃ v, e = .returned v ∧ TxtOut w (putS L x.toList) v w' := by
  obtain ⟨i0, hi, hz0, hz1, hz2⟩ := info_parts Str_info
  obtain ⟨n, hnn⟩ : ∃ n, n = L.length := ⟨_, rfl⟩
  rw [← hnn] at h hn ⊢
  have H := Lib.hid h
  have HN := Lib.hid hnn
  have HS := Lib.hid (World.ownsRow_lit (base := w.heap.size) (e := 9) (size := 1) w #[] 0 (Nat.le_refl _) (by unfold maxLen; omega) rfl)
  have HB0 := Lib.hid ((Below.refl w.heap.size w).alloc (Nat.le_refl _) (.cells #[] 9))
  clear h hnn
  go_enter Try.func100, Try.ntmps100
  go_wp2
  go_loopw [5, 6, 7] (fun v d i wr => ∃ (k : Nat) (M : List (List UInt8)) (b : Bool), k ≤ n ∧ i = .int .i64 k ∧ d = .bool b ∧ M.length ≤ k + 1 ∧ Hid (wr.ownsRow w.heap.size 9 1 v M.length (M.map encStr)) ∧ Hid (putS L x.toList = M ++ (if b = true then (L.drop k).filter (fun z => !(z == x.toList)) else putS (L.drop k) x.toList)) ∧ (b = false → M.length = k) ∧ Below w.heap.size w wr) (fun _ _ i _ => n - (intOf i).toNat)
  case atStart => exact ⟨0, [], false, by omega, rfl, rfl, by simp, HS, Lib.hid (by simp), fun _ => rfl, HB0.out⟩
  case round =>
    obtain ⟨k, M, b, hk, rfl, rfl, hml, hown, hres, hbl, hbr⟩ := hrel
    by_cases hlt : k < n
    · obtain ⟨bb, o, rfl, hrow⟩ := H.out (by omega)
      have c0 := cell_keep hbr (hrow k hlt)
      obtain ⟨y, hy⟩ : ∃ y, y = sl L k := ⟨_, rfl⟩
      rw [← hy] at c0
      have hkL : k < L.length := by rw [← HN.out]; exact hlt
      have hdrop : Hid (L.drop k = y.toList :: L.drop (k + 1)) := Lib.hid (by rw [List.drop_eq_getElem_cons hkL, hy]; congr 1; unfold sl; rw [toL]; simp [hkL])
      have HY : Hid (w.cell? ⟨bb, o + k, none⟩ = some (.string y)) := Lib.hid (by rw [hy]; exact hrow k hlt)
      have HR := Lib.hid hrow
      clear hrow hy hkL
      cases q2 : (y.toList == x.toList)
      · cases b
        · have hmk := hbl rfl
          clear hbl
          cases q1 : Op.bytesLess y.toList x.toList
          · have hne : Hid (putS L x.toList = ((M ++ [x.toList]) ++ [y.toList]) ++ (if true = true then (L.drop (k + 1)).filter (fun z => !(z == x.toList)) else putS (L.drop (k + 1)) x.toList)) := Lib.hid (by have h := hres.out; rw [hdrop.out] at h; simpa [putS, q1, q2] using h)
            clear hres hdrop
            have needx := True.intro
            go_wp2_with (first | (clear needx; at_builtin; refine wpList_append_own _ rfl _ _ 24 rfl w.heap.size 9 i0 (.string ⟨#[]⟩) 1 16 Try.underlying24 hi hz0 hz1 hz2 rfl (by decide) _ _ _ rfl (hown.out.alloc _) ⟨_, 0, none⟩ 1 1 [.string x] rfl rfl (fun j u hj => by match j, hj with | 0, hj => simp at hj; subst hj; simp [Addr.add]) (fun u hu => by simp at hu; subst hu; rfl) (by unfold maxLen; (try simp); omega) (by (try simp); omega) (by have := hbr.size; simp; omega) ?_; intro v_ w_ hown' hgrow _; have hb2 := below_append hbr hbr.size hown.out hgrow; have ho2 := Lib.hid (snocS hown'); clear hown hbr hown' hgrow; have hown := ho2; have hbr := hb2; clear ho2 hb2; (try clear c0); (try have c0 := cell_keep hbr HY.out)) | (at_builtin; refine wpList_append_own _ rfl _ _ 24 rfl w.heap.size 9 i0 (.string ⟨#[]⟩) 1 16 Try.underlying24 hi hz0 hz1 hz2 rfl (by decide) _ _ _ rfl (hown.out.alloc _) ⟨_, 0, none⟩ 1 1 [.string y] rfl rfl (fun j u hj => by match j, hj with | 0, hj => simp at hj; subst hj; simp [Addr.add]) (fun u hu => by simp at hu; subst hu; rfl) (by unfold maxLen; (try simp); omega) (by (try simp); omega) (by have := hbr.size; simp; omega) ?_; intro v_ w_ hown' hgrow _; have hb2 := below_append hbr hbr.size hown.out hgrow; have ho2 := Lib.hid (snocS hown'); clear hown hbr hown' hgrow; have hown := ho2; have hbr := hb2; clear ho2 hb2))
            go_roundw
            case rel => exact ⟨k + 1, (M ++ [x.toList]) ++ [y.toList], true, by omega, by go_num, rfl, by simp; omega, hown, hne, (fun h => by cases h), hbr⟩
            case measure => simp [intOf]; omega
          · have hne : Hid (putS L x.toList = (M ++ [y.toList]) ++ (if false = true then (L.drop (k + 1)).filter (fun z => !(z == x.toList)) else putS (L.drop (k + 1)) x.toList)) := Lib.hid (by have h := hres.out; rw [hdrop.out] at h; simpa [putS, q1] using h)
            clear hres hdrop
            go_wp2_with (at_builtin; refine wpList_append_own _ rfl _ _ 24 rfl w.heap.size 9 i0 (.string ⟨#[]⟩) 1 16 Try.underlying24 hi hz0 hz1 hz2 rfl (by decide) _ _ _ rfl (hown.out.alloc _) ⟨_, 0, none⟩ 1 1 [.string y] rfl rfl (fun j u hj => by match j, hj with | 0, hj => simp at hj; subst hj; simp [Addr.add]) (fun u hu => by simp at hu; subst hu; rfl) (by unfold maxLen; (try simp); omega) (by (try simp); omega) (by have := hbr.size; simp; omega) ?_; intro v_ w_ hown' hgrow _; have hb2 := below_append hbr hbr.size hown.out hgrow; have ho2 := Lib.hid (snocS hown'); clear hown hbr hown' hgrow; have hown := ho2; have hbr := hb2; clear ho2 hb2)
            go_roundw
            case rel => exact ⟨k + 1, M ++ [y.toList], false, by omega, by go_num, rfl, by simp; omega, hown, hne, (fun _ => by simp; omega), hbr⟩
            case measure => simp [intOf]; omega
        · have hne : Hid (putS L x.toList = (M ++ [y.toList]) ++ (if true = true then (L.drop (k + 1)).filter (fun z => !(z == x.toList)) else putS (L.drop (k + 1)) x.toList)) := Lib.hid (by have h := hres.out; rw [hdrop.out] at h; simpa [q2] using h)
          clear hres hdrop hbl
          go_wp2_with (at_builtin; refine wpList_append_own _ rfl _ _ 24 rfl w.heap.size 9 i0 (.string ⟨#[]⟩) 1 16 Try.underlying24 hi hz0 hz1 hz2 rfl (by decide) _ _ _ rfl (hown.out.alloc _) ⟨_, 0, none⟩ 1 1 [.string y] rfl rfl (fun j u hj => by match j, hj with | 0, hj => simp at hj; subst hj; simp [Addr.add]) (fun u hu => by simp at hu; subst hu; rfl) (by unfold maxLen; (try simp); omega) (by (try simp); omega) (by have := hbr.size; simp; omega) ?_; intro v_ w_ hown' hgrow _; have hb2 := below_append hbr hbr.size hown.out hgrow; have ho2 := Lib.hid (snocS hown'); clear hown hbr hown' hgrow; have hown := ho2; have hbr := hb2; clear ho2 hb2)
          go_roundw
          case rel => exact ⟨k + 1, M ++ [y.toList], true, by omega, by go_num, rfl, by simp; omega, hown, hne, (fun h => by cases h), hbr⟩
          case measure => simp [intOf]; omega
      · have hirr : Op.bytesLess y.toList x.toList = false := by rw [eq_of_beq q2]; exact less_irrefl _
        cases b
        · have hmk := hbl rfl
          clear hbl
          have hne : Hid (putS L x.toList = (M ++ [x.toList]) ++ (if true = true then (L.drop (k + 1)).filter (fun z => !(z == x.toList)) else putS (L.drop (k + 1)) x.toList)) := Lib.hid (by have h := hres.out; rw [hdrop.out] at h; simpa [putS, hirr, q2] using h)
          clear hres hdrop
          have needx := True.intro
          go_wp2_with (clear needx; at_builtin; refine wpList_append_own _ rfl _ _ 24 rfl w.heap.size 9 i0 (.string ⟨#[]⟩) 1 16 Try.underlying24 hi hz0 hz1 hz2 rfl (by decide) _ _ _ rfl (hown.out.alloc _) ⟨_, 0, none⟩ 1 1 [.string x] rfl rfl (fun j u hj => by match j, hj with | 0, hj => simp at hj; subst hj; simp [Addr.add]) (fun u hu => by simp at hu; subst hu; rfl) (by unfold maxLen; (try simp); omega) (by (try simp); omega) (by have := hbr.size; simp; omega) ?_; intro v_ w_ hown' hgrow _; have hb2 := below_append hbr hbr.size hown.out hgrow; have ho2 := Lib.hid (snocS hown'); clear hown hbr hown' hgrow; have hown := ho2; have hbr := hb2; clear ho2 hb2; (try clear c0); (try have c0 := cell_keep hbr HY.out))
          go_roundw
          case rel => exact ⟨k + 1, M ++ [x.toList], true, by omega, by go_num, rfl, by simp; omega, hown, hne, (fun h => by cases h), hbr⟩
          case measure => simp [intOf]; omega
        · have hne : Hid (putS L x.toList = M ++ (if true = true then (L.drop (k + 1)).filter (fun z => !(z == x.toList)) else putS (L.drop (k + 1)) x.toList)) := Lib.hid (by have h := hres.out; rw [hdrop.out] at h; simpa [q2] using h)
          clear hres hdrop hbl
          go_wp2
          go_roundw
          case rel => exact ⟨k + 1, M, true, by omega, by go_num, rfl, by omega, hown, hne, (fun h => by cases h), hbr⟩
          case measure => simp [intOf]; omega
    · obtain rfl : k = n := by omega
      have hdz : L.drop k = [] := by rw [HN.out]; exact List.drop_length
      cases b
      · have hne : Hid (putS L x.toList = M ++ [x.toList]) := Lib.hid (by have h := hres.out; rw [hdz] at h; simpa [putS] using h)
        clear hres hdz
        have needx := True.intro
        go_wp2_with (clear needx; at_builtin; refine wpList_append_own _ rfl _ _ 24 rfl w.heap.size 9 i0 (.string ⟨#[]⟩) 1 16 Try.underlying24 hi hz0 hz1 hz2 rfl (by decide) _ _ _ rfl (hown.out.alloc _) ⟨_, 0, none⟩ 1 1 [.string x] rfl rfl (fun j u hj => by match j, hj with | 0, hj => simp at hj; subst hj; simp [Addr.add]) (fun u hu => by simp at hu; subst hu; rfl) (by unfold maxLen; (try simp); omega) (by (try simp); omega) (by have := hbr.size; simp; omega) ?_; intro v_ w_ hown' hgrow _; have hb2 := below_append hbr hbr.size hown.out hgrow; have ho2 := Lib.hid (snocS hown'); clear hown hbr hown' hgrow; have hown := ho2; have hbr := hb2; clear ho2 hb2; (try clear c0); (try have c0 := cell_keep hbr HY.out))
        obtain ⟨A', c', G, rfl, hio, hG⟩ := strOwn_of (s := sl (M ++ [x.toList])) (sl_strs (M ++ [x.toList]) ▸ hown.out) hbr.size
        have HIO := Lib.hid hio
        clear hio
        go_ret
        exact ⟨_, rfl, A', c', G, (by rw [hne.out]; rfl), by rw [hne.out]; exact HIO.out, hG, hbr⟩
      · have hne : Hid (putS L x.toList = M) := Lib.hid (by have h := hres.out; rw [hdz] at h; simpa using h)
        clear hres hdz
        obtain ⟨A', c', G, rfl, hio, hG⟩ := strOwn_of (s := sl M) (sl_strs M ▸ hown.out) hbr.size
        have HIO := Lib.hid hio
        clear hio
        go_wp2
        go_ret
        exact ⟨_, rfl, A', c', G, (by rw [hne.out]; rfl), by rw [hne.out]; exact HIO.out, hG, hbr⟩
end Go.Proofs.Ytccjgeoebbnkoaa
