/- A number read digit by digit, as the reference reads it. -/
import Derived.Test.YtflhkldfhndafaaGreatDoorSplitS
namespace Go.Proofs.YtflhkldfhndafaaGreatDoor
set_option linter.unusedVariables false
open Go.RowKit
/-- what both readers of numbers return -/
noncomputable def numOut (l : List UInt8) : Value := .tuple #[.int .i64 (numD l), .bool (numO l).isSome]
theorem numOut_none {l : List UInt8} (h : numO l = none) : numOut l = .tuple #[.int .i64 0, .bool false] := by unfold numOut; rw [numD_none h, h]; rfl
theorem numOut_some {l : List UInt8} {n : Int} (h : numO l = some n) : numOut l = .tuple #[.int .i64 n, .bool true] := by unfold numOut; rw [numD_some h, h]; rfl
theorem dec_step {m : List UInt8} {j v : Nat} {b : UInt8} (h : Lib.decFrom 0 (m.take j) = some v) (hb : m[j]? = some b) (hd : 48 ≤ b.toNat ∧ b.toNat ≤ 57) : Lib.decFrom 0 (m.take (j + 1)) = some (v * 10 + (b.toNat - 48)) := by
  have e : b = UInt8.ofNat (48 + (b.toNat - 48)) := by
    apply UInt8.toNat_inj.1
    rw [UInt8.toNat_ofNat']
    omega
  rw [List.take_add_one, hb, decFrom_app, h]
  show Lib.decFrom v [b] = _
  have q := digitVal_dig (d := b.toNat - 48) (by omega)
  rw [← e] at q
  simp only [Lib.decFrom, q]
theorem bl_cons {s : ByteArray} (h : 0 < s.size) : ∃ b m, bl s = b :: m ∧ bt s 0 = (b.toNat : Int) ∧ m.length = s.size - 1 ∧ ∀ k, 1 ≤ k → k < s.size → ∃ x : UInt8, m[k - 1]? = some x ∧ bt s k = (x.toNat : Int) := by
  have hl := bl_len s
  cases e : bl s with
  | nil => rw [e] at hl; simp at hl; omega
  | cons b m =>
    have h0 := bl_get h
    rw [e] at h0
    have h1 : b = s[0] := by simpa using h0
    refine ⟨b, m, rfl, by rw [h1, get_bt s 0 h], by rw [e] at hl; simp at hl; omega, fun k k0 k1 => ⟨s[k], ?_, (get_bt s k k1).symm⟩⟩
    have h2 := bl_get k1
    rw [e] at h2
    obtain ⟨j, rfl⟩ : ∃ j, k = j + 1 := ⟨k - 1, by omega⟩
    simpa using h2
theorem mag_minus (m : List UInt8) : magL (45 :: m) = m := by simp [magL, Lib.trimPrefix, Lib.hasPrefix]
theorem mag_plain {b : UInt8} {m : List UInt8} (h : b ≠ 45) : magL (b :: m) = b :: m := by
  have h1 : ¬ 45 = b := fun e => h e.symm
  simp [magL, Lib.trimPrefix, Lib.hasPrefix, h1]
theorem mag_nil : magL [] = [] := by simp [magL, Lib.trimPrefix, Lib.hasPrefix]
theorem u8_eq {b : UInt8} {n : Nat} (h : (b.toNat : Int) = n) (hn : n < 256) : b = UInt8.ofNat n := by
  apply UInt8.toNat_inj.1
  rw [UInt8.toNat_ofNat']
  omega
end Go.Proofs.YtflhkldfhndafaaGreatDoor
