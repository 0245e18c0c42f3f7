/- Folded numbers; packed numbers as a code. -/
import Derived.Test.YtlbfpnckoblppaaAbs2
import Derived.Test.YtlbfpnckoblppaaPlainNums
set_option linter.unusedVariables false
set_option linter.unusedSimpArgs false
namespace Go.Ours
open Go.Abs

def foldN (x : Int) : Nat := if x < 0 then (-2 * x - 1).toNat else (2 * x).toNat
theorem foldN_lt (x : Int) (hx : -9223372036854775808 ≤ x ∧ x < 9223372036854775808) : foldN x < 18446744073709551616 := by
  unfold foldN
  split <;> omega
theorem foldN_inj {x y : Int} (h : foldN x = foldN y) : x = y := by
  unfold foldN at h
  split at h <;> split at h <;> omega
theorem xor_ones (a : Nat) (ha : a < 18446744073709551616) : a ^^^ 18446744073709551615 = 18446744073709551615 - a := by
  have h := BitVec.xor_allOnes (x := BitVec.ofNat 64 a)
  have h2 := congrArg BitVec.toNat h
  simp only [BitVec.toNat_xor, BitVec.toNat_ofNat, BitVec.toNat_not, BitVec.toNat_allOnes] at h2
  rw [Nat.mod_eq_of_lt (by omega)] at h2
  simpa using h2
theorem fold_bits (x : Int) (hx : -9223372036854775808 ≤ x ∧ x < 9223372036854775808) :
    bits BinOp.xor IntKind.u64 (IntKind.u64.wrap (IntKind.u64.wrap x * 2 ^ min 1 IntKind.u64.bits)) (IntKind.u64.wrap (x.fdiv (2 ^ min 63 IntKind.i64.bits))) = ((foldN x : Nat) : Int) := by
  have hw : ∀ n : Int, IntKind.u64.wrap n = n % 18446744073709551616 := fun n => by simp [IntKind.wrap, IntKind.bits, IntKind.signed]
  have m1 : min 1 IntKind.u64.bits = 1 := rfl
  have m2 : min 63 IntKind.i64.bits = 63 := rfl
  have d : x.fdiv (2 ^ 63) = x / 9223372036854775808 := Int.fdiv_eq_ediv_of_nonneg _ (by decide)
  rw [m1, m2, d, hw, hw, hw, Int.pow_one]
  unfold foldN
  by_cases h : x < 0
  · have e1 : ((x % 18446744073709551616 * 2) % 18446744073709551616) = (((2 * x + 18446744073709551616).toNat : Nat) : Int) := by omega
    have e2 : (x / 9223372036854775808) % 18446744073709551616 = ((18446744073709551615 : Nat) : Int) := by omega
    rw [e1, e2, (bits_op .u64 _ _ (by simp [IntKind.bits]; omega) (by simp [IntKind.bits])).2.2, xor_ones _ (by omega), if_pos h, hw]
    omega
  · have e1 : ((x % 18446744073709551616 * 2) % 18446744073709551616) = (((2 * x).toNat : Nat) : Int) := by omega
    have e2 : (x / 9223372036854775808) % 18446744073709551616 = ((0 : Nat) : Int) := by omega
    rw [e1, e2, (bits_op .u64 _ _ (by simp [IntKind.bits]; omega) (by simp [IntKind.bits])).2.2, Nat.xor_zero, if_neg h, hw]
    omega
theorem packed_code : ∀ (n x y : Nat) (r s : List Nat), x ≤ n → packed x ++ r = packed y ++ s → x = y ∧ r = s := by
  intro n
  induction n with
  | zero =>
    intro x y r s hx h
    rw [packed_small (x := x) (by omega)] at h
    by_cases hy : y < 128
    · rw [packed_small hy] at h
      simp at h
      exact h
    · rw [packed_big (x := y) (by omega)] at h
      simp at h
      omega
  | succ n ih =>
    intro x y r s hx h
    by_cases h1 : x < 128
    · rw [packed_small h1] at h
      by_cases hy : y < 128
      · rw [packed_small hy] at h
        simp at h
        exact h
      · rw [packed_big (x := y) (by omega)] at h
        simp at h
        omega
    · rw [packed_big (x := x) (by omega)] at h
      by_cases hy : y < 128
      · rw [packed_small hy] at h
        simp at h
        omega
      · rw [packed_big (x := y) (by omega)] at h
        simp only [List.cons_append, List.cons.injEq] at h
        obtain ⟨h2, h3⟩ := ih (x / 128) (y / 128) r s (by omega) h.2
        exact ⟨by omega, h3⟩
end Go.Ours
