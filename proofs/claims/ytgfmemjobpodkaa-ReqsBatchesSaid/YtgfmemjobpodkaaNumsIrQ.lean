/- The document's Fold: its contract. -/
import Derived.Test.YtgfmemjobpodkaaNumsIrP
set_option linter.unusedVariables false
set_option linter.unusedSimpArgs false
namespace Go.Proofs.Ytgfmemjobpodkaa
open Go.Abs Go.RowKit Go.Ours

def I64 (n : Int) : Prop := -9223372036854775808 ≤ n ∧ n < 9223372036854775808
theorem refFold_c (x : Int) (hx : I64 x) : ACall Try.prog 31 [.pv (.int .i64 x)] [] (.pv (.int .u64 (foldN x : Nat))) [] [] := by
  refine ACall.fn (fn := Try.f31) rfl okRef01Fold rfl (by simp) ?_
  simp only [argT, irRef01Fold.eq_1]
  unfold I64 at hx
  unfold foldN
  by_cases h : x < 0
  · have w1 : IntKind.i64.wrap (x + 1) = x + 1 := by rw [wrap_i64] <;> omega
    have w2 : IntKind.i64.wrap (-(x + 1)) = -(x + 1) := by rw [wrap_i64] <;> omega
    have w3 : IntKind.u64.wrap (-(x + 1)) = -(x + 1) := by simp [IntKind.wrap, IntKind.bits, IntKind.signed]; omega
    have w4 : IntKind.u64.wrap (2 * -(x + 1)) = 2 * -(x + 1) := by simp [IntKind.wrap, IntKind.bits, IntKind.signed]; omega
    have w5 : IntKind.u64.wrap (2 * -(x + 1) + 1) = (((-2 * x - 1).toNat : Nat) : Int) := by simp [IntKind.wrap, IntKind.bits, IntKind.signed]; omega
    rw [if_pos h]
    generalize (-2 * x - 1).toNat = z at *
    generalize hy : -(x + 1) = y at *
    simp [h, w1, w2, w3, w4, w5, hy]
  · have w3 : IntKind.u64.wrap x = x := by simp [IntKind.wrap, IntKind.bits, IntKind.signed]; omega
    have w4 : IntKind.u64.wrap (2 * x) = (((2 * x).toNat : Nat) : Int) := by simp [IntKind.wrap, IntKind.bits, IntKind.signed]; omega
    rw [if_neg h]
    generalize (2 * x).toNat = z at *
    simp [h, w3, w4]
end Go.Proofs.Ytgfmemjobpodkaa
