/- Contracts of sha's and its reference's turns and words. -/
import Derived.Test.YtlbfpnckoblppaaPlainSha
import Derived.Test.YtlbfpnckoblppaaIrSha
set_option linter.unusedVariables false
set_option linter.unusedSimpArgs false
namespace Go.Proofs.Ytlbfpnckoblppaa
open Go.Abs Go.RowKit Go.Ours

theorem rturn_c (x : Int) (n : Nat) (h1 : 1 ≤ n) (hn : n < 32) : ACall Try.prog 66 [.pv (.int .u32 x), .pv (.int .i64 n)] [] (.pv (.int .u32 (rot x n))) [] [] := by
  refine ACall.fn (fn := Try.f66) rfl okRef02Turn rfl (by simp) ?_
  simp only [argT, irRef02Turn.eq_1]
  have w1 : IntKind.u64.wrap (n : Int) = n := by rw [wrap_u64] <;> omega
  have w2 : IntKind.i64.wrap (32 - (n : Int)) = ((32 - n : Nat) : Int) := by rw [wrap_i64] <;> omega
  have w3 : IntKind.u64.wrap ((32 - n : Nat) : Int) = ((32 - n : Nat) : Int) := by rw [wrap_u64] <;> omega
  have m1 : min n IntKind.u32.bits = n := by simp [IntKind.bits]; omega
  obtain ⟨m, hm⟩ : ∃ m, m = 32 - n := ⟨_, rfl⟩
  rw [← hm] at w2 w3
  have m2 : min m IntKind.u32.bits = m := by simp [IntKind.bits]; omega
  simp [w1, w2, w3, m1, m2]
  simp only [rot, bo, w32, hm]
theorem rotl_c (x k : Int) (s : Nat) (hs : s ≤ 31) (hk : bits BinOp.and IntKind.u64 (IntKind.u64.wrap k) 31 = s) : ACall Try.prog 73 [.pv (.int .u32 x), .pv (.int .i64 k)] [] (.pv (.int .u32 (bo (w32 (x * 2 ^ s)) (x.fdiv (2 ^ (32 - s)))))) [] [] := by
  refine ACall.fn (fn := Try.f73) rfl okMathBitsRotateLeft32 rfl (by simp) ?_
  simp only [argT, irMathBitsRotateLeft32.eq_1]
  obtain ⟨m, hm⟩ : ∃ m, m = 32 - s := ⟨_, rfl⟩
  have w2 : IntKind.u64.wrap (32 - (s : Int)) = (m : Int) := by rw [wrap_u64] <;> omega
  have m1 : min s IntKind.u32.bits = s := by simp [IntKind.bits]; omega
  have m2 : min m IntKind.u32.bits = m := by simp [IntKind.bits]; omega
  simp [hk, w2, m1, m2]
  simp only [bo, w32, hm]
theorem turn_c (x : Int) (n : Nat) (h1 : 1 ≤ n) (hn : n < 32) : ACall Try.prog 71 [.pv (.int .u32 x), .pv (.int .i64 n)] [] (.pv (.int .u32 (rot x n))) [] [] := by
  have hk : bits BinOp.and IntKind.u64 (IntKind.u64.wrap (IntKind.i64.wrap (0 - (n : Int)))) 31 = ((32 - n : Nat) : Int) := by
    have : ∀ m : _root_.Fin 32, 1 ≤ m.val → bits BinOp.and IntKind.u64 (IntKind.u64.wrap (IntKind.i64.wrap (0 - (m.val : Int)))) 31 = ((32 - m.val : Nat) : Int) := by decide +kernel
    exact this ⟨n, hn⟩ h1
  have hc := rotl_c x _ (32 - n) (by omega) hk
  have e : 32 - (32 - n) = n := by omega
  rw [e, bo_comm] at hc
  refine ACall.fn (fn := Try.f71) rfl okShaTurn rfl (by simp) ?_
  simp only [argT, irShaTurn.eq_1]
  simp [-wrap_i64, -wrap_u64, -Int.zero_sub]
  refine CallG.go hc ?_
  simp
  simp only [rot, bo, w32]
end Go.Proofs.Ytlbfpnckoblppaa
