/- The document's fixed numbers: contracts. -/
import Derived.Test.YtekpgcohlpkmnaaIrNums
set_option linter.unusedVariables false
set_option linter.unusedSimpArgs false
namespace Go.Proofs.Ytekpgcohlpkmnaa
open Go.Abs Go.RowKit Go.Ours

theorem rwide_c (n : Nat) (h : n = 1 ∨ n = 2 ∨ n = 8) : ACall Try.prog 32 [.pv (.int .i64 (n : Nat))] [] (.pv (.bool true)) [] [] := by
  refine ACall.fn (fn := Try.f32) rfl okRef01Wide rfl (by simp) ?_
  simp only [argT, irRef01Wide.eq_1]
  rcases h with rfl | rfl | rfl <;> simp
theorem refFixed2_c (x : Nat) (hx : x < 18446744073709551616) : ACall Try.prog 18 [.pv (.int .u64 (x : Nat)), .pv (.int .i64 2)] [] (.os 5 1 (krows .u8 [x / 256 % 256, x % 256])) [] [] := by
  refine ACall.fn (fn := Try.f18) rfl okRef01Fixed rfl (by simp) ?_
  simp only [argT, irRef01Fixed.eq_1]
  have t : (x : Int).tdiv 256 = ((x / 256 : Nat) : Int) := rfl
  have t1 : ((x / 256 : Nat) : Int).tmod 256 = ((x / 256 % 256 : Nat) : Int) := rfl
  have t2 : (x : Int).tmod 256 = ((x % 256 : Nat) : Int) := rfl
  have w1 : IntKind.u8.wrap ((x / 256 % 256 : Nat) : Int) = ((x / 256 % 256 : Nat) : Int) := by simp [IntKind.wrap, IntKind.bits, IntKind.signed]
  have w2 : IntKind.u8.wrap ((x % 256 : Nat) : Int) = ((x % 256 : Nat) : Int) := by simp [IntKind.wrap, IntKind.bits, IntKind.signed]
  have w3 : IntKind.u64.wrap ((x / 256 : Nat) : Int) = ((x / 256 : Nat) : Int) := by simp [IntKind.wrap, IntKind.bits, IntKind.signed]; omega
  have k1 : krows .u8 [x / 256 % 256] = [[.int .u8 ((x / 256 % 256 : Nat) : Int)]] := rfl
  have k2 : krows .u8 [x / 256 % 256, x % 256] = [[.int .u8 ((x / 256 % 256 : Nat) : Int)], [.int .u8 ((x % 256 : Nat) : Int)]] := rfl
  rw [k2]
  generalize x / 256 % 256 = y6 at *
  generalize x % 256 = y7 at *
  generalize x / 256 = y5 at *
  simp
  refine CallG.go (rwide_c 2 (by simp)) ?_
  simp
  refine LoopW.go irRef01Fixed_L1.eq_1 (by simp) ?_
  simp
  refine LoopW.go irRef01Fixed_L2.eq_1 (by simp) ?_
  simp [t, w3]
  refine LoopW.go irRef01Fixed_L2.eq_1 (by simp) ?_
  simp [t1, w1]
  refine LoopW.go irRef01Fixed_L1.eq_1 (by simp) ?_
  simp
  refine LoopW.go irRef01Fixed_L2.eq_1 (by simp) ?_
  simp [t2, w2]
  refine LoopW.go irRef01Fixed_L1.eq_1 (by simp) ?_
  simp
end Go.Proofs.Ytekpgcohlpkmnaa
