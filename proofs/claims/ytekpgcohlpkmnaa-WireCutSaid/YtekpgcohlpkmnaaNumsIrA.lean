/- Contracts of nums' fixed numbers, as the abstract machine tells them. -/
import Derived.Test.YtekpgcohlpkmnaaIrNums
set_option linter.unusedVariables false
set_option linter.unusedSimpArgs false
namespace Go.Proofs.Ytekpgcohlpkmnaa
open Go.Abs Go.RowKit Go.Ours

theorem nwide_c (n : Nat) (h : n = 1 ∨ n = 2 ∨ n = 8) : ACall Try.prog 35 [.pv (.int .i64 (n : Nat))] [] (.pv (.bool true)) [] [] := by
  refine ACall.fn (fn := Try.f35) rfl okNumsWide rfl (by simp) ?_
  simp only [argT, irNumsWide.eq_1]
  rcases h with rfl | rfl | rfl <;> simp
theorem shrb (x : Nat) (m : Nat) (hm : m ≤ 64) : IntKind.u8.wrap ((x : Int).fdiv (2 ^ min m IntKind.u64.bits)) = ((x / 2 ^ m % 256 : Nat) : Int) := by
  have : min m IntKind.u64.bits = m := by simp [IntKind.bits]; omega
  rw [this, shr_nat]
  simp [IntKind.wrap, IntKind.bits, IntKind.signed]
theorem put2_c (l : List Nat) (x : Nat) (hl : l.length ≤ 10000000000) : ACall Try.prog 24 [.pv (.sl 1 (krows .u8 l)), .pv (.int .u64 x), .pv (.int .i64 2)] [] (.os 5 1 (krows .u8 (l ++ [x / 256 % 256, x % 256]))) [] [] := by
  refine ACall.fn (fn := Try.f24) rfl okNumsPutFixed rfl (by simp) ?_
  simp only [argT, irNumsPutFixed.eq_1]
  simp
  refine CallG.go (cloneA l hl) ?_
  simp
  refine CallG.go (nwide_c 2 (by simp)) ?_
  simp
  have e6 := shrb x 8 (by decide)
  have e7 : IntKind.u8.wrap (x : Int) = ((x % 256 : Nat) : Int) := by have := shrb x 0 (by decide); simpa using this
  rw [show (2 : Nat) ^ 8 = 256 from rfl] at e6
  generalize x / 256 % 256 = y6 at *
  generalize x % 256 = y7 at *
  refine LoopW.go irNumsPutFixed_L1.eq_1 (by simp) ?_
  simp [e6, krows_length, krows_one]
  refine ⟨by omega, ?_⟩
  refine LoopW.go irNumsPutFixed_L1.eq_1 (by simp) ?_
  simp [e7, krows_length, krows_one]
  refine ⟨by omega, ?_⟩
  refine LoopW.go irNumsPutFixed_L1.eq_1 (by simp) ?_
  simp
theorem put1_c (l : List Nat) (x : Nat) (hl : l.length ≤ 10000000000) : ACall Try.prog 24 [.pv (.sl 1 (krows .u8 l)), .pv (.int .u64 x), .pv (.int .i64 1)] [] (.os 5 1 (krows .u8 (l ++ [x % 256]))) [] [] := by
  refine ACall.fn (fn := Try.f24) rfl okNumsPutFixed rfl (by simp) ?_
  simp only [argT, irNumsPutFixed.eq_1]
  simp
  refine CallG.go (cloneA l hl) ?_
  simp
  refine CallG.go (nwide_c 1 (by simp)) ?_
  simp
  have e7 : IntKind.u8.wrap (x : Int) = ((x % 256 : Nat) : Int) := by have := shrb x 0 (by decide); simpa using this
  generalize x % 256 = y7 at *
  refine LoopW.go irNumsPutFixed_L1.eq_1 (by simp) ?_
  simp [e7, krows_length, krows_one]
  refine ⟨by omega, ?_⟩
  refine LoopW.go irNumsPutFixed_L1.eq_1 (by simp) ?_
  simp
end Go.Proofs.Ytekpgcohlpkmnaa
