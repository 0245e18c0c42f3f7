/- nums.PutFixed's contract (eight bytes). -/
import Derived.Test.YtlbfpnckoblppaaShaF
import Derived.Test.YtlbfpnckoblppaaLibClone
set_option linter.unusedVariables false
set_option linter.unusedSimpArgs false
namespace Go.Proofs.Ytlbfpnckoblppaa
open Go.Abs Go.RowKit Go.Ours

def fx (n x : Nat) : List Nat := (List.range n).map fun i => x / 256 ^ (n - 1 - i) % 256
theorem nwide8_c : ACall Try.prog 74 [.pv (.int .i64 8)] [] (.pv (.bool true)) [] [] := by
  refine ACall.fn (fn := Try.f74) rfl okNumsWide rfl (by simp) ?_
  simp only [argT, irNumsWide.eq_1]
  simp
theorem shr_byte (x : Nat) (m : Nat) (hm : m ≤ 64) : IntKind.u8.wrap ((x : Int).fdiv (2 ^ min m IntKind.u64.bits)) = ((x / 2 ^ m % 256 : Nat) : Int) := by
  have : min m IntKind.u64.bits = m := by simp [IntKind.bits]; omega
  rw [this, shr_nat]
  simp [IntKind.wrap, IntKind.bits, IntKind.signed]
theorem put8_c (l : List Nat) (x : Nat) (hl : l.length ≤ 10000000000) : ACall Try.prog 72 [.pv (.sl 1 (krows .u8 l)), .pv (.int .u64 x), .pv (.int .i64 8)] [] (.os 5 1 (krows .u8 (l ++ fx 8 x))) [] [] := by
  refine ACall.fn (fn := Try.f72) rfl okNumsPutFixed rfl (by simp) ?_
  simp only [argT, irNumsPutFixed.eq_1]
  simp
  refine CallG.go (cloneA l hl) ?_
  simp
  refine CallG.go nwide8_c ?_
  simp
  have e0 := shr_byte x 56 (by decide)
  have e1 := shr_byte x 48 (by decide)
  have e2 := shr_byte x 40 (by decide)
  have e3 := shr_byte x 32 (by decide)
  have e4 := shr_byte x 24 (by decide)
  have e5 := shr_byte x 16 (by decide)
  have e6 := shr_byte x 8 (by decide)
  have e7 : IntKind.u8.wrap (x : Int) = ((x / 2 ^ 0 % 256 : Nat) : Int) := by have := shr_byte x 0 (by decide); simpa using this
  have hf : fx 8 x = [x / 2 ^ 56 % 256, x / 2 ^ 48 % 256, x / 2 ^ 40 % 256, x / 2 ^ 32 % 256, x / 2 ^ 24 % 256, x / 2 ^ 16 % 256, x / 2 ^ 8 % 256, x / 2 ^ 0 % 256] := rfl
  rw [hf]
  generalize x / 2 ^ 56 % 256 = y0 at *
  generalize x / 2 ^ 48 % 256 = y1 at *
  generalize x / 2 ^ 40 % 256 = y2 at *
  generalize x / 2 ^ 32 % 256 = y3 at *
  generalize x / 2 ^ 24 % 256 = y4 at *
  generalize x / 2 ^ 16 % 256 = y5 at *
  generalize x / 2 ^ 8 % 256 = y6 at *
  generalize x / 2 ^ 0 % 256 = y7 at *
  refine LoopW.go irNumsPutFixed_L1.eq_1 (by simp) ?_
  simp [e0, krows_length, krows_one]
  refine ⟨by omega, ?_⟩
  refine LoopW.go irNumsPutFixed_L1.eq_1 (by simp) ?_
  simp [e1, krows_length, krows_one]
  refine ⟨by omega, ?_⟩
  refine LoopW.go irNumsPutFixed_L1.eq_1 (by simp) ?_
  simp [e2, krows_length, krows_one]
  refine ⟨by omega, ?_⟩
  refine LoopW.go irNumsPutFixed_L1.eq_1 (by simp) ?_
  simp [e3, krows_length, krows_one]
  refine ⟨by omega, ?_⟩
  refine LoopW.go irNumsPutFixed_L1.eq_1 (by simp) ?_
  simp [e4, krows_length, krows_one]
  refine ⟨by omega, ?_⟩
  refine LoopW.go irNumsPutFixed_L1.eq_1 (by simp) ?_
  simp [e5, krows_length, krows_one]
  refine ⟨by omega, ?_⟩
  refine LoopW.go irNumsPutFixed_L1.eq_1 (by simp) ?_
  simp [e6, krows_length, krows_one]
  refine ⟨by omega, ?_⟩
  refine LoopW.go irNumsPutFixed_L1.eq_1 (by simp) ?_
  simp [e7, krows_length, krows_one]
  refine ⟨by omega, ?_⟩
  refine LoopW.go irNumsPutFixed_L1.eq_1 (by simp) ?_
  simp
end Go.Proofs.Ytlbfpnckoblppaa
