/- Contracts of nums' fixed numbers, as the abstract machine tells them. -/
import Derived.Test.YtaekbkjckahccaaDoorIrNums
set_option linter.unusedVariables false
set_option linter.unusedSimpArgs false
namespace Go.Proofs.YtaekbkjckahccaaDoor
open Go.Abs Go.RowKit Go.Ours

theorem nwide_c (n : Nat) (h : n = 1 ∨ n = 2 ∨ n = 8) : ACall Tryd.prog 47 [.pv (.int .i64 (n : Nat))] [] (.pv (.bool true)) [] [] := by
  refine ACall.fn (fn := Tryd.f47) rfl okNumsWide rfl (by simp) ?_
  simp only [argT, irNumsWide.eq_1]
  rcases h with rfl | rfl | rfl <;> simp
theorem shrb (x : Nat) (m : Nat) (hm : m ≤ 64) : IntKind.u8.wrap ((x : Int).fdiv (2 ^ min m IntKind.u64.bits)) = ((x / 2 ^ m % 256 : Nat) : Int) := by
  have : min m IntKind.u64.bits = m := by simp [IntKind.bits]; omega
  rw [this, shr_nat]
  simp [IntKind.wrap, IntKind.bits, IntKind.signed]
theorem put2_c (l : List Nat) (x : Nat) (hl : l.length ≤ 10000000000) : ACall Tryd.prog 38 [.pv (.sl 1 (krows .u8 l)), .pv (.int .u64 x), .pv (.int .i64 2)] [] (.os 5 1 (krows .u8 (l ++ [x / 256 % 256, x % 256]))) [] [] := by
  refine ACall.fn (fn := Tryd.f38) rfl okNumsPutFixed rfl (by simp) ?_
  simp only [argT, irNumsPutFixed.eq_1]
  simp
  refine CallG.go (cloneA l hl) ?_
  simp
  refine CallG.go (nwide_c 2 (by simp)) ?_
  simp
  have e6 := shrb x 8 (by decide)
  have e7 : IntKind.u8.wrap (x : Int) = ((x % 256 : Nat) : Int) := by have := shrb x 0 (by decide); simpa using this
  rw [show (2 : Nat) ^ 8 = 256 from rfl] at e6
  generalize x / 256 % 256 = y6 at *
  generalize x % 256 = y7 at *
  refine LoopW.go irNumsPutFixed_L1.eq_1 (by simp) ?_
  simp [e6, krows_length, krows_one]
  refine ⟨by omega, ?_⟩
  refine LoopW.go irNumsPutFixed_L1.eq_1 (by simp) ?_
  simp [e7, krows_length, krows_one]
  refine ⟨by omega, ?_⟩
  refine LoopW.go irNumsPutFixed_L1.eq_1 (by simp) ?_
  simp
theorem put1_c (l : List Nat) (x : Nat) (hl : l.length ≤ 10000000000) : ACall Tryd.prog 38 [.pv (.sl 1 (krows .u8 l)), .pv (.int .u64 x), .pv (.int .i64 1)] [] (.os 5 1 (krows .u8 (l ++ [x % 256]))) [] [] := by
  refine ACall.fn (fn := Tryd.f38) rfl okNumsPutFixed rfl (by simp) ?_
  simp only [argT, irNumsPutFixed.eq_1]
  simp
  refine CallG.go (cloneA l hl) ?_
  simp
  refine CallG.go (nwide_c 1 (by simp)) ?_
  simp
  have e7 : IntKind.u8.wrap (x : Int) = ((x % 256 : Nat) : Int) := by have := shrb x 0 (by decide); simpa using this
  generalize x % 256 = y7 at *
  refine LoopW.go irNumsPutFixed_L1.eq_1 (by simp) ?_
  simp [e7, krows_length, krows_one]
  refine ⟨by omega, ?_⟩
  refine LoopW.go irNumsPutFixed_L1.eq_1 (by simp) ?_
  simp
theorem new_c (b : List Nat) (hl : b.length ≤ 10000000000) : ACall Tryd.prog 39 [.pv (.sl 1 (krows .u8 b))] [] (.ptr 2000 0) [] [.pagg [.sl 1 (krows .u8 b), .int .i64 0]] := by
  refine ACall.fn (fn := Tryd.f39) rfl okNumsNew rfl (by simp) ?_
  simp only [argT, irNumsNew.eq_1]
  simp
  refine CallG.go (cloneA b hl) ?_
  simp
/-- A reader. -/
def rdP (b : List Nat) (at_ : Nat) : List PV := [.sl 1 (krows .u8 b), .int .i64 (at_ : Nat)]
theorem left_c (b : List Nat) (k : Nat) (hl : b.length ≤ 10000000000) (hk : k ≤ b.length) : ACall Tryd.prog 48 [.ptr 1000 0] [.pagg (rdP b k)] (.pv (.int .i64 (b.length - k : Nat))) [.pagg (rdP b k)] [] := by
  refine ACall.fn (fn := Tryd.f48) rfl okNumsReaderLeft rfl (by simp) ?_
  simp only [argT, irNumsReaderLeft.eq_1]
  have w : IntKind.i64.wrap ((b.length : Int) - (k : Int)) = (b.length - k : Nat) := by rw [wrap_i64] <;> omega
  simp [rdP, krows_length, w]
theorem done_c (b : List Nat) (k : Nat) (hl : b.length ≤ 10000000000) (hk : k ≤ b.length) : ACall Tryd.prog 41 [.ptr 1000 0] [.pagg (rdP b k)] (.pv (.int .i64 (if k < b.length then 2 else 0))) [.pagg (rdP b k)] [] := by
  refine ACall.fn (fn := Tryd.f41) rfl okNumsReaderDone rfl (by simp) ?_
  simp only [argT, irNumsReaderDone.eq_1]
  have c := left_c b k hl hk
  by_cases h : k < b.length
  · have h1 : (0 : Int) < ((b.length - k : Nat) : Int) := by omega
    have h2 : 0 < b.length - k := by omega
    generalize b.length - k = z at *
    simp [rdP] at c ⊢
    refine CallG.go c ?_
    simp [h, h1, h2]
  · have h1 : ¬ (0 : Int) < ((b.length - k : Nat) : Int) := by omega
    have h2 : ¬ 0 < b.length - k := by omega
    generalize b.length - k = z at *
    simp [rdP] at c ⊢
    refine CallG.go c ?_
    simp [h, h1, h2]
end Go.Proofs.YtaekbkjckahccaaDoor
