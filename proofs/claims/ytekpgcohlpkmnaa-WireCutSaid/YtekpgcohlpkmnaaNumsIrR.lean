/- The reader's Left and Done: contracts. -/
import Derived.Test.YtekpgcohlpkmnaaNumsIrA
set_option linter.unusedVariables false
set_option linter.unusedSimpArgs false
namespace Go.Proofs.Ytekpgcohlpkmnaa
open Go.Abs Go.RowKit Go.Ours

theorem new_c (b : List Nat) (hl : b.length ≤ 10000000000) : ACall Try.prog 30 [.pv (.sl 1 (krows .u8 b))] [] (.ptr 2000 0) [] [.pagg [.sl 1 (krows .u8 b), .int .i64 0]] := by
  refine ACall.fn (fn := Try.f30) rfl okNumsNew rfl (by simp) ?_
  simp only [argT, irNumsNew.eq_1]
  simp
  refine CallG.go (cloneA b hl) ?_
  simp
/-- A reader. -/
def rdP (b : List Nat) (at_ : Nat) : List PV := [.sl 1 (krows .u8 b), .int .i64 (at_ : Nat)]
theorem left_c (b : List Nat) (k : Nat) (hl : b.length ≤ 10000000000) (hk : k ≤ b.length) : ACall Try.prog 44 [.ptr 1000 0] [.pagg (rdP b k)] (.pv (.int .i64 (b.length - k : Nat))) [.pagg (rdP b k)] [] := by
  refine ACall.fn (fn := Try.f44) rfl okNumsReaderLeft rfl (by simp) ?_
  simp only [argT, irNumsReaderLeft.eq_1]
  have w : IntKind.i64.wrap ((b.length : Int) - (k : Int)) = (b.length - k : Nat) := by rw [wrap_i64] <;> omega
  simp [rdP, krows_length, w]
theorem done_c (b : List Nat) (k : Nat) (hl : b.length ≤ 10000000000) (hk : k ≤ b.length) : ACall Try.prog 40 [.ptr 1000 0] [.pagg (rdP b k)] (.pv (.int .i64 (if k < b.length then 2 else 0))) [.pagg (rdP b k)] [] := by
  refine ACall.fn (fn := Try.f40) rfl okNumsReaderDone rfl (by simp) ?_
  simp only [argT, irNumsReaderDone.eq_1]
  have c := left_c b k hl hk
  by_cases h : k < b.length
  · have h1 : (0 : Int) < ((b.length - k : Nat) : Int) := by omega
    have h2 : 0 < b.length - k := by omega
    generalize b.length - k = z at *
    simp [rdP] at c ⊢
    refine CallG.go c ?_
    simp [h, h1, h2]
  · have h1 : ¬ (0 : Int) < ((b.length - k : Nat) : Int) := by omega
    have h2 : ¬ 0 < b.length - k := by omega
    generalize b.length - k = z at *
    simp [rdP] at c ⊢
    refine CallG.go c ?_
    simp [h, h1, h2]
theorem newr_c (b : List Nat) (hl : b.length ≤ 10000000000) : ACall Try.prog 30 [.pv (.sl 1 (krows .u8 b))] [] (.ptr 2000 0) [] [.pagg (rdP b 0)] := by
  refine ACall.fn (fn := Try.f30) rfl okNumsNew rfl (by simp) ?_
  simp only [argT, irNumsNew.eq_1]
  simp
  refine CallG.go (cloneA b hl) ?_
  simp [rdP]
theorem done0_c (b : List Nat) (k : Nat) (hl : b.length ≤ 10000000000) (hk : k = b.length) : ACall Try.prog 40 [.ptr 1000 0] [.pagg (rdP b k)] (.pv (.int .i64 0)) [.pagg (rdP b k)] [] := by
  have h := done_c b k hl (by omega)
  rwa [if_neg (by omega)] at h
end Go.Proofs.Ytekpgcohlpkmnaa
