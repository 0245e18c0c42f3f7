/- Unfold, the reader's folded numbers, one byte numbers: contracts. -/
import Derived.Test.YtgfmemjobpodkaaNumsIrRd
import Derived.Test.YtgfmemjobpodkaaNumsIrX
set_option linter.unusedVariables false
set_option linter.unusedSimpArgs false
namespace Go.Proofs.Ytgfmemjobpodkaa
open Go.Abs Go.RowKit Go.Ours

theorem ofInt64 (a : Nat) (ha : a < 18446744073709551616) : BitVec.ofInt 64 (a : Int) = BitVec.ofNat 64 a := BitVec.ofInt_natCast 64 a
theorem xor_neg1 (a : Nat) (ha : a < 9223372036854775808) : bits BinOp.xor IntKind.i64 (a : Int) (-1) = -(a : Int) - 1 := by
  show IntKind.i64.wrap ((BitVec.ofInt 64 (a : Int) ^^^ BitVec.ofInt 64 (-1)).toNat : Int) = _
  have h1 : BitVec.ofInt 64 (-1) = BitVec.allOnes 64 := by decide
  rw [h1, BitVec.xor_allOnes, BitVec.toNat_not, ofInt64 a (by omega), BitVec.toNat_ofNat, Nat.mod_eq_of_lt (by omega)]
  simp [IntKind.wrap, IntKind.bits, IntKind.signed]
  omega
theorem xor_0 (a : Nat) (ha : a < 9223372036854775808) : bits BinOp.xor IntKind.i64 (a : Int) 0 = (a : Int) := by
  show IntKind.i64.wrap ((BitVec.ofInt 64 (a : Int) ^^^ BitVec.ofInt 64 0).toNat : Int) = _
  have h1 : BitVec.ofInt 64 0 = 0#64 := by decide
  rw [h1, BitVec.xor_zero, ofInt64 a (by omega), BitVec.toNat_ofNat, Nat.mod_eq_of_lt (by omega)]
  simp [IntKind.wrap, IntKind.bits, IntKind.signed]
  omega
theorem and_one (x : Nat) (hx : x < 18446744073709551616) : bits BinOp.and IntKind.u64 (x : Int) 1 = ((x % 2 : Nat) : Int) := by
  have := (bits_op .u64 x 1 hx (by decide)).1
  rw [show ((1 : Nat) : Int) = 1 from rfl] at this
  rw [this, Nat.and_one_is_mod]
  simp [IntKind.wrap, IntKind.bits, IntKind.signed]
  omega
theorem unfold_c (n : Int) (hn : -9223372036854775808 ≤ n ∧ n < 9223372036854775808) : ACall Try.prog 43 [.pv (.int .u64 (foldN n : Nat))] [] (.pv (.int .i64 n)) [] [] := by
  refine ACall.fn (fn := Try.f43) rfl okNumsUnfold rfl (by simp) ?_
  simp only [argT, irNumsUnfold.eq_1]
  have hf := foldN_lt n hn
  have a1 := and_one (foldN n) hf
  have sh : ((foldN n : Nat) : Int).fdiv (2 ^ min 1 IntKind.u64.bits) = ((foldN n / 2 : Nat) : Int) := shr_nat (foldN n) 1
  have w1 : IntKind.i64.wrap ((foldN n / 2 : Nat) : Int) = ((foldN n / 2 : Nat) : Int) := by rw [wrap_i64] <;> omega
  by_cases h : n < 0
  · have e1 : foldN n / 2 = (-n - 1).toNat := by unfold foldN; rw [if_pos h]; omega
    have e2 : foldN n % 2 = 1 := by unfold foldN; rw [if_pos h]; omega
    have x1 := xor_neg1 (-n - 1).toNat (by omega)
    rw [show -(((-n - 1).toNat : Nat) : Int) - 1 = n by omega] at x1
    rw [e1] at sh w1
    rw [e2] at a1
    have w2 : IntKind.i64.wrap ((1 : Nat) : Int) = 1 := by decide
    have w3 : IntKind.i64.wrap (-1) = -1 := by decide
    generalize (-n - 1).toNat = q at *
    generalize foldN n = f at *
    rw [show ((1 : Nat) : Int) = 1 from rfl] at a1 w2
    simp [sh, a1, w1, w2, w3, x1]
  · have e1 : foldN n / 2 = n.toNat := by unfold foldN; rw [if_neg h]; omega
    have e2 : foldN n % 2 = 0 := by unfold foldN; rw [if_neg h]; omega
    have x1 := xor_0 n.toNat (by omega)
    rw [Int.toNat_of_nonneg (by omega)] at x1
    rw [e1, Int.toNat_of_nonneg (by omega)] at sh w1
    rw [e2] at a1
    have w2 : IntKind.i64.wrap 0 = 0 := by decide
    generalize foldN n = f at *
    rw [show ((0 : Nat) : Int) = 0 from rfl] at a1
    simp [sh, a1, w1, w2, x1]
theorem folded_c (b r : List Nat) (k : Nat) (n : Int) (hl : b.length ≤ 10000000000) (hn : -9223372036854775808 ≤ n ∧ n < 9223372036854775808) (hd : b.drop k = packed (foldN n) ++ r) : ACall Try.prog 41 [.ptr 1000 0] [.pagg (rdP b k)] (.tup [.pv (.int .i64 n), .pv (.int .i64 0)]) [.pagg (rdP b (k + (packed (foldN n)).length))] [] := by
  refine ACall.fn (fn := Try.f41) rfl okNumsReaderFolded rfl (by simp) ?_
  simp only [argT, irNumsReaderFolded.eq_1]
  have c := packedAt_c b r k (foldN n) hl (foldN_lt n hn) hd
  have u := unfold_c n hn
  generalize k + (packed (foldN n)).length = k2 at *
  generalize foldN n = f at *
  generalize rdP b k = q at *
  generalize rdP b k2 = q2 at *
  simp
  refine CallG.go c ?_
  simp
  refine CallG.go u ?_
  simp
theorem fixed1_c (b : List Nat) (k x : Nat) (hl : b.length ≤ 10000000000) (hx : b[k]? = some x) (hx2 : x < 256) : ACall Try.prog 40 [.ptr 1000 0, .pv (.int .i64 1)] [.pagg (rdP b k)] (.tup [.pv (.int .u64 (x : Nat)), .pv (.int .i64 0)]) [.pagg (rdP b (k + 1))] [] := by
  refine ACall.fn (fn := Try.f40) rfl okNumsReaderFixed rfl (by simp) ?_
  simp only [argT, irNumsReaderFixed.eq_1]
  have hk : k < b.length := (List.getElem?_eq_some_iff.1 hx).1
  have c := left_c b k hl (by omega)
  have h1 : ¬ ((b.length - k : Nat) : Int) < 1 := by omega
  have h2 : ¬ (b.length - k : Nat) < 1 := by omega
  generalize b.length - k = z at *
  obtain ⟨k1, hk1⟩ : ∃ k1, k1 = k + 1 := ⟨_, rfl⟩
  rw [← hk1]
  have i1 : (k : Int) < (b.length : Int) := by omega
  have w1 : IntKind.i64.wrap ((k : Int) + 1) = (k1 : Int) := by rw [wrap_i64] <;> omega
  have o1 := or_byte 0 x (by omega) hx2
  rw [show ((256 * 0 + x : Nat) : Int) = x by omega] at o1
  simp [rdP] at c ⊢
  refine CallG.go (nwide_c 1 (by simp)) ?_
  simp
  refine CallG.go c ?_
  simp [h1, h2]
  simp at o1
  refine LoopW.go irNumsReaderFixed_L1.eq_1 (by simp) ?_
  simp [-getElem?_pos, krows_length, krows_get, i1, hk, hx, o1, w1]
  refine LoopW.go irNumsReaderFixed_L1.eq_1 (by simp) ?_
  simp
end Go.Proofs.Ytgfmemjobpodkaa
