/- The reader's fixed numbers: contracts. -/
import Derived.Test.YtekpgcohlpkmnaaNumsIrR
set_option linter.unusedVariables false
set_option linter.unusedSimpArgs false
namespace Go.Proofs.Ytekpgcohlpkmnaa
open Go.Abs Go.RowKit Go.Ours

theorem or_byte (x c : Nat) (hx : x < 2 ^ 56) (hc : c < 256) : bits BinOp.or IntKind.u64 (IntKind.u64.wrap ((x : Int) * 2 ^ min 8 IntKind.u64.bits)) (IntKind.u64.wrap (c : Int)) = ((256 * x + c : Nat) : Int) := by
  have h1 : IntKind.u64.wrap ((x : Int) * 2 ^ min 8 IntKind.u64.bits) = ((x * 256 : Nat) : Int) := by
    have : min 8 IntKind.u64.bits = 8 := by simp [IntKind.bits]
    rw [this]
    simp [IntKind.wrap, IntKind.bits, IntKind.signed]
    omega
  have h2 : IntKind.u64.wrap (c : Int) = (c : Int) := by
    simp [IntKind.wrap, IntKind.bits, IntKind.signed]
    omega
  have h3 : (x * 256) ||| c = 256 * x + c := by
    have := Nat.shiftLeft_add_eq_or_of_lt (i := 8) (b := c) (by omega) x
    rw [Nat.shiftLeft_eq] at this
    rw [show (2 : Nat) ^ 8 = 256 from rfl] at this
    omega
  rw [h1, h2, (bits_op .u64 (x * 256) c (by simp [IntKind.bits]; omega) (by simp [IntKind.bits]; omega)).2.1, h3]
  simp [IntKind.wrap, IntKind.bits, IntKind.signed]
  omega
theorem fixed2_c (b : List Nat) (k x y : Nat) (hl : b.length ≤ 10000000000) (hx : b[k]? = some x) (hy : b[k + 1]? = some y) (hx2 : x < 256) (hy2 : y < 256) : ACall Try.prog 41 [.ptr 1000 0, .pv (.int .i64 2)] [.pagg (rdP b k)] (.tup [.pv (.int .u64 (256 * x + y : Nat)), .pv (.int .i64 0)]) [.pagg (rdP b (k + 2))] [] := by
  refine ACall.fn (fn := Try.f41) rfl okNumsReaderFixed rfl (by simp) ?_
  simp only [argT, irNumsReaderFixed.eq_1]
  have hk : k + 1 < b.length := (List.getElem?_eq_some_iff.1 hy).1
  have c := left_c b k hl (by omega)
  have h1 : ¬ ((b.length - k : Nat) : Int) < 2 := by omega
  have h2 : ¬ (b.length - k : Nat) < 2 := by omega
  generalize b.length - k = z at *
  obtain ⟨k1, hk1⟩ : ∃ k1, k1 = k + 1 := ⟨_, rfl⟩
  obtain ⟨k2, hk2⟩ : ∃ k2, k2 = k + 2 := ⟨_, rfl⟩
  rw [← hk1] at hy hk
  rw [← hk2]
  have i1 : (k : Int) < (b.length : Int) := by omega
  have i2 : (k1 : Int) < (b.length : Int) := by omega
  have i3 : k < b.length := by omega
  have w1 : IntKind.i64.wrap ((k : Int) + 1) = (k1 : Int) := by rw [wrap_i64] <;> omega
  have w2 : IntKind.i64.wrap ((k1 : Int) + 1) = (k2 : Int) := by rw [wrap_i64] <;> omega
  have o1 := or_byte 0 x (by omega) hx2
  have o2 := or_byte x y (by omega) hy2
  rw [show ((256 * 0 + x : Nat) : Int) = x by omega] at o1
  generalize (256 * x + y : Nat) = r at *
  simp [rdP] at c ⊢
  refine CallG.go (nwide_c 2 (by simp)) ?_
  simp
  refine CallG.go c ?_
  simp [h1, h2]
  simp at o1
  refine LoopW.go irNumsReaderFixed_L1.eq_1 (by simp) ?_
  simp [-getElem?_pos, krows_length, krows_get, i1, i3, hx, o1, w1]
  refine LoopW.go irNumsReaderFixed_L1.eq_1 (by simp) ?_
  simp [-getElem?_pos, krows_length, krows_get, i2, hk, hy, o2, w2]
  refine LoopW.go irNumsReaderFixed_L1.eq_1 (by simp) ?_
  simp
theorem fixedS_c (b : List Nat) (n k : Nat) (hn : n = 1 ∨ n = 2 ∨ n = 8) (hl : b.length ≤ 10000000000) (hk : k ≤ b.length) (hs : b.length < k + n) : ACall Try.prog 41 [.ptr 1000 0, .pv (.int .i64 (n : Nat))] [.pagg (rdP b k)] (.tup [.pv (.int .u64 0), .pv (.int .i64 1)]) [.pagg (rdP b k)] [] := by
  refine ACall.fn (fn := Try.f41) rfl okNumsReaderFixed rfl (by simp) ?_
  simp only [argT, irNumsReaderFixed.eq_1]
  have c := left_c b k hl (by omega)
  have h1 : ((b.length - k : Nat) : Int) < (n : Int) := by omega
  have h2 : (b.length - k : Nat) < n := by omega
  generalize b.length - k = z at *
  simp [rdP] at c ⊢
  refine CallG.go (nwide_c n hn) ?_
  simp
  refine CallG.go c ?_
  simp [h1, h2]
end Go.Proofs.Ytekpgcohlpkmnaa
