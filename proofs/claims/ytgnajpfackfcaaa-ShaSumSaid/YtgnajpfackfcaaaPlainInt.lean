/- Plain laws on machine integers and lists of them, for the abstract machine. No condition. -/
import Derived.Test.YtgnajpfackfcaaaAbsV
set_option linter.unusedVariables false
set_option linter.unusedSimpArgs false
namespace Go.Abs
open Go.RowKit Go.Ours

theorem wrap_u8 (n : Int) (h1 : 0 ≤ n) (h2 : n < 256) : IntKind.u8.wrap n = n := by simp [IntKind.wrap, IntKind.bits, IntKind.signed]; omega
theorem wrap_u16 (n : Int) (h1 : 0 ≤ n) (h2 : n < 65536) : IntKind.u16.wrap n = n := by simp [IntKind.wrap, IntKind.bits, IntKind.signed]; omega
theorem wrap_u32 (n : Int) (h1 : 0 ≤ n) (h2 : n < 4294967296) : IntKind.u32.wrap n = n := by simp [IntKind.wrap, IntKind.bits, IntKind.signed]; omega
theorem wrap_u64 (n : Int) (h1 : 0 ≤ n) (h2 : n < 18446744073709551616) : IntKind.u64.wrap n = n := by simp [IntKind.wrap, IntKind.bits, IntKind.signed]; omega
theorem wrap_i64 (n : Int) (h1 : -9223372036854775808 ≤ n) (h2 : n < 9223372036854775808) : IntKind.i64.wrap n = n := by simp [IntKind.wrap, IntKind.bits, IntKind.signed]; omega
attribute [simp] wrap_u8 wrap_u16 wrap_u32 wrap_u64 wrap_i64
@[simp] theorem beq_cast (x y : Nat) : ((x : Int) == (y : Int)) = decide (x = y) := by
  by_cases h : x = y <;> simp [h]
  omega
@[simp] theorem bne_cast (x y : Nat) : ((x : Int) != (y : Int)) = !decide (x = y) := by simp [bne]
@[simp] theorem toNat_lit (j n : Nat) : ((j : Int) + (no_index (OfNat.ofNat n : Int))).toNat = j + n := by
  show ((j : Int) + (n : Int)).toNat = j + n
  omega
@[simp] theorem nonneg_lit (j n : Nat) : (0 ≤ (j : Int) + (no_index (OfNat.ofNat n : Int))) = True := by
  apply eq_true
  show 0 ≤ (j : Int) + (n : Int)
  omega
theorem shr_nat (x n : Nat) : (x : Int).fdiv (2 ^ n) = ((x / 2 ^ n : Nat) : Int) := by
  rw [Int.fdiv_eq_ediv_of_nonneg _ (by exact Int.le_of_lt (Int.pow_pos (by decide)))]
  norm_cast
theorem and_15 (x : Nat) (hx : x < 256) : bits BinOp.and IntKind.u8 (x : Int) 15 = ((x % 16 : Nat) : Int) := by
  have h : ∀ a : _root_.Fin 256, bits BinOp.and IntKind.u8 ((a.val : Nat) : Int) 15 = ((a.val % 16 : Nat) : Int) := by decide +kernel
  exact h ⟨x, hx⟩

theorem bits_op (k : IntKind) (a b : Nat) (ha : a < 2 ^ k.bits) (hb : b < 2 ^ k.bits) :
    bits .and k (a : Int) (b : Int) = k.wrap ((a &&& b : Nat) : Int) ∧ bits .or k (a : Int) (b : Int) = k.wrap ((a ||| b : Nat) : Int) ∧ bits .xor k (a : Int) (b : Int) = k.wrap ((a ^^^ b : Nat) : Int) := by
  have h1 : (BitVec.ofInt k.bits (a : Int)).toNat = a := by
    rw [BitVec.ofInt_natCast, BitVec.toNat_ofNat]; exact Nat.mod_eq_of_lt ha
  have h2 : (BitVec.ofInt k.bits (b : Int)).toNat = b := by
    rw [BitVec.ofInt_natCast, BitVec.toNat_ofNat]; exact Nat.mod_eq_of_lt hb
  refine ⟨?_, ?_, ?_⟩ <;> simp only [bits, BitVec.toNat_and, BitVec.toNat_or, BitVec.toNat_xor, h1, h2]
theorem mask4_i64 (x : Nat) (hx : x < 2 ^ 63) : bits BinOp.and IntKind.i64 (x : Int) 15 = ((x % 16 : Nat) : Int) := by
  have := (bits_op .i64 x 15 (by simp [IntKind.bits]; omega) (by simp [IntKind.bits])).1
  rw [Nat.and_two_pow_sub_one_eq_mod x 4] at this
  rw [wrap_i64 _ (by omega) (by omega)] at this
  exact this
/-- A row of whole numbers. -/
def kns (k : IntKind) (l : List Nat) : List PV := l.map fun (n : Nat) => PV.int k (n : Int)
theorem kns_get (k : IntKind) (l : List Nat) (i : Nat) : (kns k l)[i]? = l[i]?.map fun (n : Nat) => PV.int k (n : Int) := by simp [kns]
theorem kns_length (k : IntKind) (l : List Nat) : (kns k l).length = l.length := by simp [kns]
theorem kns_set (k : IntKind) (l : List Nat) (i n : Nat) : (kns k l).set i (.int k (n : Int)) = kns k (l.set i n) := by simp [kns, List.map_set]
theorem kns_rep (k : IntKind) (n : Nat) : List.replicate n (PV.int k 0) = kns k (List.replicate n 0) := by simp [kns]
/-- A slice's row of whole numbers. -/
def krows (k : IntKind) (l : List Nat) : List (List PV) := l.map fun (n : Nat) => [PV.int k (n : Int)]
theorem krows_get (k : IntKind) (l : List Nat) (i : Nat) : (krows k l)[i]? = l[i]?.map fun (n : Nat) => [PV.int k (n : Int)] := by simp [krows]
theorem krows_length (k : IntKind) (l : List Nat) : (krows k l).length = l.length := by simp [krows]
theorem krows_one (k : IntKind) (l : List Nat) (a : Nat) : krows k l ++ [[.int k (a : Int)]] = krows k (l ++ [a]) := by simp [krows]
theorem krows_two (k : IntKind) (l : List Nat) (a b : Nat) : krows k l ++ [[.int k (a : Int)], [.int k (b : Int)]] = krows k (l ++ [a, b]) := by simp [krows]
theorem krows_three (k : IntKind) (l : List Nat) (a b c : Nat) : krows k l ++ [[.int k (a : Int)], [.int k (b : Int)], [.int k (c : Int)]] = krows k (l ++ [a, b, c]) := by simp [krows]
theorem kns_nil (k : IntKind) : kns k [] = [] := rfl
theorem kns_app (k : IntKind) (l m : List Nat) : kns k l ++ kns k m = kns k (l ++ m) := by simp [kns]
end Go.Abs
