/- Contracts of nums and of the document's: merged. -/
import Derived.Test.YtdbbbaaopngbcaaIrNums
import Derived.Test.YtdbbbaaopngbcaaPlainNums
import Derived.Test.YtdbbbaaopngbcaaPlainFold
import Derived.Test.YtdbbbaaopngbcaaPlainRead
set_option linter.unusedVariables false
set_option linter.unusedSimpArgs false
section
/- Contracts of nums' fixed numbers, as the abstract machine tells them. -/
namespace Go.Proofs.Ytdbbbaaopngbcaa
open Go.Abs Go.RowKit Go.Ours

theorem nwide_c (n : Nat) (h : n = 1 ∨ n = 2 ∨ n = 8) : ACall Try.prog 53 [.pv (.int .i64 (n : Nat))] [] (.pv (.bool true)) [] [] := by
  refine ACall.fn (fn := Try.f53) rfl okNumsWide rfl (by simp) ?_
  simp only [argT, irNumsWide.eq_1]
  rcases h with rfl | rfl | rfl <;> simp
theorem shrb (x : Nat) (m : Nat) (hm : m ≤ 64) : IntKind.u8.wrap ((x : Int).fdiv (2 ^ min m IntKind.u64.bits)) = ((x / 2 ^ m % 256 : Nat) : Int) := by
  have : min m IntKind.u64.bits = m := by simp [IntKind.bits]; omega
  rw [this, shr_nat]
  simp [IntKind.wrap, IntKind.bits, IntKind.signed]
theorem put2_c (l : List Nat) (x : Nat) (hl : l.length ≤ 10000000000) : ACall Try.prog 28 [.pv (.sl 1 (krows .u8 l)), .pv (.int .u64 x), .pv (.int .i64 2)] [] (.os 5 1 (krows .u8 (l ++ [x / 256 % 256, x % 256]))) [] [] := by
  refine ACall.fn (fn := Try.f28) rfl okNumsPutFixed rfl (by simp) ?_
  simp only [argT, irNumsPutFixed.eq_1]
  simp
  refine CallG.go (cloneA l hl) ?_
  simp
  refine CallG.go (nwide_c 2 (by simp)) ?_
  simp
  have e6 := shrb x 8 (by decide)
  have e7 : IntKind.u8.wrap (x : Int) = ((x % 256 : Nat) : Int) := by have := shrb x 0 (by decide); simpa using this
  rw [show (2 : Nat) ^ 8 = 256 from rfl] at e6
  generalize x / 256 % 256 = y6 at *
  generalize x % 256 = y7 at *
  refine LoopW.go irNumsPutFixed_L1.eq_1 (by simp) ?_
  simp [e6, krows_length, krows_one]
  refine ⟨by omega, ?_⟩
  refine LoopW.go irNumsPutFixed_L1.eq_1 (by simp) ?_
  simp [e7, krows_length, krows_one]
  refine ⟨by omega, ?_⟩
  refine LoopW.go irNumsPutFixed_L1.eq_1 (by simp) ?_
  simp
theorem put1_c (l : List Nat) (x : Nat) (hl : l.length ≤ 10000000000) : ACall Try.prog 28 [.pv (.sl 1 (krows .u8 l)), .pv (.int .u64 x), .pv (.int .i64 1)] [] (.os 5 1 (krows .u8 (l ++ [x % 256]))) [] [] := by
  refine ACall.fn (fn := Try.f28) rfl okNumsPutFixed rfl (by simp) ?_
  simp only [argT, irNumsPutFixed.eq_1]
  simp
  refine CallG.go (cloneA l hl) ?_
  simp
  refine CallG.go (nwide_c 1 (by simp)) ?_
  simp
  have e7 : IntKind.u8.wrap (x : Int) = ((x % 256 : Nat) : Int) := by have := shrb x 0 (by decide); simpa using this
  generalize x % 256 = y7 at *
  refine LoopW.go irNumsPutFixed_L1.eq_1 (by simp) ?_
  simp [e7, krows_length, krows_one]
  refine ⟨by omega, ?_⟩
  refine LoopW.go irNumsPutFixed_L1.eq_1 (by simp) ?_
  simp
end Go.Proofs.Ytdbbbaaopngbcaa
end

section
/- The document's Same: its contract. -/
namespace Go.Proofs.Ytdbbbaaopngbcaa
open Go.Abs Go.RowKit Go.Ours

theorem same_l (a b : List Nat) (h : a.length = b.length) (la : a.length < 1000000000000) : ∀ (n k : Nat), k + n = a.length → a.take k = b.take k → ∀ (Q : Exit → S → Prop),
   (a = b → ∀ p q r u v w, Q (.exit 0) (mk [(0, p), (1, q), (5, r), (11, u), (12, v), (13, w), (14, .pv (.bool false))] [])) →
   (a ≠ b → Q .ret (mk [(4, .pv (.bool false))] [])) →
   LoopW Try.prog [0, 1, 5] [] irRef01Same_L1 (mk [(0, .pv (.sl 1 (krows .u8 a))), (1, .pv (.sl 1 (krows .u8 b))), (5, .pv (.int .i64 k))] []) Q := by
  intro n
  induction n with
  | zero =>
    intro k hk ht Q h1 h2
    obtain rfl : k = a.length := by omega
    rw [List.take_length, h, List.take_length] at ht
    refine LoopW.go irRef01Same_L1.eq_1 (by simp) ?_
    simp [krows_length]
    exact h1 ht _ _ _ _ _ _
  | succ n ih =>
    intro k hk ht Q h1 h2
    have i1 : k < a.length := by omega
    obtain ⟨x, hx⟩ : ∃ x, a[k]? = some x := ⟨_, List.getElem?_eq_getElem (by omega)⟩
    obtain ⟨y, hy⟩ : ∃ y, b[k]? = some y := ⟨_, List.getElem?_eq_getElem (by omega)⟩
    have w : IntKind.i64.wrap ((k : Int) + 1) = (k + 1 : Nat) := by rw [wrap_i64] <;> omega
    refine LoopW.go irRef01Same_L1.eq_1 (by simp) ?_
    simp [-getElem?_pos, krows_length, krows_get, i1, hx, hy, w]
    constructor
    · intro hne
      exact h2 fun he => by subst he; rw [hx] at hy; cases hy; exact hne rfl
    · intro he
      subst he
      exact ih (k + 1) (by omega) (by rw [List.take_add_one, List.take_add_one, ht, hx, hy]) Q h1 h2
theorem same_c (a b : List Nat) (la : a.length < 1000000000000) : ACall Try.prog 16 [.pv (.sl 1 (krows .u8 a)), .pv (.sl 1 (krows .u8 b))] [] (.pv (.bool (decide (a = b)))) [] [] := by
  refine ACall.fn (fn := Try.f16) rfl okRef01Same rfl (by simp) ?_
  simp only [argT, irRef01Same.eq_1]
  by_cases h : a.length = b.length
  · simp [krows_length, h]
    refine same_l a b h la a.length 0 (by omega) (by simp) _ (fun he p q r u v w => ?_) fun hne => ?_
    · simp [he]
    · simp [hne]
  · have hne : a ≠ b := fun e => h (by rw [e])
    simp [krows_length, h, hne]
end Go.Proofs.Ytdbbbaaopngbcaa
end

section
/- The document's fixed numbers: contracts. -/
namespace Go.Proofs.Ytdbbbaaopngbcaa
open Go.Abs Go.RowKit Go.Ours

theorem rwide_c (n : Nat) (h : n = 1 ∨ n = 2 ∨ n = 8) : ACall Try.prog 56 [.pv (.int .i64 (n : Nat))] [] (.pv (.bool true)) [] [] := by
  refine ACall.fn (fn := Try.f56) rfl okRef01Wide rfl (by simp) ?_
  simp only [argT, irRef01Wide.eq_1]
  rcases h with rfl | rfl | rfl <;> simp
theorem refFixed2_c (x : Nat) (hx : x < 18446744073709551616) : ACall Try.prog 34 [.pv (.int .u64 (x : Nat)), .pv (.int .i64 2)] [] (.os 5 1 (krows .u8 [x / 256 % 256, x % 256])) [] [] := by
  refine ACall.fn (fn := Try.f34) rfl okRef01Fixed rfl (by simp) ?_
  simp only [argT, irRef01Fixed.eq_1]
  have t : (x : Int).tdiv 256 = ((x / 256 : Nat) : Int) := rfl
  have t1 : ((x / 256 : Nat) : Int).tmod 256 = ((x / 256 % 256 : Nat) : Int) := rfl
  have t2 : (x : Int).tmod 256 = ((x % 256 : Nat) : Int) := rfl
  have w1 : IntKind.u8.wrap ((x / 256 % 256 : Nat) : Int) = ((x / 256 % 256 : Nat) : Int) := by simp [IntKind.wrap, IntKind.bits, IntKind.signed]
  have w2 : IntKind.u8.wrap ((x % 256 : Nat) : Int) = ((x % 256 : Nat) : Int) := by simp [IntKind.wrap, IntKind.bits, IntKind.signed]
  have w3 : IntKind.u64.wrap ((x / 256 : Nat) : Int) = ((x / 256 : Nat) : Int) := by simp [IntKind.wrap, IntKind.bits, IntKind.signed]; omega
  have k1 : krows .u8 [x / 256 % 256] = [[.int .u8 ((x / 256 % 256 : Nat) : Int)]] := rfl
  have k2 : krows .u8 [x / 256 % 256, x % 256] = [[.int .u8 ((x / 256 % 256 : Nat) : Int)], [.int .u8 ((x % 256 : Nat) : Int)]] := rfl
  rw [k2]
  generalize x / 256 % 256 = y6 at *
  generalize x % 256 = y7 at *
  generalize x / 256 = y5 at *
  simp
  refine CallG.go (rwide_c 2 (by simp)) ?_
  simp
  refine LoopW.go irRef01Fixed_L1.eq_1 (by simp) ?_
  simp
  refine LoopW.go irRef01Fixed_L2.eq_1 (by simp) ?_
  simp [t, w3]
  refine LoopW.go irRef01Fixed_L2.eq_1 (by simp) ?_
  simp [t1, w1]
  refine LoopW.go irRef01Fixed_L1.eq_1 (by simp) ?_
  simp
  refine LoopW.go irRef01Fixed_L2.eq_1 (by simp) ?_
  simp [t2, w2]
  refine LoopW.go irRef01Fixed_L1.eq_1 (by simp) ?_
  simp
end Go.Proofs.Ytdbbbaaopngbcaa
end

section
/- The document's Join: its contract. -/
namespace Go.Proofs.Ytdbbbaaopngbcaa
open Go.Abs Go.RowKit Go.Ours

theorem join_c (a b : List Nat) (ha : a.length ≤ 10000000000) (hb : b.length ≤ 10000000000) : ACall Try.prog 33 [.pv (.sl 1 (krows .u8 a)), .pv (.sl 1 (krows .u8 b))] [] (.os 5 1 (krows .u8 (a ++ b))) [] [] := by
  refine ACall.fn (fn := Try.f33) rfl okRef01Join rfl (by simp) ?_
  simp only [argT, irRef01Join.eq_1]
  simp [krows_length, krows_app]
  refine ⟨by omega, by omega⟩
end Go.Proofs.Ytdbbbaaopngbcaa
end

section
/- Packed and folded numbers: contracts. -/
namespace Go.Proofs.Ytdbbbaaopngbcaa
open Go.Abs Go.RowKit Go.Ours

theorem or_128 (x : Nat) : bits BinOp.or IntKind.u8 (IntKind.u8.wrap (x : Int)) 128 = ((x % 128 + 128 : Nat) : Int) := by
  have h : ∀ a : _root_.Fin 256, bits BinOp.or IntKind.u8 ((a.val : Nat) : Int) 128 = ((a.val % 128 + 128 : Nat) : Int) := by decide +kernel
  have e : IntKind.u8.wrap (x : Int) = ((x % 256 : Nat) : Int) := by simp [IntKind.wrap, IntKind.bits, IntKind.signed]
  rw [e, h ⟨x % 256, by omega⟩]
  simp only
  omega
theorem ppl : ∀ (n x : Nat) (L : List Nat), x < 128 ^ (n + 1) → x < 18446744073709551616 → L.length + n ≤ 50000000000 → ∀ (Q : Exit → S → Prop),
   (∀ y L' a, y < 128 → L' ++ [y] = L ++ packed x → L'.length ≤ 50000000000 → Q (.exit 0) (mk [(1, .pv (.int .u64 (y : Nat))), (5, .os 5 1 (krows .u8 L')), (8, a), (9, .pv (.bool false))] [])) →
   LoopW Try.prog [1, 5] [] irNumsPutPacked_L1 (mk [(1, .pv (.int .u64 (x : Nat))), (5, .os 5 1 (krows .u8 L))] []) Q := by
  intro n
  induction n with
  | zero =>
    intro x L hx _ hl Q hQ
    have h1 : ¬ 128 ≤ (x : Int) := by omega
    refine LoopW.go irNumsPutPacked_L1.eq_1 (by simp) ?_
    simp [h1]
    exact hQ x L _ (by omega) (by rw [packed_small (by omega)]) (by omega)
  | succ n ih =>
    intro x L hx hx2 hl Q hQ
    by_cases h : x < 128
    · have h1 : ¬ 128 ≤ (x : Int) := by omega
      refine LoopW.go irNumsPutPacked_L1.eq_1 (by simp) ?_
      simp [h1]
      exact hQ x L _ (by omega) (by rw [packed_small (by omega)]) (by omega)
    · have h1 : 128 ≤ (x : Int) := by omega
      have hn := ih (x / 128) (L ++ [x % 128 + 128]) (by rw [Nat.pow_succ] at hx; omega) (by omega) (by simp; omega) Q (fun y L' a hy he hl' => hQ y L' a hy (by rw [he, packed_big (x := x) (by omega), List.append_assoc]; rfl) hl')
      have e1 := or_128 x
      have e2 : (x : Int).fdiv (2 ^ min 7 IntKind.u64.bits) = ((x / 128 : Nat) : Int) := shr_nat x 7
      generalize x % 128 + 128 = v at *
      generalize x / 128 = z at *
      refine LoopW.go irNumsPutPacked_L1.eq_1 (by simp) ?_
      simp [h1, e1, e2, krows_length, krows_one]
      exact ⟨by omega, hn⟩
theorem putPacked_c (b : List Nat) (x : Nat) (hb : b.length ≤ 10000000000) (hx : x < 18446744073709551616) : ACall Try.prog 55 [.pv (.sl 1 (krows .u8 b)), .pv (.int .u64 x)] [] (.os 5 1 (krows .u8 (b ++ packed x))) [] [] := by
  refine ACall.fn (fn := Try.f55) rfl okNumsPutPacked rfl (by simp) ?_
  simp only [argT, irNumsPutPacked.eq_1]
  simp
  refine CallG.go (cloneA b hb) ?_
  simp
  refine ppl 9 x b (by omega) hx (by omega) _ fun y L' a hy he hl => ?_
  have e1 : IntKind.u8.wrap (y : Int) = (y : Int) := by rw [wrap_u8] <;> omega
  simp [e1, krows_length, krows_one, he]
  omega
theorem rpl : ∀ (n x : Nat) (L : List Nat), x < 128 ^ (n + 1) → x < 18446744073709551616 → L.length + n ≤ 50000000000 → ∀ (Q : Exit → S → Prop),
   (∀ y L' a, y < 128 → L' ++ [y] = L ++ packed x → L'.length ≤ 50000000000 → Q (.exit 0) (mk [(0, .pv (.int .u64 (y : Nat))), (3, .os 5 1 (krows .u8 L')), (4, a), (5, .pv (.bool false))] [])) →
   LoopW Try.prog [0, 3] [] irRef01Packed_L1 (mk [(0, .pv (.int .u64 (x : Nat))), (3, .os 5 1 (krows .u8 L))] []) Q := by
  intro n
  induction n with
  | zero =>
    intro x L hx _ hl Q hQ
    have h1 : ¬ 127 < (x : Int) := by omega
    refine LoopW.go irRef01Packed_L1.eq_1 (by simp) ?_
    simp [h1]
    exact hQ x L _ (by omega) (by rw [packed_small (by omega)]) (by omega)
  | succ n ih =>
    intro x L hx hx2 hl Q hQ
    by_cases h : x < 128
    · have h1 : ¬ 127 < (x : Int) := by omega
      refine LoopW.go irRef01Packed_L1.eq_1 (by simp) ?_
      simp [h1]
      exact hQ x L _ (by omega) (by rw [packed_small (by omega)]) (by omega)
    · have h1 : 127 < (x : Int) := by omega
      have hn := ih (x / 128) (L ++ [x % 128 + 128]) (by rw [Nat.pow_succ] at hx; omega) (by omega) (by simp; omega) Q (fun y L' a hy he hl' => hQ y L' a hy (by rw [he, packed_big (x := x) (by omega), List.append_assoc]; rfl) hl')
      obtain ⟨r, hr⟩ : ∃ r, r = x % 128 := ⟨_, rfl⟩
      obtain ⟨z, hz⟩ : ∃ z, z = x / 128 := ⟨_, rfl⟩
      rw [← hr, ← hz] at hn
      have e1 : (x : Int).tmod 128 = (r : Int) := by rw [hr]; rfl
      have e2 : (x : Int).tdiv 128 = (z : Int) := by rw [hz]; rfl
      have e3 : IntKind.u64.wrap ((r : Int) + 128) = ((r + 128 : Nat) : Int) := by rw [wrap_u64] <;> omega
      have e4 : IntKind.u8.wrap ((r + 128 : Nat) : Int) = ((r + 128 : Nat) : Int) := by rw [wrap_u8] <;> omega
      have e5 : IntKind.u64.wrap (z : Int) = (z : Int) := by rw [wrap_u64] <;> omega
      generalize r + 128 = v at *
      refine LoopW.go irRef01Packed_L1.eq_1 (by simp) ?_
      simp [h1, e1, e2, e3, e4, e5, krows_length, krows_one]
      exact ⟨by omega, hn⟩
theorem refPacked_c (x : Nat) (hx : x < 18446744073709551616) : ACall Try.prog 57 [.pv (.int .u64 x)] [] (.os 5 1 (krows .u8 (packed x))) [] [] := by
  refine ACall.fn (fn := Try.f57) rfl okRef01Packed rfl (by simp) ?_
  simp only [argT, irRef01Packed.eq_1]
  simp
  refine rpl 9 x [] (by omega) hx (by simp) _ fun y L' a hy he hl => ?_
  rw [List.nil_append] at he
  have e1 : IntKind.u8.wrap (y : Int) = (y : Int) := by rw [wrap_u8] <;> omega
  simp [e1, krows_length, krows_one, he]
  omega
/-- A text, told apart. -/
def txt (t : List Nat) : List Nat := packed t.length ++ t
theorem fold_c (x : Int) (hx : -9223372036854775808 ≤ x ∧ x < 9223372036854775808) : ACall Try.prog 72 [.pv (.int .i64 x)] [] (.pv (.int .u64 (foldN x : Nat))) [] [] := by
  refine ACall.fn (fn := Try.f72) rfl okNumsFold rfl (by simp) ?_
  simp only [argT, irNumsFold.eq_1]
  have e := fold_bits x hx
  simp [e]
theorem putFolded_c (b : List Nat) (x : Int) (hb : b.length ≤ 10000000000) (hx : -9223372036854775808 ≤ x ∧ x < 9223372036854775808) : ACall Try.prog 54 [.pv (.sl 1 (krows .u8 b)), .pv (.int .i64 x)] [] (.os 5 1 (krows .u8 (b ++ packed (foldN x)))) [] [] := by
  refine ACall.fn (fn := Try.f54) rfl okNumsPutFolded rfl (by simp) ?_
  simp only [argT, irNumsPutFolded.eq_1]
  simp
  refine CallG.go (fold_c x hx) ?_
  simp
  refine CallG.go (putPacked_c b (foldN x) hb (foldN_lt x hx)) ?_
  simp
end Go.Proofs.Ytdbbbaaopngbcaa
end

section
/- The document's Fold: its contract. -/
namespace Go.Proofs.Ytdbbbaaopngbcaa
open Go.Abs Go.RowKit Go.Ours

def I64 (n : Int) : Prop := -9223372036854775808 ≤ n ∧ n < 9223372036854775808
theorem refFold_c (x : Int) (hx : I64 x) : ACall Try.prog 58 [.pv (.int .i64 x)] [] (.pv (.int .u64 (foldN x : Nat))) [] [] := by
  refine ACall.fn (fn := Try.f58) rfl okRef01Fold rfl (by simp) ?_
  simp only [argT, irRef01Fold.eq_1]
  unfold I64 at hx
  unfold foldN
  by_cases h : x < 0
  · have w1 : IntKind.i64.wrap (x + 1) = x + 1 := by rw [wrap_i64] <;> omega
    have w2 : IntKind.i64.wrap (-(x + 1)) = -(x + 1) := by rw [wrap_i64] <;> omega
    have w3 : IntKind.u64.wrap (-(x + 1)) = -(x + 1) := by simp [IntKind.wrap, IntKind.bits, IntKind.signed]; omega
    have w4 : IntKind.u64.wrap (2 * -(x + 1)) = 2 * -(x + 1) := by simp [IntKind.wrap, IntKind.bits, IntKind.signed]; omega
    have w5 : IntKind.u64.wrap (2 * -(x + 1) + 1) = (((-2 * x - 1).toNat : Nat) : Int) := by simp [IntKind.wrap, IntKind.bits, IntKind.signed]; omega
    rw [if_pos h]
    generalize (-2 * x - 1).toNat = z at *
    generalize hy : -(x + 1) = y at *
    simp [h, w1, w2, w3, w4, w5, hy]
  · have w3 : IntKind.u64.wrap x = x := by simp [IntKind.wrap, IntKind.bits, IntKind.signed]; omega
    have w4 : IntKind.u64.wrap (2 * x) = (((2 * x).toNat : Nat) : Int) := by simp [IntKind.wrap, IntKind.bits, IntKind.signed]; omega
    rw [if_neg h]
    generalize (2 * x).toNat = z at *
    simp [h, w3, w4]
end Go.Proofs.Ytdbbbaaopngbcaa
end

section
/- Texts, digests' bytes: contracts. -/
namespace Go.Proofs.Ytdbbbaaopngbcaa
open Go.Abs Go.RowKit Go.Ours

theorem putText_c (b t : List Nat) (hb : b.length ≤ 10000000000) (ht : t.length ≤ 10000000000) : ACall Try.prog 31 [.pv (.sl 1 (krows .u8 b)), .pv (.sl 1 (krows .u8 t))] [] (.os 5 1 (krows .u8 (b ++ txt t))) [] [] := by
  refine ACall.fn (fn := Try.f31) rfl okNumsPutText rfl (by simp) ?_
  simp only [argT, irNumsPutText.eq_1]
  have hc := putPacked_c b t.length hb (by omega)
  have w1 : IntKind.u64.wrap (t.length : Int) = t.length := by rw [wrap_u64] <;> omega
  have hp := packed_len64 t.length (by omega)
  simp [krows_length, w1]
  refine CallG.go hc ?_
  simp [krows_length, krows_app, txt]
  omega
theorem refText_c (t : List Nat) (ht : t.length ≤ 10000000000) : ACall Try.prog 35 [.pv (.sl 1 (krows .u8 t))] [] (.os 5 1 (krows .u8 (txt t))) [] [] := by
  refine ACall.fn (fn := Try.f35) rfl okRef01Text rfl (by simp) ?_
  simp only [argT, irRef01Text.eq_1]
  have hc := refPacked_c t.length (by omega)
  have w1 : IntKind.u64.wrap (t.length : Int) = t.length := by rw [wrap_u64] <;> omega
  have hp := packed_len64 t.length (by omega)
  simp [krows_length, w1]
  refine CallG.go hc ?_
  simp [krows_length, krows_app, txt]
  omega
end Go.Proofs.Ytdbbbaaopngbcaa
end

section
/- The reader's Left and Done: contracts. -/
namespace Go.Proofs.Ytdbbbaaopngbcaa
open Go.Abs Go.RowKit Go.Ours

theorem new_c (b : List Nat) (hl : b.length ≤ 10000000000) : ACall Try.prog 41 [.pv (.sl 1 (krows .u8 b))] [] (.ptr 2000 0) [] [.pagg [.sl 1 (krows .u8 b), .int .i64 0]] := by
  refine ACall.fn (fn := Try.f41) rfl okNumsNew rfl (by simp) ?_
  simp only [argT, irNumsNew.eq_1]
  simp
  refine CallG.go (cloneA b hl) ?_
  simp
/-- A reader. -/
def rdP (b : List Nat) (at_ : Nat) : List PV := [.sl 1 (krows .u8 b), .int .i64 (at_ : Nat)]
theorem left_c (b : List Nat) (k : Nat) (hl : b.length ≤ 10000000000) (hk : k ≤ b.length) : ACall Try.prog 65 [.ptr 1000 0] [.pagg (rdP b k)] (.pv (.int .i64 (b.length - k : Nat))) [.pagg (rdP b k)] [] := by
  refine ACall.fn (fn := Try.f65) rfl okNumsReaderLeft rfl (by simp) ?_
  simp only [argT, irNumsReaderLeft.eq_1]
  have w : IntKind.i64.wrap ((b.length : Int) - (k : Int)) = (b.length - k : Nat) := by rw [wrap_i64] <;> omega
  simp [rdP, krows_length, w]
theorem done_c (b : List Nat) (k : Nat) (hl : b.length ≤ 10000000000) (hk : k ≤ b.length) : ACall Try.prog 47 [.ptr 1000 0] [.pagg (rdP b k)] (.pv (.int .i64 (if k < b.length then 2 else 0))) [.pagg (rdP b k)] [] := by
  refine ACall.fn (fn := Try.f47) rfl okNumsReaderDone rfl (by simp) ?_
  simp only [argT, irNumsReaderDone.eq_1]
  have c := left_c b k hl hk
  by_cases h : k < b.length
  · have h1 : (0 : Int) < ((b.length - k : Nat) : Int) := by omega
    have h2 : 0 < b.length - k := by omega
    generalize b.length - k = z at *
    simp [rdP] at c ⊢
    refine CallG.go c ?_
    simp [h, h1, h2]
  · have h1 : ¬ (0 : Int) < ((b.length - k : Nat) : Int) := by omega
    have h2 : ¬ 0 < b.length - k := by omega
    generalize b.length - k = z at *
    simp [rdP] at c ⊢
    refine CallG.go c ?_
    simp [h, h1, h2]
theorem newr_c (b : List Nat) (hl : b.length ≤ 10000000000) : ACall Try.prog 41 [.pv (.sl 1 (krows .u8 b))] [] (.ptr 2000 0) [] [.pagg (rdP b 0)] := by
  refine ACall.fn (fn := Try.f41) rfl okNumsNew rfl (by simp) ?_
  simp only [argT, irNumsNew.eq_1]
  simp
  refine CallG.go (cloneA b hl) ?_
  simp [rdP]
theorem done0_c (b : List Nat) (k : Nat) (hl : b.length ≤ 10000000000) (hk : k = b.length) : ACall Try.prog 47 [.ptr 1000 0] [.pagg (rdP b k)] (.pv (.int .i64 0)) [.pagg (rdP b k)] [] := by
  have h := done_c b k hl (by omega)
  rwa [if_neg (by omega)] at h
end Go.Proofs.Ytdbbbaaopngbcaa
end

section
/- The reader's fixed numbers: contracts. -/
namespace Go.Proofs.Ytdbbbaaopngbcaa
open Go.Abs Go.RowKit Go.Ours

theorem or_byte (x c : Nat) (hx : x < 2 ^ 56) (hc : c < 256) : bits BinOp.or IntKind.u64 (IntKind.u64.wrap ((x : Int) * 2 ^ min 8 IntKind.u64.bits)) (IntKind.u64.wrap (c : Int)) = ((256 * x + c : Nat) : Int) := by
  have h1 : IntKind.u64.wrap ((x : Int) * 2 ^ min 8 IntKind.u64.bits) = ((x * 256 : Nat) : Int) := by
    have : min 8 IntKind.u64.bits = 8 := by simp [IntKind.bits]
    rw [this]
    simp [IntKind.wrap, IntKind.bits, IntKind.signed]
    omega
  have h2 : IntKind.u64.wrap (c : Int) = (c : Int) := by
    simp [IntKind.wrap, IntKind.bits, IntKind.signed]
    omega
  have h3 : (x * 256) ||| c = 256 * x + c := by
    have := Nat.shiftLeft_add_eq_or_of_lt (i := 8) (b := c) (by omega) x
    rw [Nat.shiftLeft_eq] at this
    rw [show (2 : Nat) ^ 8 = 256 from rfl] at this
    omega
  rw [h1, h2, (bits_op .u64 (x * 256) c (by simp [IntKind.bits]; omega) (by simp [IntKind.bits]; omega)).2.1, h3]
  simp [IntKind.wrap, IntKind.bits, IntKind.signed]
  omega
theorem fixed2_c (b : List Nat) (k x y : Nat) (hl : b.length ≤ 10000000000) (hx : b[k]? = some x) (hy : b[k + 1]? = some y) (hx2 : x < 256) (hy2 : y < 256) : ACall Try.prog 42 [.ptr 1000 0, .pv (.int .i64 2)] [.pagg (rdP b k)] (.tup [.pv (.int .u64 (256 * x + y : Nat)), .pv (.int .i64 0)]) [.pagg (rdP b (k + 2))] [] := by
  refine ACall.fn (fn := Try.f42) rfl okNumsReaderFixed rfl (by simp) ?_
  simp only [argT, irNumsReaderFixed.eq_1]
  have hk : k + 1 < b.length := (List.getElem?_eq_some_iff.1 hy).1
  have c := left_c b k hl (by omega)
  have h1 : ¬ ((b.length - k : Nat) : Int) < 2 := by omega
  have h2 : ¬ (b.length - k : Nat) < 2 := by omega
  generalize b.length - k = z at *
  obtain ⟨k1, hk1⟩ : ∃ k1, k1 = k + 1 := ⟨_, rfl⟩
  obtain ⟨k2, hk2⟩ : ∃ k2, k2 = k + 2 := ⟨_, rfl⟩
  rw [← hk1] at hy hk
  rw [← hk2]
  have i1 : (k : Int) < (b.length : Int) := by omega
  have i2 : (k1 : Int) < (b.length : Int) := by omega
  have i3 : k < b.length := by omega
  have w1 : IntKind.i64.wrap ((k : Int) + 1) = (k1 : Int) := by rw [wrap_i64] <;> omega
  have w2 : IntKind.i64.wrap ((k1 : Int) + 1) = (k2 : Int) := by rw [wrap_i64] <;> omega
  have o1 := or_byte 0 x (by omega) hx2
  have o2 := or_byte x y (by omega) hy2
  rw [show ((256 * 0 + x : Nat) : Int) = x by omega] at o1
  generalize (256 * x + y : Nat) = r at *
  simp [rdP] at c ⊢
  refine CallG.go (nwide_c 2 (by simp)) ?_
  simp
  refine CallG.go c ?_
  simp [h1, h2]
  simp at o1
  refine LoopW.go irNumsReaderFixed_L1.eq_1 (by simp) ?_
  simp [-getElem?_pos, krows_length, krows_get, i1, i3, hx, o1, w1]
  refine LoopW.go irNumsReaderFixed_L1.eq_1 (by simp) ?_
  simp [-getElem?_pos, krows_length, krows_get, i2, hk, hy, o2, w2]
  refine LoopW.go irNumsReaderFixed_L1.eq_1 (by simp) ?_
  simp
theorem fixedS_c (b : List Nat) (n k : Nat) (hn : n = 1 ∨ n = 2 ∨ n = 8) (hl : b.length ≤ 10000000000) (hk : k ≤ b.length) (hs : b.length < k + n) : ACall Try.prog 42 [.ptr 1000 0, .pv (.int .i64 (n : Nat))] [.pagg (rdP b k)] (.tup [.pv (.int .u64 0), .pv (.int .i64 1)]) [.pagg (rdP b k)] [] := by
  refine ACall.fn (fn := Try.f42) rfl okNumsReaderFixed rfl (by simp) ?_
  simp only [argT, irNumsReaderFixed.eq_1]
  have c := left_c b k hl (by omega)
  have h1 : ((b.length - k : Nat) : Int) < (n : Int) := by omega
  have h2 : (b.length - k : Nat) < n := by omega
  generalize b.length - k = z at *
  simp [rdP] at c ⊢
  refine CallG.go (nwide_c n hn) ?_
  simp
  refine CallG.go c ?_
  simp [h1, h2]
end Go.Proofs.Ytdbbbaaopngbcaa
end

section
/- The document's reading of fixed numbers: its contract. -/
namespace Go.Proofs.Ytdbbbaaopngbcaa
open Go.Abs Go.RowKit Go.Ours

theorem refReadFixed2_c (b : List Nat) (k x y : Nat) (hl : b.length ≤ 10000000000) (hx : b[k]? = some x) (hy : b[k + 1]? = some y) (hx2 : x < 256) (hy2 : y < 256) : ACall Try.prog 75 [.pv (.sl 1 (krows .u8 b)), .pv (.int .i64 (k : Nat)), .pv (.int .i64 2)] [] (.pagg [.int .u64 (256 * x + y : Nat), .sl 1 [], .int .i64 2, .int .i64 0]) [] [] := by
  refine ACall.fn (fn := Try.f75) rfl okRef01ReadFixed rfl (by simp) ?_
  simp only [argT, irRef01ReadFixed.eq_1]
  obtain ⟨k1, hk1⟩ : ∃ k1, k1 = k + 1 := ⟨_, rfl⟩
  rw [← hk1] at hy
  have hk : k1 < b.length := (List.getElem?_eq_some_iff.1 hy).1
  have i1 : (k : Int) < (b.length : Int) := by omega
  have i2 : (k1 : Int) < (b.length : Int) := by omega
  have i3 : k < b.length := by omega
  have w0 : IntKind.i64.wrap (k : Int) = (k : Int) := by rw [wrap_i64] <;> omega
  have w1 : IntKind.i64.wrap ((k : Int) + 1) = (k1 : Int) := by rw [wrap_i64] <;> omega
  have w2 : IntKind.i64.wrap ((b.length : Int) - (k : Int)) = ((b.length - k : Nat) : Int) := by rw [wrap_i64] <;> omega
  have h1 : ¬ ((b.length - k : Nat) : Int) < 2 := by omega
  have h2 : ¬ (b.length - k : Nat) < 2 := by omega
  have v1 : IntKind.u64.wrap (x : Int) = (x : Int) := by simp [IntKind.wrap, IntKind.bits, IntKind.signed]; omega
  have v2 : IntKind.u64.wrap (y : Int) = (y : Int) := by simp [IntKind.wrap, IntKind.bits, IntKind.signed]; omega
  obtain ⟨z, hz⟩ : ∃ z, z = 256 * x := ⟨_, rfl⟩
  have v3 : IntKind.u64.wrap (256 * (x : Int)) = (z : Int) := by simp [IntKind.wrap, IntKind.bits, IntKind.signed]; omega
  rw [← hz]
  obtain ⟨r, hr⟩ : ∃ r, r = z + y := ⟨_, rfl⟩
  have v4 : IntKind.u64.wrap ((z : Int) + (y : Int)) = (r : Int) := by simp [IntKind.wrap, IntKind.bits, IntKind.signed]; omega
  rw [← hr]
  generalize b.length - k = d at *
  simp
  refine CallG.go (rwide_c 2 (by simp)) ?_
  simp [krows_length, w2, h1, h2]
  refine LoopW.go irRef01ReadFixed_L1.eq_1 (by simp) ?_
  simp [-getElem?_pos, krows_length, krows_get, i1, i3, hx, w0, v1]
  refine LoopW.go irRef01ReadFixed_L1.eq_1 (by simp) ?_
  simp [-getElem?_pos, krows_length, krows_get, i2, hk, hy, w1, v2, v3, v4]
  refine LoopW.go irRef01ReadFixed_L1.eq_1 (by simp) ?_
  simp
end Go.Proofs.Ytdbbbaaopngbcaa
end

section
/- The reader's packed numbers, counts, texts, folded numbers, where they are well put: contracts. -/
namespace Go.Proofs.Ytdbbbaaopngbcaa
open Go.Abs Go.RowKit Go.Ours

theorem and_127 (c : Nat) (hc : c < 256) : bits BinOp.and IntKind.u8 (c : Int) 127 = ((c % 128 : Nat) : Int) := by
  have := (bits_op .u8 c 127 hc (by decide)).1
  rw [show ((127 : Nat) : Int) = 127 from rfl] at this
  rw [this, Nat.and_two_pow_sub_one_eq_mod c 7]
  simp [IntKind.wrap, IntKind.bits, IntKind.signed]
  omega
theorem shl7 (c i j : Nat) (hj : j = 7 * i) (hi : i ≤ 9) (h : c * 128 ^ i < 18446744073709551616) : IntKind.u64.wrap ((c : Int) * 2 ^ min j IntKind.u64.bits) = ((c * 128 ^ i : Nat) : Int) := by
  have e : min j IntKind.u64.bits = 7 * i := by rw [hj]; simp [IntKind.bits]; omega
  have e2 : (2 : Int) ^ (7 * i) = ((128 ^ i : Nat) : Int) := by rw [Int.pow_mul]; norm_cast
  rw [e, e2, ← Int.natCast_mul]
  generalize c * 128 ^ i = v at *
  simp [IntKind.wrap, IntKind.bits, IntKind.signed]
  omega
theorem or_nat (x m s : Nat) (h : x ||| m = s) (hx : x < 18446744073709551616) (hm : m < 18446744073709551616) (hs : s < 18446744073709551616) : bits BinOp.or IntKind.u64 (x : Int) (m : Int) = (s : Int) := by
  rw [(bits_op .u64 x m (by simp [IntKind.bits]; omega) (by simp [IntKind.bits]; omega)).2.1, h]
  simp [IntKind.wrap, IntKind.bits, IntKind.signed]
  omega
theorem rkl (b r : List Nat) (k y : Nat) (hl : b.length ≤ 10000000000) (hy : y < 18446744073709551616) : ∀ (n i x z : Nat), i + n = 9 → b.drop (k + i) = packed z ++ r → y = x + 128 ^ i * z → x < 128 ^ i → (0 < i → 1 ≤ z) → ∀ (Q : Exit → S → Prop),
   (∀ a d c, Q .ret (mk [(0, c), (2, .pv (.int .u64 (y : Nat))), (3, .pv (.int .i64 0)), (4, a), (67, d)] [(1000, .pagg (rdP b (k + i + (packed z).length)))])) →
   LoopW Try.prog [0, 4, 9] [1000] irNumsReaderPacked_L1 (mk [(0, .ptr 1000 0), (4, .pv (.int .u64 (x : Nat))), (9, .pv (.int .i64 (i : Nat)))] [(1000, .pagg (rdP b k))]) Q := by
  intro n
  induction n with
  | zero =>
    intro i x z hi hd he hx hz Q hQ
    obtain rfl : i = 9 := by omega
    have hz1 : z ≤ 1 := by
      rw [show (128 : Nat) ^ 9 = 9223372036854775808 from rfl] at he
      omega
    have hz2 := hz (by omega)
    obtain rfl : z = 1 := by omega
    rw [packed_small (by decide)] at hd hQ
    have hc : b[k + 9]? = some 1 := by
      have := congrArg (·[0]?) hd
      simpa using this
    have hlt := (List.getElem?_eq_some_iff.1 hc).1
    obtain ⟨k9, hk9⟩ : ∃ k9, k9 = k + 9 := ⟨_, rfl⟩
    obtain ⟨k10, hk10⟩ : ∃ k10, k10 = k + 10 := ⟨_, rfl⟩
    rw [List.length_singleton, show k + 9 + 1 = k10 by omega] at hQ
    rw [← hk9] at hc hlt
    have i1 : ¬ (b.length : Int) ≤ (k9 : Int) := by omega
    have i2 : ¬ b.length ≤ k9 := by omega
    have i3 : (k9 : Int) < (b.length : Int) := by omega
    have w9 : IntKind.i64.wrap ((k : Int) + 9) = (k9 : Int) := by rw [wrap_i64] <;> omega
    have w10 : IntKind.i64.wrap ((k : Int) + 10) = (k10 : Int) := by rw [wrap_i64] <;> omega
    have a1 : bits BinOp.and IntKind.u8 1 127 = 1 := and_127 1 (by decide)
    have wu : IntKind.u64.wrap 1 = 1 := by decide
    have w63 : IntKind.i64.wrap 63 = 63 := by decide
    have wq : IntKind.i64.wrap (9 + 1) = 10 := by decide
    have s1 : IntKind.u64.wrap (2 ^ min 63 IntKind.u64.bits) = ((1 * 128 ^ 9 : Nat) : Int) := by decide
    have o1 : bits BinOp.or IntKind.u64 (x : Int) ((1 * 128 ^ 9 : Nat) : Int) = (y : Int) := or_nat x (1 * 128 ^ 9) y (by rw [or_add x 1 9 hx, he]) (by omega) (by decide) hy
    generalize ((1 * 128 ^ 9 : Nat) : Int) = m at *
    simp only [rdP] at hQ ⊢
    refine LoopW.go irNumsReaderPacked_L1.eq_1 (by simp) ?_
    simp [-getElem?_pos, krows_length, krows_get, w9, i1, i2, i3, hlt, hc, a1, wu, w63, wq, s1, o1, w10]
    exact hQ _ _ _
  | succ n ih =>
    intro i x z hi hd he hx hz Q hQ
    obtain ⟨j, hj⟩ : ∃ j, j = 7 * i := ⟨_, rfl⟩
    obtain ⟨k1, hk1⟩ : ∃ k1, k1 = k + i := ⟨_, rfl⟩
    have hi9 : ¬ (i : Int) = 9 := by omega
    have hi9' : ¬ i = 9 := by omega
    have i10 : (i : Int) < 10 := by omega
    have i10' : i < 10 := by omega
    have w7 : IntKind.i64.wrap (7 * (i : Int)) = (j : Int) := by rw [wrap_i64] <;> omega
    by_cases h : z < 128
    · rw [packed_small h] at hd hQ
      have hc : b[k + i]? = some z := by
        have := congrArg (·[0]?) hd
        simpa using this
      have hlt := (List.getElem?_eq_some_iff.1 hc).1
      obtain ⟨m, hm⟩ : ∃ m, m = z * 128 ^ i := ⟨_, rfl⟩
      have hmy : y = x + m := by rw [he, hm, Nat.mul_comm]
      have sh := shl7 z i j hj (by omega) (by omega)
      have o1 : bits BinOp.or IntKind.u64 (x : Int) (m : Int) = (y : Int) := or_nat x m y (by rw [hm, or_add x z i hx, ← hm]; omega) (by omega) (by omega) hy
      rw [← hm] at sh
      have a1 := and_127 z (by omega)
      rw [Nat.mod_eq_of_lt h] at a1
      have wu : IntKind.u64.wrap (z : Int) = (z : Int) := by simp [IntKind.wrap, IntKind.bits, IntKind.signed]; omega
      rw [List.length_singleton, ← hk1] at hQ
      rw [← hk1] at hc hlt
      obtain ⟨k2, hk2⟩ : ∃ k2, k2 = k1 + 1 := ⟨_, rfl⟩
      rw [← hk2] at hQ
      obtain ⟨i2, hi2⟩ : ∃ i2, i2 = i + 1 := ⟨_, rfl⟩
      have i1 : ¬ (b.length : Int) ≤ (k1 : Int) := by omega
      have i1' : ¬ b.length ≤ k1 := by omega
      have i3 : (k1 : Int) < (b.length : Int) := by omega
      have w1 : IntKind.i64.wrap ((k : Int) + (i : Int)) = (k1 : Int) := by rw [wrap_i64] <;> omega
      have w2 : IntKind.i64.wrap ((i : Int) + 1) = (i2 : Int) := by rw [wrap_i64] <;> omega
      have w3 : IntKind.i64.wrap ((k : Int) + (i2 : Int)) = (k2 : Int) := by rw [wrap_i64] <;> omega
      have h' : (z : Int) < 128 := by omega
      have j0 : (0 : Int) ≤ (j : Int) := by omega
      simp only [rdP] at hQ ⊢
      by_cases z0 : z = 0
      · have i0 : ¬ 0 < i := fun hh => by have := hz hh; omega
        have i0' : ¬ (0 : Int) < (i : Int) := by omega
        have z0' : (z : Int) = 0 := by omega
        refine LoopW.go irNumsReaderPacked_L1.eq_1 (by simp) ?_
        simp [-getElem?_pos, krows_length, krows_get, i10, i10', hi9, hi9', w7, w1, w2, w3, i1, i1', i3, hlt, hc, a1, wu, sh, o1, h, h', j0]
        exact ⟨fun _ => ⟨fun hh => absurd hh i0, fun _ => hQ _ _ _⟩, fun hh => absurd z0 hh⟩
      · have z0' : ¬ (z : Int) = 0 := by omega
        refine LoopW.go irNumsReaderPacked_L1.eq_1 (by simp) ?_
        simp [-getElem?_pos, krows_length, krows_get, i10, i10', hi9, hi9', w7, w1, w2, w3, i1, i1', i3, hlt, hc, a1, wu, sh, o1, h, h', j0, z0, z0']
        exact hQ _ _ _
    · have hb := packed_big (x := z) (by omega)
      rw [hb] at hd hQ
      have hc : b[k + i]? = some (z % 128 + 128) := by
        have := congrArg (·[0]?) hd
        simpa using this
      have hlt := (List.getElem?_eq_some_iff.1 hc).1
      have hd' : b.drop (k + (i + 1)) = packed (z / 128) ++ r := by
        have := congrArg (List.drop 1) hd
        rw [List.drop_drop] at this
        simpa [Nat.add_assoc] using this
      obtain ⟨u, hu⟩ : ∃ u, u = z % 128 := ⟨_, rfl⟩
      obtain ⟨c, hcc⟩ : ∃ c, c = z % 128 + 128 := ⟨_, rfl⟩
      obtain ⟨m, hm⟩ : ∃ m, m = u * 128 ^ i := ⟨_, rfl⟩
      have hmx : m + x < 128 ^ (i + 1) := by
        rw [hm, Nat.pow_succ, Nat.mul_comm (128 ^ i) 128]
        have : u * 128 ^ i ≤ 127 * 128 ^ i := Nat.mul_le_mul_right _ (by omega)
        omega
      have he' : y = (x + m) + 128 ^ (i + 1) * (z / 128) := by
        rw [he, hm, Nat.pow_succ, Nat.mul_assoc, Nat.add_assoc, Nat.mul_comm u, ← Nat.mul_add]
        congr 2
        omega
      have hmy : x + m ≤ y := by omega
      have sh := shl7 u i j hj (by omega) (by omega)
      obtain ⟨x', hx'⟩ : ∃ x', x' = x + m := ⟨_, rfl⟩
      have o1 : bits BinOp.or IntKind.u64 (x : Int) (m : Int) = (x' : Int) := or_nat x m x' (by rw [hm, or_add x u i hx, ← hm, hx']) (by omega) (by omega) (by omega)
      rw [← hm] at sh
      have a1 := and_127 c (by omega)
      rw [show c % 128 = u by omega] at a1
      have wu : IntKind.u64.wrap (u : Int) = (u : Int) := by simp [IntKind.wrap, IntKind.bits, IntKind.signed]; omega
      rw [← hx'] at he' hmy
      have hn := ih (i + 1) x' (z / 128) (by omega) hd' he' (by omega) (by intro _; omega) Q (fun a d e => by
        have := hQ a d e
        rwa [List.length_cons, show k + i + ((packed (z / 128)).length + 1) = k + (i + 1) + (packed (z / 128)).length by omega] at this)
      clear hQ ih
      rw [← hcc, ← hk1] at hc
      rw [← hk1] at hlt
      have i1 : ¬ (b.length : Int) ≤ (k1 : Int) := by omega
      have i1' : ¬ b.length ≤ k1 := by omega
      have i3 : (k1 : Int) < (b.length : Int) := by omega
      have w1 : IntKind.i64.wrap ((k : Int) + (i : Int)) = (k1 : Int) := by rw [wrap_i64] <;> omega
      have w2 : IntKind.i64.wrap ((i : Int) + 1) = (i + 1 : Nat) := by rw [wrap_i64] <;> omega
      have h' : ¬ (c : Int) < 128 := by omega
      have h'' : ¬ c < 128 := by omega
      have j0 : (0 : Int) ≤ (j : Int) := by omega
      simp only [rdP] at hn ⊢
      refine LoopW.go irNumsReaderPacked_L1.eq_1 (by simp) ?_
      simp [-getElem?_pos, krows_length, krows_get, i10, i10', hi9, hi9', w7, w1, w2, i1, i1', i3, hlt, hc, a1, wu, sh, o1, h', h'', j0]
      exact hn
theorem packedAt_c (b r : List Nat) (k y : Nat) (hl : b.length ≤ 10000000000) (hy : y < 18446744073709551616) (hd : b.drop k = packed y ++ r) : ACall Try.prog 78 [.ptr 1000 0] [.pagg (rdP b k)] (.tup [.pv (.int .u64 (y : Nat)), .pv (.int .i64 0)]) [.pagg (rdP b (k + (packed y).length))] [] := by
  refine ACall.fn (fn := Try.f78) rfl okNumsReaderPacked rfl (by simp) ?_
  simp only [argT, irNumsReaderPacked.eq_1]
  have hlp := rkl b r k y hl hy 9 0 0 y rfl hd (by simp) (by simp) (by simp)
  rw [Nat.add_zero] at hlp
  generalize k + (packed y).length = k2 at *
  generalize rdP b k = q at *
  generalize rdP b k2 = q2 at *
  simp
  refine hlp _ fun a d c => ?_
  simp
theorem countAt_c (b r : List Nat) (k y n : Nat) (hl : b.length ≤ 10000000000) (hn : n ≤ 10000000000) (hy : y ≤ n) (hd : b.drop k = packed y ++ r) : ACall Try.prog 67 [.ptr 1000 0, .pv (.int .i64 (n : Nat))] [.pagg (rdP b k)] (.tup [.pv (.int .i64 (y : Nat)), .pv (.int .i64 0)]) [.pagg (rdP b (k + (packed y).length))] [] := by
  refine ACall.fn (fn := Try.f67) rfl okNumsReaderCount rfl (by simp) ?_
  simp only [argT, irNumsReaderCount.eq_1]
  have c := packedAt_c b r k y hl (by omega) hd
  have i1 : ¬ (n : Int) < 0 := by omega
  have i2 : ¬ (n : Int) < (y : Int) := by omega
  have i2' : ¬ n < y := by omega
  have w1 : IntKind.u64.wrap (n : Int) = (n : Int) := by simp [IntKind.wrap, IntKind.bits, IntKind.signed]; omega
  have w2 : IntKind.i64.wrap (y : Int) = (y : Int) := by rw [wrap_i64] <;> omega
  generalize k + (packed y).length = k2 at *
  simp only [rdP] at c ⊢
  simp
  refine CallG.go c ?_
  simp [i1, i2, i2', w1, w2]
theorem krows_drop (k : IntKind) (l : List Nat) (n : Nat) : (krows k l).drop n = krows k (l.drop n) := by simp [krows]
theorem krows_take (k : IntKind) (l : List Nat) (n : Nat) : (krows k l).take n = krows k (l.take n) := by simp [krows]
def txtR (t : List Nat) : List Nat := packed t.length ++ t
theorem textAt_c (b r t : List Nat) (k n : Nat) (hl : b.length ≤ 10000000000) (hn : n ≤ 10000000000) (hy : t.length ≤ n) (hk : k ≤ b.length) (hd : b.drop k = txtR t ++ r) : ACall Try.prog 44 [.ptr 1000 0, .pv (.int .i64 (n : Nat))] [.pagg (rdP b k)] (.tup [.os 5 1 (krows .u8 t), .pv (.int .i64 0)]) [.pagg (rdP b (k + (txtR t).length))] [] := by
  refine ACall.fn (fn := Try.f44) rfl okNumsReaderText rfl (by simp) ?_
  simp only [argT, irNumsReaderText.eq_1]
  have hlen := congrArg List.length hd
  rw [List.length_drop, List.length_append, txtR, List.length_append] at hlen
  have c1 := countAt_c b (t ++ r) k t.length n hl hn hy (by rw [hd, txtR, List.append_assoc])
  have c2 := left_c b (k + (packed t.length).length) hl (by omega)
  have e3 : k + (txtR t).length = k + (packed t.length).length + t.length := by rw [txtR, List.length_append]; omega
  rw [e3]
  have hd2 : (b.take (k + (packed t.length).length + t.length)).drop (k + (packed t.length).length) = t := by
    rw [← List.take_drop, ← List.drop_drop, hd, txtR, List.append_assoc, List.drop_left, List.take_left]
  obtain ⟨k2, hk2⟩ : ∃ k2, k2 = k + (packed t.length).length := ⟨_, rfl⟩
  rw [← hk2] at c1 c2 hd2
  rw [← hk2]
  obtain ⟨k3, hk3⟩ : ∃ k3, k3 = k2 + t.length := ⟨_, rfl⟩
  rw [← hk3] at hd2
  rw [← hk3]
  have i1 : ¬ ((b.length - k2 : Nat) : Int) < (t.length : Int) := by omega
  have i1' : ¬ (b.length - k2 : Nat) < t.length := by omega
  generalize b.length - k2 = z at *
  have w1 : IntKind.i64.wrap ((k2 : Int) + (t.length : Int)) = (k3 : Int) := by rw [wrap_i64] <;> omega
  have w2 : IntKind.i64.wrap ((k3 : Int) - (t.length : Int)) = (k2 : Int) := by rw [wrap_i64] <;> omega
  have c3 := cloneA t (by omega)
  have i2 : (k2 : Int) ≤ (k3 : Int) := by omega
  have i2' : k2 ≤ k3 := by omega
  have i3 : (k3 : Int) ≤ (b.length : Int) := by omega
  have i3' : k3 ≤ b.length := by omega
  have e4 : k3 - k2 = t.length := by omega
  have e5 : ((k3 : Int) - (k2 : Int)).toNat = t.length := by omega
  simp only [rdP] at c1 c2 ⊢
  simp
  refine CallG.go c1 ?_
  simp
  refine CallG.go c2 ?_
  simp [i1, i1', w1, w2, krows_drop, krows_take, krows_length, i2, i2', i3, i3', e4, e5, hd2]
  refine CallG.go c3 ?_
  simp
end Go.Proofs.Ytdbbbaaopngbcaa
end

section
/- Unfold, the reader's folded numbers, one byte numbers: contracts. -/
namespace Go.Proofs.Ytdbbbaaopngbcaa
open Go.Abs Go.RowKit Go.Ours

theorem ofInt64 (a : Nat) (ha : a < 18446744073709551616) : BitVec.ofInt 64 (a : Int) = BitVec.ofNat 64 a := BitVec.ofInt_natCast 64 a
theorem xor_neg1 (a : Nat) (ha : a < 9223372036854775808) : bits BinOp.xor IntKind.i64 (a : Int) (-1) = -(a : Int) - 1 := by
  show IntKind.i64.wrap ((BitVec.ofInt 64 (a : Int) ^^^ BitVec.ofInt 64 (-1)).toNat : Int) = _
  have h1 : BitVec.ofInt 64 (-1) = BitVec.allOnes 64 := by decide
  rw [h1, BitVec.xor_allOnes, BitVec.toNat_not, ofInt64 a (by omega), BitVec.toNat_ofNat, Nat.mod_eq_of_lt (by omega)]
  simp [IntKind.wrap, IntKind.bits, IntKind.signed]
  omega
theorem xor_0 (a : Nat) (ha : a < 9223372036854775808) : bits BinOp.xor IntKind.i64 (a : Int) 0 = (a : Int) := by
  show IntKind.i64.wrap ((BitVec.ofInt 64 (a : Int) ^^^ BitVec.ofInt 64 0).toNat : Int) = _
  have h1 : BitVec.ofInt 64 0 = 0#64 := by decide
  rw [h1, BitVec.xor_zero, ofInt64 a (by omega), BitVec.toNat_ofNat, Nat.mod_eq_of_lt (by omega)]
  simp [IntKind.wrap, IntKind.bits, IntKind.signed]
  omega
theorem and_one (x : Nat) (hx : x < 18446744073709551616) : bits BinOp.and IntKind.u64 (x : Int) 1 = ((x % 2 : Nat) : Int) := by
  have := (bits_op .u64 x 1 hx (by decide)).1
  rw [show ((1 : Nat) : Int) = 1 from rfl] at this
  rw [this, Nat.and_one_is_mod]
  simp [IntKind.wrap, IntKind.bits, IntKind.signed]
  omega
theorem unfold_c (n : Int) (hn : -9223372036854775808 ≤ n ∧ n < 9223372036854775808) : ACall Try.prog 79 [.pv (.int .u64 (foldN n : Nat))] [] (.pv (.int .i64 n)) [] [] := by
  refine ACall.fn (fn := Try.f79) rfl okNumsUnfold rfl (by simp) ?_
  simp only [argT, irNumsUnfold.eq_1]
  have hf := foldN_lt n hn
  have a1 := and_one (foldN n) hf
  have sh : ((foldN n : Nat) : Int).fdiv (2 ^ min 1 IntKind.u64.bits) = ((foldN n / 2 : Nat) : Int) := shr_nat (foldN n) 1
  have w1 : IntKind.i64.wrap ((foldN n / 2 : Nat) : Int) = ((foldN n / 2 : Nat) : Int) := by rw [wrap_i64] <;> omega
  by_cases h : n < 0
  · have e1 : foldN n / 2 = (-n - 1).toNat := by unfold foldN; rw [if_pos h]; omega
    have e2 : foldN n % 2 = 1 := by unfold foldN; rw [if_pos h]; omega
    have x1 := xor_neg1 (-n - 1).toNat (by omega)
    rw [show -(((-n - 1).toNat : Nat) : Int) - 1 = n by omega] at x1
    rw [e1] at sh w1
    rw [e2] at a1
    have w2 : IntKind.i64.wrap ((1 : Nat) : Int) = 1 := by decide
    have w3 : IntKind.i64.wrap (-1) = -1 := by decide
    generalize (-n - 1).toNat = q at *
    generalize foldN n = f at *
    rw [show ((1 : Nat) : Int) = 1 from rfl] at a1 w2
    simp [sh, a1, w1, w2, w3, x1]
  · have e1 : foldN n / 2 = n.toNat := by unfold foldN; rw [if_neg h]; omega
    have e2 : foldN n % 2 = 0 := by unfold foldN; rw [if_neg h]; omega
    have x1 := xor_0 n.toNat (by omega)
    rw [Int.toNat_of_nonneg (by omega)] at x1
    rw [e1, Int.toNat_of_nonneg (by omega)] at sh w1
    rw [e2] at a1
    have w2 : IntKind.i64.wrap 0 = 0 := by decide
    generalize foldN n = f at *
    rw [show ((0 : Nat) : Int) = 0 from rfl] at a1
    simp [sh, a1, w1, w2, x1]
theorem folded_c (b r : List Nat) (k : Nat) (n : Int) (hl : b.length ≤ 10000000000) (hn : -9223372036854775808 ≤ n ∧ n < 9223372036854775808) (hd : b.drop k = packed (foldN n) ++ r) : ACall Try.prog 68 [.ptr 1000 0] [.pagg (rdP b k)] (.tup [.pv (.int .i64 n), .pv (.int .i64 0)]) [.pagg (rdP b (k + (packed (foldN n)).length))] [] := by
  refine ACall.fn (fn := Try.f68) rfl okNumsReaderFolded rfl (by simp) ?_
  simp only [argT, irNumsReaderFolded.eq_1]
  have c := packedAt_c b r k (foldN n) hl (foldN_lt n hn) hd
  have u := unfold_c n hn
  generalize k + (packed (foldN n)).length = k2 at *
  generalize foldN n = f at *
  generalize rdP b k = q at *
  generalize rdP b k2 = q2 at *
  simp
  refine CallG.go c ?_
  simp
  refine CallG.go u ?_
  simp
theorem fixed1_c (b : List Nat) (k x : Nat) (hl : b.length ≤ 10000000000) (hx : b[k]? = some x) (hx2 : x < 256) : ACall Try.prog 42 [.ptr 1000 0, .pv (.int .i64 1)] [.pagg (rdP b k)] (.tup [.pv (.int .u64 (x : Nat)), .pv (.int .i64 0)]) [.pagg (rdP b (k + 1))] [] := by
  refine ACall.fn (fn := Try.f42) rfl okNumsReaderFixed rfl (by simp) ?_
  simp only [argT, irNumsReaderFixed.eq_1]
  have hk : k < b.length := (List.getElem?_eq_some_iff.1 hx).1
  have c := left_c b k hl (by omega)
  have h1 : ¬ ((b.length - k : Nat) : Int) < 1 := by omega
  have h2 : ¬ (b.length - k : Nat) < 1 := by omega
  generalize b.length - k = z at *
  obtain ⟨k1, hk1⟩ : ∃ k1, k1 = k + 1 := ⟨_, rfl⟩
  rw [← hk1]
  have i1 : (k : Int) < (b.length : Int) := by omega
  have w1 : IntKind.i64.wrap ((k : Int) + 1) = (k1 : Int) := by rw [wrap_i64] <;> omega
  have o1 := or_byte 0 x (by omega) hx2
  rw [show ((256 * 0 + x : Nat) : Int) = x by omega] at o1
  simp [rdP] at c ⊢
  refine CallG.go (nwide_c 1 (by simp)) ?_
  simp
  refine CallG.go c ?_
  simp [h1, h2]
  simp at o1
  refine LoopW.go irNumsReaderFixed_L1.eq_1 (by simp) ?_
  simp [-getElem?_pos, krows_length, krows_get, i1, hk, hx, o1, w1]
  refine LoopW.go irNumsReaderFixed_L1.eq_1 (by simp) ?_
  simp
end Go.Proofs.Ytdbbbaaopngbcaa
end
