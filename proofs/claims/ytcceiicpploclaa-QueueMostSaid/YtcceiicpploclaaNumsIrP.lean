/- Packed and folded numbers: contracts. -/
import Derived.Test.YtcceiicpploclaaIrNums
import Derived.Test.YtcceiicpploclaaPlainNums
import Derived.Test.YtcceiicpploclaaPlainFold
set_option linter.unusedVariables false
set_option linter.unusedSimpArgs false
namespace Go.Proofs.Ytcceiicpploclaa
open Go.Abs Go.RowKit Go.Ours

theorem or_128 (x : Nat) : bits BinOp.or IntKind.u8 (IntKind.u8.wrap (x : Int)) 128 = ((x % 128 + 128 : Nat) : Int) := by
  have h : ∀ a : _root_.Fin 256, bits BinOp.or IntKind.u8 ((a.val : Nat) : Int) 128 = ((a.val % 128 + 128 : Nat) : Int) := by decide +kernel
  have e : IntKind.u8.wrap (x : Int) = ((x % 256 : Nat) : Int) := by simp [IntKind.wrap, IntKind.bits, IntKind.signed]
  rw [e, h ⟨x % 256, by omega⟩]
  simp only
  omega
theorem ppl : ∀ (n x : Nat) (L : List Nat), x < 128 ^ (n + 1) → x < 18446744073709551616 → L.length + n ≤ 50000000000 → ∀ (Q : Exit → S → Prop),
   (∀ y L' a, y < 128 → L' ++ [y] = L ++ packed x → L'.length ≤ 50000000000 → Q (.exit 0) (mk [(1, .pv (.int .u64 (y : Nat))), (5, .os 5 1 (krows .u8 L')), (8, a), (9, .pv (.bool false))] [])) →
   LoopW Try.prog [1, 5] [] irNumsPutPacked_L1 (mk [(1, .pv (.int .u64 (x : Nat))), (5, .os 5 1 (krows .u8 L))] []) Q := by
  intro n
  induction n with
  | zero =>
    intro x L hx _ hl Q hQ
    have h1 : ¬ 128 ≤ (x : Int) := by omega
    refine LoopW.go irNumsPutPacked_L1.eq_1 (by simp) ?_
    simp [h1]
    exact hQ x L _ (by omega) (by rw [packed_small (by omega)]) (by omega)
  | succ n ih =>
    intro x L hx hx2 hl Q hQ
    by_cases h : x < 128
    · have h1 : ¬ 128 ≤ (x : Int) := by omega
      refine LoopW.go irNumsPutPacked_L1.eq_1 (by simp) ?_
      simp [h1]
      exact hQ x L _ (by omega) (by rw [packed_small (by omega)]) (by omega)
    · have h1 : 128 ≤ (x : Int) := by omega
      have hn := ih (x / 128) (L ++ [x % 128 + 128]) (by rw [Nat.pow_succ] at hx; omega) (by omega) (by simp; omega) Q (fun y L' a hy he hl' => hQ y L' a hy (by rw [he, packed_big (x := x) (by omega), List.append_assoc]; rfl) hl')
      have e1 := or_128 x
      have e2 : (x : Int).fdiv (2 ^ min 7 IntKind.u64.bits) = ((x / 128 : Nat) : Int) := shr_nat x 7
      generalize x % 128 + 128 = v at *
      generalize x / 128 = z at *
      refine LoopW.go irNumsPutPacked_L1.eq_1 (by simp) ?_
      simp [h1, e1, e2, krows_length, krows_one]
      exact ⟨by omega, hn⟩
theorem putPacked_c (b : List Nat) (x : Nat) (hb : b.length ≤ 10000000000) (hx : x < 18446744073709551616) : ACall Try.prog 34 [.pv (.sl 1 (krows .u8 b)), .pv (.int .u64 x)] [] (.os 5 1 (krows .u8 (b ++ packed x))) [] [] := by
  refine ACall.fn (fn := Try.f34) rfl okNumsPutPacked rfl (by simp) ?_
  simp only [argT, irNumsPutPacked.eq_1]
  simp
  refine CallG.go (cloneA b hb) ?_
  simp
  refine ppl 9 x b (by omega) hx (by omega) _ fun y L' a hy he hl => ?_
  have e1 : IntKind.u8.wrap (y : Int) = (y : Int) := by rw [wrap_u8] <;> omega
  simp [e1, krows_length, krows_one, he]
  omega
/-- A text, told apart. -/
def txt (t : List Nat) : List Nat := packed t.length ++ t
theorem fold_c (x : Int) (hx : -9223372036854775808 ≤ x ∧ x < 9223372036854775808) : ACall Try.prog 38 [.pv (.int .i64 x)] [] (.pv (.int .u64 (foldN x : Nat))) [] [] := by
  refine ACall.fn (fn := Try.f38) rfl okNumsFold rfl (by simp) ?_
  simp only [argT, irNumsFold.eq_1]
  have e := fold_bits x hx
  simp [e]
theorem putFolded_c (b : List Nat) (x : Int) (hb : b.length ≤ 10000000000) (hx : -9223372036854775808 ≤ x ∧ x < 9223372036854775808) : ACall Try.prog 36 [.pv (.sl 1 (krows .u8 b)), .pv (.int .i64 x)] [] (.os 5 1 (krows .u8 (b ++ packed (foldN x)))) [] [] := by
  refine ACall.fn (fn := Try.f36) rfl okNumsPutFolded rfl (by simp) ?_
  simp only [argT, irNumsPutFolded.eq_1]
  simp
  refine CallG.go (fold_c x hx) ?_
  simp
  refine CallG.go (putPacked_c b (foldN x) hb (foldN_lt x hx)) ?_
  simp
end Go.Proofs.Ytcceiicpploclaa
