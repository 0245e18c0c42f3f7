/- Packed and folded numbers: contracts. -/
import Derived.Test.YtekpgcohlpkmnaaIrNums
import Derived.Test.YtekpgcohlpkmnaaPlainNums
import Derived.Test.YtekpgcohlpkmnaaPlainFold
set_option linter.unusedVariables false
set_option linter.unusedSimpArgs false
namespace Go.Proofs.Ytekpgcohlpkmnaa
open Go.Abs Go.RowKit Go.Ours

theorem or_128 (x : Nat) : bits BinOp.or IntKind.u8 (IntKind.u8.wrap (x : Int)) 128 = ((x % 128 + 128 : Nat) : Int) := by
  have h : ∀ a : _root_.Fin 256, bits BinOp.or IntKind.u8 ((a.val : Nat) : Int) 128 = ((a.val % 128 + 128 : Nat) : Int) := by decide +kernel
  have e : IntKind.u8.wrap (x : Int) = ((x % 256 : Nat) : Int) := by simp [IntKind.wrap, IntKind.bits, IntKind.signed]
  rw [e, h ⟨x % 256, by omega⟩]
  simp only
  omega
theorem ppl : ∀ (n x : Nat) (L : List Nat), x < 128 ^ (n + 1) → x < 18446744073709551616 → L.length + n ≤ 50000000000 → ∀ (Q : Exit → S → Prop),
   (∀ y L' a, y < 128 → L' ++ [y] = L ++ packed x → L'.length ≤ 50000000000 → Q (.exit 0) (mk [(1, .pv (.int .u64 (y : Nat))), (5, .os 5 1 (krows .u8 L')), (8, a), (9, .pv (.bool false))] [])) →
   LoopW Try.prog [1, 5] [] irNumsPutPacked_L1 (mk [(1, .pv (.int .u64 (x : Nat))), (5, .os 5 1 (krows .u8 L))] []) Q := by
  intro n
  induction n with
  | zero =>
    intro x L hx _ hl Q hQ
    have h1 : ¬ 128 ≤ (x : Int) := by omega
    refine LoopW.go irNumsPutPacked_L1.eq_1 (by simp) ?_
    simp [h1]
    exact hQ x L _ (by omega) (by rw [packed_small (by omega)]) (by omega)
  | succ n ih =>
    intro x L hx hx2 hl Q hQ
    by_cases h : x < 128
    · have h1 : ¬ 128 ≤ (x : Int) := by omega
      refine LoopW.go irNumsPutPacked_L1.eq_1 (by simp) ?_
      simp [h1]
      exact hQ x L _ (by omega) (by rw [packed_small (by omega)]) (by omega)
    · have h1 : 128 ≤ (x : Int) := by omega
      have hn := ih (x / 128) (L ++ [x % 128 + 128]) (by rw [Nat.pow_succ] at hx; omega) (by omega) (by simp; omega) Q (fun y L' a hy he hl' => hQ y L' a hy (by rw [he, packed_big (x := x) (by omega), List.append_assoc]; rfl) hl')
      have e1 := or_128 x
      have e2 : (x : Int).fdiv (2 ^ min 7 IntKind.u64.bits) = ((x / 128 : Nat) : Int) := shr_nat x 7
      generalize x % 128 + 128 = v at *
      generalize x / 128 = z at *
      refine LoopW.go irNumsPutPacked_L1.eq_1 (by simp) ?_
      simp [h1, e1, e2, krows_length, krows_one]
      exact ⟨by omega, hn⟩
theorem putPacked_c (b : List Nat) (x : Nat) (hb : b.length ≤ 10000000000) (hx : x < 18446744073709551616) : ACall Try.prog 26 [.pv (.sl 1 (krows .u8 b)), .pv (.int .u64 x)] [] (.os 5 1 (krows .u8 (b ++ packed x))) [] [] := by
  refine ACall.fn (fn := Try.f26) rfl okNumsPutPacked rfl (by simp) ?_
  simp only [argT, irNumsPutPacked.eq_1]
  simp
  refine CallG.go (cloneA b hb) ?_
  simp
  refine ppl 9 x b (by omega) hx (by omega) _ fun y L' a hy he hl => ?_
  have e1 : IntKind.u8.wrap (y : Int) = (y : Int) := by rw [wrap_u8] <;> omega
  simp [e1, krows_length, krows_one, he]
  omega
theorem rpl : ∀ (n x : Nat) (L : List Nat), x < 128 ^ (n + 1) → x < 18446744073709551616 → L.length + n ≤ 50000000000 → ∀ (Q : Exit → S → Prop),
   (∀ y L' a, y < 128 → L' ++ [y] = L ++ packed x → L'.length ≤ 50000000000 → Q (.exit 0) (mk [(0, .pv (.int .u64 (y : Nat))), (3, .os 5 1 (krows .u8 L')), (4, a), (5, .pv (.bool false))] [])) →
   LoopW Try.prog [0, 3] [] irRef01Packed_L1 (mk [(0, .pv (.int .u64 (x : Nat))), (3, .os 5 1 (krows .u8 L))] []) Q := by
  intro n
  induction n with
  | zero =>
    intro x L hx _ hl Q hQ
    have h1 : ¬ 127 < (x : Int) := by omega
    refine LoopW.go irRef01Packed_L1.eq_1 (by simp) ?_
    simp [h1]
    exact hQ x L _ (by omega) (by rw [packed_small (by omega)]) (by omega)
  | succ n ih =>
    intro x L hx hx2 hl Q hQ
    by_cases h : x < 128
    · have h1 : ¬ 127 < (x : Int) := by omega
      refine LoopW.go irRef01Packed_L1.eq_1 (by simp) ?_
      simp [h1]
      exact hQ x L _ (by omega) (by rw [packed_small (by omega)]) (by omega)
    · have h1 : 127 < (x : Int) := by omega
      have hn := ih (x / 128) (L ++ [x % 128 + 128]) (by rw [Nat.pow_succ] at hx; omega) (by omega) (by simp; omega) Q (fun y L' a hy he hl' => hQ y L' a hy (by rw [he, packed_big (x := x) (by omega), List.append_assoc]; rfl) hl')
      obtain ⟨r, hr⟩ : ∃ r, r = x % 128 := ⟨_, rfl⟩
      obtain ⟨z, hz⟩ : ∃ z, z = x / 128 := ⟨_, rfl⟩
      rw [← hr, ← hz] at hn
      have e1 : (x : Int).tmod 128 = (r : Int) := by rw [hr]; rfl
      have e2 : (x : Int).tdiv 128 = (z : Int) := by rw [hz]; rfl
      have e3 : IntKind.u64.wrap ((r : Int) + 128) = ((r + 128 : Nat) : Int) := by rw [wrap_u64] <;> omega
      have e4 : IntKind.u8.wrap ((r + 128 : Nat) : Int) = ((r + 128 : Nat) : Int) := by rw [wrap_u8] <;> omega
      have e5 : IntKind.u64.wrap (z : Int) = (z : Int) := by rw [wrap_u64] <;> omega
      generalize r + 128 = v at *
      refine LoopW.go irRef01Packed_L1.eq_1 (by simp) ?_
      simp [h1, e1, e2, e3, e4, e5, krows_length, krows_one]
      exact ⟨by omega, hn⟩
theorem refPacked_c (x : Nat) (hx : x < 18446744073709551616) : ACall Try.prog 21 [.pv (.int .u64 x)] [] (.os 5 1 (krows .u8 (packed x))) [] [] := by
  refine ACall.fn (fn := Try.f21) rfl okRef01Packed rfl (by simp) ?_
  simp only [argT, irRef01Packed.eq_1]
  simp
  refine rpl 9 x [] (by omega) hx (by simp) _ fun y L' a hy he hl => ?_
  rw [List.nil_append] at he
  have e1 : IntKind.u8.wrap (y : Int) = (y : Int) := by rw [wrap_u8] <;> omega
  simp [e1, krows_length, krows_one, he]
  omega
/-- A text, told apart. -/
def txt (t : List Nat) : List Nat := packed t.length ++ t
end Go.Proofs.Ytekpgcohlpkmnaa
