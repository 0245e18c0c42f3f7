/- consistoryref01.Same's contract. -/
import Derived.Test.YtlbfpnckoblppaaShaN
set_option linter.unusedVariables false
set_option linter.unusedSimpArgs false
namespace Go.Proofs.Ytlbfpnckoblppaa
open Go.Abs Go.RowKit Go.Ours

theorem same_l (a b : List Nat) (h : a.length = b.length) (la : a.length < 1000000000000) : ∀ (n k : Nat), k + n = a.length → a.take k = b.take k → ∀ (Q : Exit → S → Prop),
   (a = b → ∀ p q r u v w, Q (.exit 0) (mk [(0, p), (1, q), (5, r), (11, u), (12, v), (13, w), (14, .pv (.bool false))] [])) →
   (a ≠ b → Q .ret (mk [(4, .pv (.bool false))] [])) →
   LoopW Try.prog [0, 1, 5] [] irRef01Same_L1 (mk [(0, .pv (.sl 1 (krows .u8 a))), (1, .pv (.sl 1 (krows .u8 b))), (5, .pv (.int .i64 k))] []) Q := by
  intro n
  induction n with
  | zero =>
    intro k hk ht Q h1 h2
    obtain rfl : k = a.length := by omega
    rw [List.take_length, h, List.take_length] at ht
    refine LoopW.go irRef01Same_L1.eq_1 (by simp) ?_
    simp [krows_length]
    exact h1 ht _ _ _ _ _ _
  | succ n ih =>
    intro k hk ht Q h1 h2
    have i1 : k < a.length := by omega
    obtain ⟨x, hx⟩ : ∃ x, a[k]? = some x := ⟨_, List.getElem?_eq_getElem (by omega)⟩
    obtain ⟨y, hy⟩ : ∃ y, b[k]? = some y := ⟨_, List.getElem?_eq_getElem (by omega)⟩
    have w : IntKind.i64.wrap ((k : Int) + 1) = (k + 1 : Nat) := by rw [wrap_i64] <;> omega
    refine LoopW.go irRef01Same_L1.eq_1 (by simp) ?_
    simp [-getElem?_pos, krows_length, krows_get, i1, hx, hy, w]
    constructor
    · intro hne
      exact h2 fun he => by subst he; rw [hx] at hy; cases hy; exact hne rfl
    · intro he
      subst he
      exact ih (k + 1) (by omega) (by rw [List.take_add_one, List.take_add_one, ht, hx, hy]) Q h1 h2
theorem same_c (a b : List Nat) (la : a.length < 1000000000000) : ACall Try.prog 14 [.pv (.sl 1 (krows .u8 a)), .pv (.sl 1 (krows .u8 b))] [] (.pv (.bool (decide (a = b)))) [] [] := by
  refine ACall.fn (fn := Try.f14) rfl okRef01Same rfl (by simp) ?_
  simp only [argT, irRef01Same.eq_1]
  by_cases h : a.length = b.length
  · simp [krows_length, h]
    refine same_l a b h la a.length 0 (by omega) (by simp) _ (fun he p q r u v w => ?_) fun hne => ?_
    · simp [he]
    · simp [hne]
  · have hne : a ≠ b := fun e => h (by rw [e])
    simp [krows_length, h, hne]
end Go.Proofs.Ytlbfpnckoblppaa
