/- Texts, digests' bytes: contracts. -/
import Derived.Test.YtekpgcohlpkmnaaNumsIrP
set_option linter.unusedVariables false
set_option linter.unusedSimpArgs false
namespace Go.Proofs.Ytekpgcohlpkmnaa
open Go.Abs Go.RowKit Go.Ours

theorem putText_c (b t : List Nat) (hb : b.length ≤ 10000000000) (ht : t.length ≤ 10000000000) : ACall Try.prog 25 [.pv (.sl 1 (krows .u8 b)), .pv (.sl 1 (krows .u8 t))] [] (.os 5 1 (krows .u8 (b ++ txt t))) [] [] := by
  refine ACall.fn (fn := Try.f25) rfl okNumsPutText rfl (by simp) ?_
  simp only [argT, irNumsPutText.eq_1]
  have hc := putPacked_c b t.length hb (by omega)
  have w1 : IntKind.u64.wrap (t.length : Int) = t.length := by rw [wrap_u64] <;> omega
  have hp := packed_len64 t.length (by omega)
  simp [krows_length, w1]
  refine CallG.go hc ?_
  simp [krows_length, krows_app, txt]
  omega
theorem refText_c (t : List Nat) (ht : t.length ≤ 10000000000) : ACall Try.prog 20 [.pv (.sl 1 (krows .u8 t))] [] (.os 5 1 (krows .u8 (txt t))) [] [] := by
  refine ACall.fn (fn := Try.f20) rfl okRef01Text rfl (by simp) ?_
  simp only [argT, irRef01Text.eq_1]
  have hc := refPacked_c t.length (by omega)
  have w1 : IntKind.u64.wrap (t.length : Int) = t.length := by rw [wrap_u64] <;> omega
  have hp := packed_len64 t.length (by omega)
  simp [krows_length, w1]
  refine CallG.go hc ?_
  simp [krows_length, krows_app, txt]
  omega
theorem byl (l : List Nat) (hl : l.length = 32) : ∀ (n k : Nat), k + n = 32 → ∀ (Q : Exit → S → Prop),
   (∀ a b, Q (.exit 0) (mk [(1, a), (3, .os 5 1 (krows .u8 l)), (4, b), (5, .pv (.int .i64 32)), (6, .pv (.bool false))] [(1, .pagg (kns .u8 l))])) →
   LoopW Try.prog [1, 3, 4] [1] irRef02Bytes_L1 (mk [(1, .ptr 1 0), (3, .os 5 1 (krows .u8 (l.take k))), (4, .pv (.int .i64 (k : Nat)))] [(1, .pagg (kns .u8 l))]) Q := by
  intro n
  induction n with
  | zero =>
    intro k hk Q hQ
    obtain rfl : k = 32 := by omega
    rw [List.take_of_length_le (by omega)]
    refine LoopW.go irRef02Bytes_L1.eq_1 (by simp) ?_
    simp
    exact hQ _ _
  | succ n ih =>
    intro k hk Q hQ
    have hn := ih (k + 1) (by omega) Q hQ
    obtain ⟨x, hx⟩ : ∃ x, l[k]? = some x := ⟨_, List.getElem?_eq_getElem (by omega)⟩
    rw [List.take_add_one, hx] at hn
    have i1 : (k : Int) < 32 := by omega
    have w : IntKind.i64.wrap ((k : Int) + 1) = (k + 1 : Nat) := by rw [wrap_i64] <;> omega
    have hlen : (l.take k).length ≤ 32 := by rw [List.length_take]; omega
    generalize l.take k = L at *
    refine LoopW.go irRef02Bytes_L1.eq_1 (by simp) ?_
    simp [-getElem?_pos, i1, w, kns_get, kns_length, hl, hx, krows_length, krows_one]
    exact ⟨by omega, hn⟩
theorem bytes_c (l : List Nat) (hl : l.length = 32) : ACall Try.prog 19 [.pagg (kns .u8 l)] [] (.os 5 1 (krows .u8 l)) [] [] := by
  refine ACall.fn (fn := Try.f19) rfl okRef02Bytes rfl (by simp) ?_
  simp only [argT, irRef02Bytes.eq_1]
  simp [kns_length, hl]
  refine byl l hl 32 0 rfl _ fun a b => ?_
  simp
end Go.Proofs.Ytekpgcohlpkmnaa
