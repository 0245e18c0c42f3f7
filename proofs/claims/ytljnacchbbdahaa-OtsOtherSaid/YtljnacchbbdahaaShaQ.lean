/- Packed numbers, texts, pairs: their contracts. -/
import Derived.Test.YtljnacchbbdahaaShaO
import Derived.Test.YtljnacchbbdahaaIrSha2
import Derived.Test.YtljnacchbbdahaaPlainNums
set_option linter.unusedVariables false
set_option linter.unusedSimpArgs false
namespace Go.Proofs.Ytljnacchbbdahaa
open Go.Abs Go.RowKit Go.Ours

theorem kns_rows (k : IntKind) (l : List Nat) : (kns k l).map (fun p => [p]) = krows k l := by simp [kns, krows]
theorem kns_take (k : IntKind) (l : List Nat) (n : Nat) : (kns k l).take n = kns k (l.take n) := by simp [kns]
theorem kns_drop (k : IntKind) (l : List Nat) (n : Nat) : (kns k l).drop n = kns k (l.drop n) := by simp [kns]
theorem or_128 (x : Nat) : bits BinOp.or IntKind.u8 (IntKind.u8.wrap (x : Int)) 128 = ((x % 128 + 128 : Nat) : Int) := by
  have h : ∀ a : _root_.Fin 256, bits BinOp.or IntKind.u8 ((a.val : Nat) : Int) 128 = ((a.val % 128 + 128 : Nat) : Int) := by decide +kernel
  have e : IntKind.u8.wrap (x : Int) = ((x % 256 : Nat) : Int) := by simp [IntKind.wrap, IntKind.bits, IntKind.signed]
  rw [e, h ⟨x % 256, by omega⟩]
  simp only
  omega
/-- A text, told apart. -/
def txt (t : List Nat) : List Nat := packed t.length ++ t
theorem byl (l : List Nat) (hl : l.length = 32) : ∀ (n k : Nat), k + n = 32 → ∀ (Q : Exit → S → Prop),
   (∀ a b, Q (.exit 0) (mk [(1, a), (3, .os 5 1 (krows .u8 l)), (4, b), (5, .pv (.int .i64 32)), (6, .pv (.bool false))] [])) →
   LoopW Try.prog [1, 3, 4] [] irRef02Bytes_L1 (mk [(1, .rp (kns .u8 l)), (3, .os 5 1 (krows .u8 (l.take k))), (4, .pv (.int .i64 (k : Nat)))] []) Q := by
  intro n
  induction n with
  | zero =>
    intro k hk Q hQ
    obtain rfl : k = 32 := by omega
    rw [List.take_of_length_le (by omega)]
    refine LoopW.go irRef02Bytes_L1.eq_1 (by simp) ?_
    simp
    exact hQ _ _
  | succ n ih =>
    intro k hk Q hQ
    have hn := ih (k + 1) (by omega) Q hQ
    obtain ⟨x, hx⟩ : ∃ x, l[k]? = some x := ⟨_, List.getElem?_eq_getElem (by omega)⟩
    rw [List.take_add_one, hx] at hn
    have i1 : (k : Int) < 32 := by omega
    have w : IntKind.i64.wrap ((k : Int) + 1) = (k + 1 : Nat) := by rw [wrap_i64] <;> omega
    have hlen : (l.take k).length ≤ 32 := by rw [List.length_take]; omega
    generalize l.take k = L at *
    refine LoopW.go irRef02Bytes_L1.eq_1 (by simp) ?_
    simp [-getElem?_pos, i1, w, kns_get, hx, krows_length, krows_one]
    exact ⟨by omega, hn⟩
theorem bytes_c (l : List Nat) (hl : l.length = 32) : ACall Try.prog 36 [.pagg (kns .u8 l)] [] (.os 5 1 (krows .u8 l)) [] [] := by
  refine ACall.fn (fn := Try.f36) rfl okRef02Bytes rfl (by simp) ?_
  simp only [argT, irRef02Bytes.eq_1]
  simp
  refine byl l hl 32 0 rfl _ fun a b => ?_
  simp
end Go.Proofs.Ytljnacchbbdahaa
