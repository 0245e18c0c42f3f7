/- Packed numbers, texts, pairs: their contracts. -/
import Derived.Test.YtlbfpnckoblppaaShaO
import Derived.Test.YtlbfpnckoblppaaIrSha2
import Derived.Test.YtlbfpnckoblppaaPlainNums
set_option linter.unusedVariables false
set_option linter.unusedSimpArgs false
namespace Go.Proofs.Ytlbfpnckoblppaa
open Go.Abs Go.RowKit Go.Ours

theorem kns_rows (k : IntKind) (l : List Nat) : (kns k l).map (fun p => [p]) = krows k l := by simp [kns, krows]
theorem kns_take (k : IntKind) (l : List Nat) (n : Nat) : (kns k l).take n = kns k (l.take n) := by simp [kns]
theorem kns_drop (k : IntKind) (l : List Nat) (n : Nat) : (kns k l).drop n = kns k (l.drop n) := by simp [kns]
theorem or_128 (x : Nat) : bits BinOp.or IntKind.u8 (IntKind.u8.wrap (x : Int)) 128 = ((x % 128 + 128 : Nat) : Int) := by
  have h : ∀ a : _root_.Fin 256, bits BinOp.or IntKind.u8 ((a.val : Nat) : Int) 128 = ((a.val % 128 + 128 : Nat) : Int) := by decide +kernel
  have e : IntKind.u8.wrap (x : Int) = ((x % 256 : Nat) : Int) := by simp [IntKind.wrap, IntKind.bits, IntKind.signed]
  rw [e, h ⟨x % 256, by omega⟩]
  simp only
  omega
theorem ppl : ∀ (n x : Nat) (L : List Nat), x < 128 ^ (n + 1) → x < 18446744073709551616 → L.length + n ≤ 50000000000 → ∀ (Q : Exit → S → Prop),
   (∀ y L' a, y < 128 → L' ++ [y] = L ++ packed x → L'.length ≤ 50000000000 → Q (.exit 0) (mk [(1, .pv (.int .u64 (y : Nat))), (5, .os 5 1 (krows .u8 L')), (8, a), (9, .pv (.bool false))] [])) →
   LoopW Try.prog [1, 5] [] irNumsPutPacked_L1 (mk [(1, .pv (.int .u64 (x : Nat))), (5, .os 5 1 (krows .u8 L))] []) Q := by
  intro n
  induction n with
  | zero =>
    intro x L hx _ hl Q hQ
    have h1 : ¬ 128 ≤ (x : Int) := by omega
    refine LoopW.go irNumsPutPacked_L1.eq_1 (by simp) ?_
    simp [h1]
    exact hQ x L _ (by omega) (by rw [packed_small (by omega)]) (by omega)
  | succ n ih =>
    intro x L hx hx2 hl Q hQ
    by_cases h : x < 128
    · have h1 : ¬ 128 ≤ (x : Int) := by omega
      refine LoopW.go irNumsPutPacked_L1.eq_1 (by simp) ?_
      simp [h1]
      exact hQ x L _ (by omega) (by rw [packed_small (by omega)]) (by omega)
    · have h1 : 128 ≤ (x : Int) := by omega
      have hn := ih (x / 128) (L ++ [x % 128 + 128]) (by rw [Nat.pow_succ] at hx; omega) (by omega) (by simp; omega) Q (fun y L' a hy he hl' => hQ y L' a hy (by rw [he, packed_big (x := x) (by omega), List.append_assoc]; rfl) hl')
      have e1 := or_128 x
      have e2 : (x : Int).fdiv (2 ^ min 7 IntKind.u64.bits) = ((x / 128 : Nat) : Int) := shr_nat x 7
      generalize x % 128 + 128 = v at *
      generalize x / 128 = z at *
      refine LoopW.go irNumsPutPacked_L1.eq_1 (by simp) ?_
      simp [h1, e1, e2, krows_length, krows_one]
      exact ⟨by omega, hn⟩
theorem putPacked_c (b : List Nat) (x : Nat) (hb : b.length ≤ 10000000000) (hx : x < 18446744073709551616) : ACall Try.prog 57 [.pv (.sl 1 (krows .u8 b)), .pv (.int .u64 x)] [] (.os 5 1 (krows .u8 (b ++ packed x))) [] [] := by
  refine ACall.fn (fn := Try.f57) rfl okNumsPutPacked rfl (by simp) ?_
  simp only [argT, irNumsPutPacked.eq_1]
  simp
  refine CallG.go (cloneA b hb) ?_
  simp
  refine ppl 9 x b (by omega) hx (by omega) _ fun y L' a hy he hl => ?_
  have e1 : IntKind.u8.wrap (y : Int) = (y : Int) := by rw [wrap_u8] <;> omega
  simp [e1, krows_length, krows_one, he]
  omega
theorem rpl : ∀ (n x : Nat) (L : List Nat), x < 128 ^ (n + 1) → x < 18446744073709551616 → L.length + n ≤ 50000000000 → ∀ (Q : Exit → S → Prop),
   (∀ y L' a, y < 128 → L' ++ [y] = L ++ packed x → L'.length ≤ 50000000000 → Q (.exit 0) (mk [(0, .pv (.int .u64 (y : Nat))), (3, .os 5 1 (krows .u8 L')), (4, a), (5, .pv (.bool false))] [])) →
   LoopW Try.prog [0, 3] [] irRef01Packed_L1 (mk [(0, .pv (.int .u64 (x : Nat))), (3, .os 5 1 (krows .u8 L))] []) Q := by
  intro n
  induction n with
  | zero =>
    intro x L hx _ hl Q hQ
    have h1 : ¬ 127 < (x : Int) := by omega
    refine LoopW.go irRef01Packed_L1.eq_1 (by simp) ?_
    simp [h1]
    exact hQ x L _ (by omega) (by rw [packed_small (by omega)]) (by omega)
  | succ n ih =>
    intro x L hx hx2 hl Q hQ
    by_cases h : x < 128
    · have h1 : ¬ 127 < (x : Int) := by omega
      refine LoopW.go irRef01Packed_L1.eq_1 (by simp) ?_
      simp [h1]
      exact hQ x L _ (by omega) (by rw [packed_small (by omega)]) (by omega)
    · have h1 : 127 < (x : Int) := by omega
      have hn := ih (x / 128) (L ++ [x % 128 + 128]) (by rw [Nat.pow_succ] at hx; omega) (by omega) (by simp; omega) Q (fun y L' a hy he hl' => hQ y L' a hy (by rw [he, packed_big (x := x) (by omega), List.append_assoc]; rfl) hl')
      obtain ⟨r, hr⟩ : ∃ r, r = x % 128 := ⟨_, rfl⟩
      obtain ⟨z, hz⟩ : ∃ z, z = x / 128 := ⟨_, rfl⟩
      rw [← hr, ← hz] at hn
      have e1 : (x : Int).tmod 128 = (r : Int) := by rw [hr]; rfl
      have e2 : (x : Int).tdiv 128 = (z : Int) := by rw [hz]; rfl
      have e3 : IntKind.u64.wrap ((r : Int) + 128) = ((r + 128 : Nat) : Int) := by rw [wrap_u64] <;> omega
      have e4 : IntKind.u8.wrap ((r + 128 : Nat) : Int) = ((r + 128 : Nat) : Int) := by rw [wrap_u8] <;> omega
      have e5 : IntKind.u64.wrap (z : Int) = (z : Int) := by rw [wrap_u64] <;> omega
      generalize r + 128 = v at *
      refine LoopW.go irRef01Packed_L1.eq_1 (by simp) ?_
      simp [h1, e1, e2, e3, e4, e5, krows_length, krows_one]
      exact ⟨by omega, hn⟩
theorem refPacked_c (x : Nat) (hx : x < 18446744073709551616) : ACall Try.prog 49 [.pv (.int .u64 x)] [] (.os 5 1 (krows .u8 (packed x))) [] [] := by
  refine ACall.fn (fn := Try.f49) rfl okRef01Packed rfl (by simp) ?_
  simp only [argT, irRef01Packed.eq_1]
  simp
  refine rpl 9 x [] (by omega) hx (by simp) _ fun y L' a hy he hl => ?_
  rw [List.nil_append] at he
  have e1 : IntKind.u8.wrap (y : Int) = (y : Int) := by rw [wrap_u8] <;> omega
  simp [e1, krows_length, krows_one, he]
  omega
/-- A text, told apart. -/
def txt (t : List Nat) : List Nat := packed t.length ++ t
theorem putText_c (b t : List Nat) (hb : b.length ≤ 10000000000) (ht : t.length ≤ 10000000000) : ACall Try.prog 46 [.pv (.sl 1 (krows .u8 b)), .pv (.sl 1 (krows .u8 t))] [] (.os 5 1 (krows .u8 (b ++ txt t))) [] [] := by
  refine ACall.fn (fn := Try.f46) rfl okNumsPutText rfl (by simp) ?_
  simp only [argT, irNumsPutText.eq_1]
  have hc := putPacked_c b t.length hb (by omega)
  have w1 : IntKind.u64.wrap (t.length : Int) = t.length := by rw [wrap_u64] <;> omega
  have hp := packed_len64 t.length (by omega)
  simp [krows_length, w1]
  refine CallG.go hc ?_
  simp [krows_length, krows_app, txt]
  omega
theorem refText_c (t : List Nat) (ht : t.length ≤ 10000000000) : ACall Try.prog 34 [.pv (.sl 1 (krows .u8 t))] [] (.os 5 1 (krows .u8 (txt t))) [] [] := by
  refine ACall.fn (fn := Try.f34) rfl okRef01Text rfl (by simp) ?_
  simp only [argT, irRef01Text.eq_1]
  have hc := refPacked_c t.length (by omega)
  have w1 : IntKind.u64.wrap (t.length : Int) = t.length := by rw [wrap_u64] <;> omega
  have hp := packed_len64 t.length (by omega)
  simp [krows_length, w1]
  refine CallG.go hc ?_
  simp [krows_length, krows_app, txt]
  omega
theorem byl (l : List Nat) (hl : l.length = 32) : ∀ (n k : Nat), k + n = 32 → ∀ (Q : Exit → S → Prop),
   (∀ a b, Q (.exit 0) (mk [(1, a), (3, .os 5 1 (krows .u8 l)), (4, b), (5, .pv (.int .i64 32)), (6, .pv (.bool false))] [])) →
   LoopW Try.prog [1, 3, 4] [] irRef02Bytes_L1 (mk [(1, .rp (kns .u8 l)), (3, .os 5 1 (krows .u8 (l.take k))), (4, .pv (.int .i64 (k : Nat)))] []) Q := by
  intro n
  induction n with
  | zero =>
    intro k hk Q hQ
    obtain rfl : k = 32 := by omega
    rw [List.take_of_length_le (by omega)]
    refine LoopW.go irRef02Bytes_L1.eq_1 (by simp) ?_
    simp
    exact hQ _ _
  | succ n ih =>
    intro k hk Q hQ
    have hn := ih (k + 1) (by omega) Q hQ
    obtain ⟨x, hx⟩ : ∃ x, l[k]? = some x := ⟨_, List.getElem?_eq_getElem (by omega)⟩
    rw [List.take_add_one, hx] at hn
    have i1 : (k : Int) < 32 := by omega
    have w : IntKind.i64.wrap ((k : Int) + 1) = (k + 1 : Nat) := by rw [wrap_i64] <;> omega
    have hlen : (l.take k).length ≤ 32 := by rw [List.length_take]; omega
    generalize l.take k = L at *
    refine LoopW.go irRef02Bytes_L1.eq_1 (by simp) ?_
    simp [-getElem?_pos, i1, w, kns_get, hx, krows_length, krows_one]
    exact ⟨by omega, hn⟩
theorem bytes_c (l : List Nat) (hl : l.length = 32) : ACall Try.prog 35 [.pagg (kns .u8 l)] [] (.os 5 1 (krows .u8 l)) [] [] := by
  refine ACall.fn (fn := Try.f35) rfl okRef02Bytes rfl (by simp) ?_
  simp only [argT, irRef02Bytes.eq_1]
  simp
  refine byl l hl 32 0 rfl _ fun a b => ?_
  simp
end Go.Proofs.Ytlbfpnckoblppaa
