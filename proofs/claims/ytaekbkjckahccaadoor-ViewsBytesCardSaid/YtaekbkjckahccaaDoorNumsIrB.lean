/- Contracts of the reader's fixed numbers, of the document's fixed numbers, of Join and Same. -/
import Derived.Test.YtaekbkjckahccaaDoorNumsIrA
set_option linter.unusedVariables false
set_option linter.unusedSimpArgs false
namespace Go.Proofs.YtaekbkjckahccaaDoor
open Go.Abs Go.RowKit Go.Ours

theorem or_byte (x c : Nat) (hx : x < 2 ^ 56) (hc : c < 256) : bits BinOp.or IntKind.u64 (IntKind.u64.wrap ((x : Int) * 2 ^ min 8 IntKind.u64.bits)) (IntKind.u64.wrap (c : Int)) = ((256 * x + c : Nat) : Int) := by
  have h1 : IntKind.u64.wrap ((x : Int) * 2 ^ min 8 IntKind.u64.bits) = ((x * 256 : Nat) : Int) := by
    have : min 8 IntKind.u64.bits = 8 := by simp [IntKind.bits]
    rw [this]
    simp [IntKind.wrap, IntKind.bits, IntKind.signed]
    omega
  have h2 : IntKind.u64.wrap (c : Int) = (c : Int) := by
    simp [IntKind.wrap, IntKind.bits, IntKind.signed]
    omega
  have h3 : (x * 256) ||| c = 256 * x + c := by
    have := Nat.shiftLeft_add_eq_or_of_lt (i := 8) (b := c) (by omega) x
    rw [Nat.shiftLeft_eq] at this
    rw [show (2 : Nat) ^ 8 = 256 from rfl] at this
    omega
  rw [h1, h2, (bits_op .u64 (x * 256) c (by simp [IntKind.bits]; omega) (by simp [IntKind.bits]; omega)).2.1, h3]
  simp [IntKind.wrap, IntKind.bits, IntKind.signed]
  omega
theorem fixed2_c (b : List Nat) (k x y : Nat) (hl : b.length ≤ 10000000000) (hx : b[k]? = some x) (hy : b[k + 1]? = some y) (hx2 : x < 256) (hy2 : y < 256) : ACall Tryd.prog 40 [.ptr 1000 0, .pv (.int .i64 2)] [.pagg (rdP b k)] (.tup [.pv (.int .u64 (256 * x + y : Nat)), .pv (.int .i64 0)]) [.pagg (rdP b (k + 2))] [] := by
  refine ACall.fn (fn := Tryd.f40) rfl okNumsReaderFixed rfl (by simp) ?_
  simp only [argT, irNumsReaderFixed.eq_1]
  have hk : k + 1 < b.length := (List.getElem?_eq_some_iff.1 hy).1
  have c := left_c b k hl (by omega)
  have h1 : ¬ ((b.length - k : Nat) : Int) < 2 := by omega
  have h2 : ¬ (b.length - k : Nat) < 2 := by omega
  generalize b.length - k = z at *
  obtain ⟨k1, hk1⟩ : ∃ k1, k1 = k + 1 := ⟨_, rfl⟩
  obtain ⟨k2, hk2⟩ : ∃ k2, k2 = k + 2 := ⟨_, rfl⟩
  rw [← hk1] at hy hk
  rw [← hk2]
  have i1 : (k : Int) < (b.length : Int) := by omega
  have i2 : (k1 : Int) < (b.length : Int) := by omega
  have i3 : k < b.length := by omega
  have w1 : IntKind.i64.wrap ((k : Int) + 1) = (k1 : Int) := by rw [wrap_i64] <;> omega
  have w2 : IntKind.i64.wrap ((k1 : Int) + 1) = (k2 : Int) := by rw [wrap_i64] <;> omega
  have o1 := or_byte 0 x (by omega) hx2
  have o2 := or_byte x y (by omega) hy2
  rw [show ((256 * 0 + x : Nat) : Int) = x by omega] at o1
  generalize (256 * x + y : Nat) = r at *
  simp [rdP] at c ⊢
  refine CallG.go (nwide_c 2 (by simp)) ?_
  simp
  refine CallG.go c ?_
  simp [h1, h2]
  simp at o1
  refine LoopW.go irNumsReaderFixed_L1.eq_1 (by simp) ?_
  simp [-getElem?_pos, krows_length, krows_get, i1, i3, hx, o1, w1]
  refine LoopW.go irNumsReaderFixed_L1.eq_1 (by simp) ?_
  simp [-getElem?_pos, krows_length, krows_get, i2, hk, hy, o2, w2]
  refine LoopW.go irNumsReaderFixed_L1.eq_1 (by simp) ?_
  simp
theorem fixedS_c (b : List Nat) (n k : Nat) (hn : n = 1 ∨ n = 2 ∨ n = 8) (hl : b.length ≤ 10000000000) (hk : k ≤ b.length) (hs : b.length < k + n) : ACall Tryd.prog 40 [.ptr 1000 0, .pv (.int .i64 (n : Nat))] [.pagg (rdP b k)] (.tup [.pv (.int .u64 0), .pv (.int .i64 1)]) [.pagg (rdP b k)] [] := by
  refine ACall.fn (fn := Tryd.f40) rfl okNumsReaderFixed rfl (by simp) ?_
  simp only [argT, irNumsReaderFixed.eq_1]
  have c := left_c b k hl (by omega)
  have h1 : ((b.length - k : Nat) : Int) < (n : Int) := by omega
  have h2 : (b.length - k : Nat) < n := by omega
  generalize b.length - k = z at *
  simp [rdP] at c ⊢
  refine CallG.go (nwide_c n hn) ?_
  simp
  refine CallG.go c ?_
  simp [h1, h2]
theorem rwide_c (n : Nat) (h : n = 1 ∨ n = 2 ∨ n = 8) : ACall Tryd.prog 49 [.pv (.int .i64 (n : Nat))] [] (.pv (.bool true)) [] [] := by
  refine ACall.fn (fn := Tryd.f49) rfl okRef01Wide rfl (by simp) ?_
  simp only [argT, irRef01Wide.eq_1]
  rcases h with rfl | rfl | rfl <;> simp
theorem refFixed2_c (x : Nat) (hx : x < 18446744073709551616) : ACall Tryd.prog 44 [.pv (.int .u64 (x : Nat)), .pv (.int .i64 2)] [] (.os 5 1 (krows .u8 [x / 256 % 256, x % 256])) [] [] := by
  refine ACall.fn (fn := Tryd.f44) rfl okRef01Fixed rfl (by simp) ?_
  simp only [argT, irRef01Fixed.eq_1]
  have t : (x : Int).tdiv 256 = ((x / 256 : Nat) : Int) := rfl
  have t1 : ((x / 256 : Nat) : Int).tmod 256 = ((x / 256 % 256 : Nat) : Int) := rfl
  have t2 : (x : Int).tmod 256 = ((x % 256 : Nat) : Int) := rfl
  have w1 : IntKind.u8.wrap ((x / 256 % 256 : Nat) : Int) = ((x / 256 % 256 : Nat) : Int) := by simp [IntKind.wrap, IntKind.bits, IntKind.signed]
  have w2 : IntKind.u8.wrap ((x % 256 : Nat) : Int) = ((x % 256 : Nat) : Int) := by simp [IntKind.wrap, IntKind.bits, IntKind.signed]
  have w3 : IntKind.u64.wrap ((x / 256 : Nat) : Int) = ((x / 256 : Nat) : Int) := by simp [IntKind.wrap, IntKind.bits, IntKind.signed]; omega
  have k1 : krows .u8 [x / 256 % 256] = [[.int .u8 ((x / 256 % 256 : Nat) : Int)]] := rfl
  have k2 : krows .u8 [x / 256 % 256, x % 256] = [[.int .u8 ((x / 256 % 256 : Nat) : Int)], [.int .u8 ((x % 256 : Nat) : Int)]] := rfl
  rw [k2]
  generalize x / 256 % 256 = y6 at *
  generalize x % 256 = y7 at *
  generalize x / 256 = y5 at *
  simp
  refine CallG.go (rwide_c 2 (by simp)) ?_
  simp
  refine LoopW.go irRef01Fixed_L1.eq_1 (by simp) ?_
  simp
  refine LoopW.go irRef01Fixed_L2.eq_1 (by simp) ?_
  simp [t, w3]
  refine LoopW.go irRef01Fixed_L2.eq_1 (by simp) ?_
  simp [t1, w1]
  refine LoopW.go irRef01Fixed_L1.eq_1 (by simp) ?_
  simp
  refine LoopW.go irRef01Fixed_L2.eq_1 (by simp) ?_
  simp [t2, w2]
  refine LoopW.go irRef01Fixed_L1.eq_1 (by simp) ?_
  simp
theorem refReadFixed2_c (b : List Nat) (k x y : Nat) (hl : b.length ≤ 10000000000) (hx : b[k]? = some x) (hy : b[k + 1]? = some y) (hx2 : x < 256) (hy2 : y < 256) : ACall Tryd.prog 42 [.pv (.sl 1 (krows .u8 b)), .pv (.int .i64 (k : Nat)), .pv (.int .i64 2)] [] (.pagg [.int .u64 (256 * x + y : Nat), .sl 1 [], .int .i64 2, .int .i64 0]) [] [] := by
  refine ACall.fn (fn := Tryd.f42) rfl okRef01ReadFixed rfl (by simp) ?_
  simp only [argT, irRef01ReadFixed.eq_1]
  obtain ⟨k1, hk1⟩ : ∃ k1, k1 = k + 1 := ⟨_, rfl⟩
  rw [← hk1] at hy
  have hk : k1 < b.length := (List.getElem?_eq_some_iff.1 hy).1
  have i1 : (k : Int) < (b.length : Int) := by omega
  have i2 : (k1 : Int) < (b.length : Int) := by omega
  have i3 : k < b.length := by omega
  have w0 : IntKind.i64.wrap (k : Int) = (k : Int) := by rw [wrap_i64] <;> omega
  have w1 : IntKind.i64.wrap ((k : Int) + 1) = (k1 : Int) := by rw [wrap_i64] <;> omega
  have w2 : IntKind.i64.wrap ((b.length : Int) - (k : Int)) = ((b.length - k : Nat) : Int) := by rw [wrap_i64] <;> omega
  have h1 : ¬ ((b.length - k : Nat) : Int) < 2 := by omega
  have h2 : ¬ (b.length - k : Nat) < 2 := by omega
  have v1 : IntKind.u64.wrap (x : Int) = (x : Int) := by simp [IntKind.wrap, IntKind.bits, IntKind.signed]; omega
  have v2 : IntKind.u64.wrap (y : Int) = (y : Int) := by simp [IntKind.wrap, IntKind.bits, IntKind.signed]; omega
  obtain ⟨z, hz⟩ : ∃ z, z = 256 * x := ⟨_, rfl⟩
  have v3 : IntKind.u64.wrap (256 * (x : Int)) = (z : Int) := by simp [IntKind.wrap, IntKind.bits, IntKind.signed]; omega
  rw [← hz]
  obtain ⟨r, hr⟩ : ∃ r, r = z + y := ⟨_, rfl⟩
  have v4 : IntKind.u64.wrap ((z : Int) + (y : Int)) = (r : Int) := by simp [IntKind.wrap, IntKind.bits, IntKind.signed]; omega
  rw [← hr]
  generalize b.length - k = d at *
  simp
  refine CallG.go (rwide_c 2 (by simp)) ?_
  simp [krows_length, w2, h1, h2]
  refine LoopW.go irRef01ReadFixed_L1.eq_1 (by simp) ?_
  simp [-getElem?_pos, krows_length, krows_get, i1, i3, hx, w0, v1]
  refine LoopW.go irRef01ReadFixed_L1.eq_1 (by simp) ?_
  simp [-getElem?_pos, krows_length, krows_get, i2, hk, hy, w1, v2, v3, v4]
  refine LoopW.go irRef01ReadFixed_L1.eq_1 (by simp) ?_
  simp
theorem join_c (a b : List Nat) (ha : a.length ≤ 10000000000) (hb : b.length ≤ 10000000000) : ACall Tryd.prog 43 [.pv (.sl 1 (krows .u8 a)), .pv (.sl 1 (krows .u8 b))] [] (.os 5 1 (krows .u8 (a ++ b))) [] [] := by
  refine ACall.fn (fn := Tryd.f43) rfl okRef01Join rfl (by simp) ?_
  simp only [argT, irRef01Join.eq_1]
  simp [krows_length, krows_app]
  refine ⟨by omega, by omega⟩
theorem same_l (a b : List Nat) (h : a.length = b.length) (la : a.length < 1000000000000) : ∀ (n k : Nat), k + n = a.length → a.take k = b.take k → ∀ (Q : Exit → S → Prop),
   (a = b → ∀ p q r u v w, Q (.exit 0) (mk [(0, p), (1, q), (5, r), (11, u), (12, v), (13, w), (14, .pv (.bool false))] [])) →
   (a ≠ b → Q .ret (mk [(4, .pv (.bool false))] [])) →
   LoopW Tryd.prog [0, 1, 5] [] irRef01Same_L1 (mk [(0, .pv (.sl 1 (krows .u8 a))), (1, .pv (.sl 1 (krows .u8 b))), (5, .pv (.int .i64 k))] []) Q := by
  intro n
  induction n with
  | zero =>
    intro k hk ht Q h1 h2
    obtain rfl : k = a.length := by omega
    rw [List.take_length, h, List.take_length] at ht
    refine LoopW.go irRef01Same_L1.eq_1 (by simp) ?_
    simp [krows_length]
    exact h1 ht _ _ _ _ _ _
  | succ n ih =>
    intro k hk ht Q h1 h2
    have i1 : k < a.length := by omega
    obtain ⟨x, hx⟩ : ∃ x, a[k]? = some x := ⟨_, List.getElem?_eq_getElem (by omega)⟩
    obtain ⟨y, hy⟩ : ∃ y, b[k]? = some y := ⟨_, List.getElem?_eq_getElem (by omega)⟩
    have w : IntKind.i64.wrap ((k : Int) + 1) = (k + 1 : Nat) := by rw [wrap_i64] <;> omega
    refine LoopW.go irRef01Same_L1.eq_1 (by simp) ?_
    simp [-getElem?_pos, krows_length, krows_get, i1, hx, hy, w]
    constructor
    · intro hne
      exact h2 fun he => by subst he; rw [hx] at hy; cases hy; exact hne rfl
    · intro he
      subst he
      exact ih (k + 1) (by omega) (by rw [List.take_add_one, List.take_add_one, ht, hx, hy]) Q h1 h2
theorem same_c (a b : List Nat) (la : a.length < 1000000000000) : ACall Tryd.prog 32 [.pv (.sl 1 (krows .u8 a)), .pv (.sl 1 (krows .u8 b))] [] (.pv (.bool (decide (a = b)))) [] [] := by
  refine ACall.fn (fn := Tryd.f32) rfl okRef01Same rfl (by simp) ?_
  simp only [argT, irRef01Same.eq_1]
  by_cases h : a.length = b.length
  · simp [krows_length, h]
    refine same_l a b h la a.length 0 (by omega) (by simp) _ (fun he p q r u v w => ?_) fun hne => ?_
    · simp [he]
    · simp [hne]
  · have hne : a ≠ b := fun e => h (by rw [e])
    simp [krows_length, h, hne]
end Go.Proofs.YtaekbkjckahccaaDoor
