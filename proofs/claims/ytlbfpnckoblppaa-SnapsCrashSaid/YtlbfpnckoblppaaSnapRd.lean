/- The reader's texts, where they are well put: contracts. -/
import Derived.Test.YtlbfpnckoblppaaPlainFold
import Derived.Test.YtlbfpnckoblppaaPlainRead
import Derived.Test.YtlbfpnckoblppaaLibClone
import Derived.Test.YtlbfpnckoblppaaShaQ
import Derived.Test.YtlbfpnckoblppaaIrRdr
set_option linter.unusedVariables false
set_option linter.unusedSimpArgs false
namespace Go.Proofs.Ytlbfpnckoblppaa
open Go.Abs Go.RowKit Go.Ours

/-- A reader. -/
def rdP (b : List Nat) (at_ : Nat) : List PV := [.sl 1 (krows .u8 b), .int .i64 (at_ : Nat)]
theorem left_c (b : List Nat) (k : Nat) (hl : b.length ≤ 10000000000) (hk : k ≤ b.length) : ACall Try.prog 30 [.ptr 1000 0] [.pagg (rdP b k)] (.pv (.int .i64 (b.length - k : Nat))) [.pagg (rdP b k)] [] := by
  refine ACall.fn (fn := Try.f30) rfl okNumsReaderLeft rfl (by simp) ?_
  simp only [argT, irNumsReaderLeft.eq_1]
  have w : IntKind.i64.wrap ((b.length : Int) - (k : Int)) = (b.length - k : Nat) := by rw [wrap_i64] <;> omega
  simp [rdP, krows_length, w]
theorem newr_c (b : List Nat) (hl : b.length ≤ 10000000000) : ACall Try.prog 28 [.pv (.sl 1 (krows .u8 b))] [] (.ptr 2000 0) [] [.pagg (rdP b 0)] := by
  refine ACall.fn (fn := Try.f28) rfl okNumsNew rfl (by simp) ?_
  simp only [argT, irNumsNew.eq_1]
  simp
  refine CallG.go (cloneA b hl) ?_
  simp [rdP]
theorem and_127 (c : Nat) (hc : c < 256) : bits BinOp.and IntKind.u8 (c : Int) 127 = ((c % 128 : Nat) : Int) := by
  have := (bits_op .u8 c 127 hc (by decide)).1
  rw [show ((127 : Nat) : Int) = 127 from rfl] at this
  rw [this, Nat.and_two_pow_sub_one_eq_mod c 7]
  simp [IntKind.wrap, IntKind.bits, IntKind.signed]
  omega
theorem shl7 (c i j : Nat) (hj : j = 7 * i) (hi : i ≤ 9) (h : c * 128 ^ i < 18446744073709551616) : IntKind.u64.wrap ((c : Int) * 2 ^ min j IntKind.u64.bits) = ((c * 128 ^ i : Nat) : Int) := by
  have e : min j IntKind.u64.bits = 7 * i := by rw [hj]; simp [IntKind.bits]; omega
  have e2 : (2 : Int) ^ (7 * i) = ((128 ^ i : Nat) : Int) := by rw [Int.pow_mul]; norm_cast
  rw [e, e2, ← Int.natCast_mul]
  generalize c * 128 ^ i = v at *
  simp [IntKind.wrap, IntKind.bits, IntKind.signed]
  omega
theorem or_nat (x m s : Nat) (h : x ||| m = s) (hx : x < 18446744073709551616) (hm : m < 18446744073709551616) (hs : s < 18446744073709551616) : bits BinOp.or IntKind.u64 (x : Int) (m : Int) = (s : Int) := by
  rw [(bits_op .u64 x m (by simp [IntKind.bits]; omega) (by simp [IntKind.bits]; omega)).2.1, h]
  simp [IntKind.wrap, IntKind.bits, IntKind.signed]
  omega
theorem rkl (b r : List Nat) (k y : Nat) (hl : b.length ≤ 10000000000) (hy : y < 18446744073709551616) : ∀ (n i x z : Nat), i + n = 9 → b.drop (k + i) = packed z ++ r → y = x + 128 ^ i * z → x < 128 ^ i → (0 < i → 1 ≤ z) → ∀ (Q : Exit → S → Prop),
   (∀ a d c, Q .ret (mk [(0, c), (2, .pv (.int .u64 (y : Nat))), (3, .pv (.int .i64 0)), (4, a), (67, d)] [(1000, .pagg (rdP b (k + i + (packed z).length)))])) →
   LoopW Try.prog [0, 4, 9] [1000] irNumsReaderPacked_L1 (mk [(0, .ptr 1000 0), (4, .pv (.int .u64 (x : Nat))), (9, .pv (.int .i64 (i : Nat)))] [(1000, .pagg (rdP b k))]) Q := by
  intro n
  induction n with
  | zero =>
    intro i x z hi hd he hx hz Q hQ
    obtain rfl : i = 9 := by omega
    have hz1 : z ≤ 1 := by
      rw [show (128 : Nat) ^ 9 = 9223372036854775808 from rfl] at he
      omega
    have hz2 := hz (by omega)
    obtain rfl : z = 1 := by omega
    rw [packed_small (by decide)] at hd hQ
    have hc : b[k + 9]? = some 1 := by
      have := congrArg (·[0]?) hd
      simpa using this
    have hlt := (List.getElem?_eq_some_iff.1 hc).1
    obtain ⟨k9, hk9⟩ : ∃ k9, k9 = k + 9 := ⟨_, rfl⟩
    obtain ⟨k10, hk10⟩ : ∃ k10, k10 = k + 10 := ⟨_, rfl⟩
    rw [List.length_singleton, show k + 9 + 1 = k10 by omega] at hQ
    rw [← hk9] at hc hlt
    have i1 : ¬ (b.length : Int) ≤ (k9 : Int) := by omega
    have i2 : ¬ b.length ≤ k9 := by omega
    have i3 : (k9 : Int) < (b.length : Int) := by omega
    have w9 : IntKind.i64.wrap ((k : Int) + 9) = (k9 : Int) := by rw [wrap_i64] <;> omega
    have w10 : IntKind.i64.wrap ((k : Int) + 10) = (k10 : Int) := by rw [wrap_i64] <;> omega
    have a1 : bits BinOp.and IntKind.u8 1 127 = 1 := and_127 1 (by decide)
    have wu : IntKind.u64.wrap 1 = 1 := by decide
    have w63 : IntKind.i64.wrap 63 = 63 := by decide
    have wq : IntKind.i64.wrap (9 + 1) = 10 := by decide
    have s1 : IntKind.u64.wrap (2 ^ min 63 IntKind.u64.bits) = ((1 * 128 ^ 9 : Nat) : Int) := by decide
    have o1 : bits BinOp.or IntKind.u64 (x : Int) ((1 * 128 ^ 9 : Nat) : Int) = (y : Int) := or_nat x (1 * 128 ^ 9) y (by rw [or_add x 1 9 hx, he]) (by omega) (by decide) hy
    generalize ((1 * 128 ^ 9 : Nat) : Int) = m at *
    simp only [rdP] at hQ ⊢
    refine LoopW.go irNumsReaderPacked_L1.eq_1 (by simp) ?_
    simp [-getElem?_pos, krows_length, krows_get, w9, i1, i2, i3, hlt, hc, a1, wu, w63, wq, s1, o1, w10]
    exact hQ _ _ _
  | succ n ih =>
    intro i x z hi hd he hx hz Q hQ
    obtain ⟨j, hj⟩ : ∃ j, j = 7 * i := ⟨_, rfl⟩
    obtain ⟨k1, hk1⟩ : ∃ k1, k1 = k + i := ⟨_, rfl⟩
    have hi9 : ¬ (i : Int) = 9 := by omega
    have hi9' : ¬ i = 9 := by omega
    have i10 : (i : Int) < 10 := by omega
    have i10' : i < 10 := by omega
    have w7 : IntKind.i64.wrap (7 * (i : Int)) = (j : Int) := by rw [wrap_i64] <;> omega
    by_cases h : z < 128
    · rw [packed_small h] at hd hQ
      have hc : b[k + i]? = some z := by
        have := congrArg (·[0]?) hd
        simpa using this
      have hlt := (List.getElem?_eq_some_iff.1 hc).1
      obtain ⟨m, hm⟩ : ∃ m, m = z * 128 ^ i := ⟨_, rfl⟩
      have hmy : y = x + m := by rw [he, hm, Nat.mul_comm]
      have sh := shl7 z i j hj (by omega) (by omega)
      have o1 : bits BinOp.or IntKind.u64 (x : Int) (m : Int) = (y : Int) := or_nat x m y (by rw [hm, or_add x z i hx, ← hm]; omega) (by omega) (by omega) hy
      rw [← hm] at sh
      have a1 := and_127 z (by omega)
      rw [Nat.mod_eq_of_lt h] at a1
      have wu : IntKind.u64.wrap (z : Int) = (z : Int) := by simp [IntKind.wrap, IntKind.bits, IntKind.signed]; omega
      rw [List.length_singleton, ← hk1] at hQ
      rw [← hk1] at hc hlt
      obtain ⟨k2, hk2⟩ : ∃ k2, k2 = k1 + 1 := ⟨_, rfl⟩
      rw [← hk2] at hQ
      obtain ⟨i2, hi2⟩ : ∃ i2, i2 = i + 1 := ⟨_, rfl⟩
      have i1 : ¬ (b.length : Int) ≤ (k1 : Int) := by omega
      have i1' : ¬ b.length ≤ k1 := by omega
      have i3 : (k1 : Int) < (b.length : Int) := by omega
      have w1 : IntKind.i64.wrap ((k : Int) + (i : Int)) = (k1 : Int) := by rw [wrap_i64] <;> omega
      have w2 : IntKind.i64.wrap ((i : Int) + 1) = (i2 : Int) := by rw [wrap_i64] <;> omega
      have w3 : IntKind.i64.wrap ((k : Int) + (i2 : Int)) = (k2 : Int) := by rw [wrap_i64] <;> omega
      have h' : (z : Int) < 128 := by omega
      have j0 : (0 : Int) ≤ (j : Int) := by omega
      simp only [rdP] at hQ ⊢
      by_cases z0 : z = 0
      · have i0 : ¬ 0 < i := fun hh => by have := hz hh; omega
        have i0' : ¬ (0 : Int) < (i : Int) := by omega
        have z0' : (z : Int) = 0 := by omega
        refine LoopW.go irNumsReaderPacked_L1.eq_1 (by simp) ?_
        simp [-getElem?_pos, krows_length, krows_get, i10, i10', hi9, hi9', w7, w1, w2, w3, i1, i1', i3, hlt, hc, a1, wu, sh, o1, h, h', j0]
        exact ⟨fun _ => ⟨fun hh => absurd hh i0, fun _ => hQ _ _ _⟩, fun hh => absurd z0 hh⟩
      · have z0' : ¬ (z : Int) = 0 := by omega
        refine LoopW.go irNumsReaderPacked_L1.eq_1 (by simp) ?_
        simp [-getElem?_pos, krows_length, krows_get, i10, i10', hi9, hi9', w7, w1, w2, w3, i1, i1', i3, hlt, hc, a1, wu, sh, o1, h, h', j0, z0, z0']
        exact hQ _ _ _
    · have hb := packed_big (x := z) (by omega)
      rw [hb] at hd hQ
      have hc : b[k + i]? = some (z % 128 + 128) := by
        have := congrArg (·[0]?) hd
        simpa using this
      have hlt := (List.getElem?_eq_some_iff.1 hc).1
      have hd' : b.drop (k + (i + 1)) = packed (z / 128) ++ r := by
        have := congrArg (List.drop 1) hd
        rw [List.drop_drop] at this
        simpa [Nat.add_assoc] using this
      obtain ⟨u, hu⟩ : ∃ u, u = z % 128 := ⟨_, rfl⟩
      obtain ⟨c, hcc⟩ : ∃ c, c = z % 128 + 128 := ⟨_, rfl⟩
      obtain ⟨m, hm⟩ : ∃ m, m = u * 128 ^ i := ⟨_, rfl⟩
      have hmx : m + x < 128 ^ (i + 1) := by
        rw [hm, Nat.pow_succ, Nat.mul_comm (128 ^ i) 128]
        have : u * 128 ^ i ≤ 127 * 128 ^ i := Nat.mul_le_mul_right _ (by omega)
        omega
      have he' : y = (x + m) + 128 ^ (i + 1) * (z / 128) := by
        rw [he, hm, Nat.pow_succ, Nat.mul_assoc, Nat.add_assoc, Nat.mul_comm u, ← Nat.mul_add]
        congr 2
        omega
      have hmy : x + m ≤ y := by omega
      have sh := shl7 u i j hj (by omega) (by omega)
      obtain ⟨x', hx'⟩ : ∃ x', x' = x + m := ⟨_, rfl⟩
      have o1 : bits BinOp.or IntKind.u64 (x : Int) (m : Int) = (x' : Int) := or_nat x m x' (by rw [hm, or_add x u i hx, ← hm, hx']) (by omega) (by omega) (by omega)
      rw [← hm] at sh
      have a1 := and_127 c (by omega)
      rw [show c % 128 = u by omega] at a1
      have wu : IntKind.u64.wrap (u : Int) = (u : Int) := by simp [IntKind.wrap, IntKind.bits, IntKind.signed]; omega
      rw [← hx'] at he' hmy
      have hn := ih (i + 1) x' (z / 128) (by omega) hd' he' (by omega) (by intro _; omega) Q (fun a d e => by
        have := hQ a d e
        rwa [List.length_cons, show k + i + ((packed (z / 128)).length + 1) = k + (i + 1) + (packed (z / 128)).length by omega] at this)
      clear hQ ih
      rw [← hcc, ← hk1] at hc
      rw [← hk1] at hlt
      have i1 : ¬ (b.length : Int) ≤ (k1 : Int) := by omega
      have i1' : ¬ b.length ≤ k1 := by omega
      have i3 : (k1 : Int) < (b.length : Int) := by omega
      have w1 : IntKind.i64.wrap ((k : Int) + (i : Int)) = (k1 : Int) := by rw [wrap_i64] <;> omega
      have w2 : IntKind.i64.wrap ((i : Int) + 1) = (i + 1 : Nat) := by rw [wrap_i64] <;> omega
      have h' : ¬ (c : Int) < 128 := by omega
      have h'' : ¬ c < 128 := by omega
      have j0 : (0 : Int) ≤ (j : Int) := by omega
      simp only [rdP] at hn ⊢
      refine LoopW.go irNumsReaderPacked_L1.eq_1 (by simp) ?_
      simp [-getElem?_pos, krows_length, krows_get, i10, i10', hi9, hi9', w7, w1, w2, i1, i1', i3, hlt, hc, a1, wu, sh, o1, h', h'', j0]
      exact hn
theorem packedAt_c (b r : List Nat) (k y : Nat) (hl : b.length ≤ 10000000000) (hy : y < 18446744073709551616) (hd : b.drop k = packed y ++ r) : ACall Try.prog 56 [.ptr 1000 0] [.pagg (rdP b k)] (.tup [.pv (.int .u64 (y : Nat)), .pv (.int .i64 0)]) [.pagg (rdP b (k + (packed y).length))] [] := by
  refine ACall.fn (fn := Try.f56) rfl okNumsReaderPacked rfl (by simp) ?_
  simp only [argT, irNumsReaderPacked.eq_1]
  have hlp := rkl b r k y hl hy 9 0 0 y rfl hd (by simp) (by simp) (by simp)
  rw [Nat.add_zero] at hlp
  generalize k + (packed y).length = k2 at *
  generalize rdP b k = q at *
  generalize rdP b k2 = q2 at *
  simp
  refine hlp _ fun a d c => ?_
  simp
theorem countAt_c (b r : List Nat) (k y n : Nat) (hl : b.length ≤ 10000000000) (hn : n ≤ 10000000000) (hy : y ≤ n) (hd : b.drop k = packed y ++ r) : ACall Try.prog 45 [.ptr 1000 0, .pv (.int .i64 (n : Nat))] [.pagg (rdP b k)] (.tup [.pv (.int .i64 (y : Nat)), .pv (.int .i64 0)]) [.pagg (rdP b (k + (packed y).length))] [] := by
  refine ACall.fn (fn := Try.f45) rfl okNumsReaderCount rfl (by simp) ?_
  simp only [argT, irNumsReaderCount.eq_1]
  have c := packedAt_c b r k y hl (by omega) hd
  have i1 : ¬ (n : Int) < 0 := by omega
  have i2 : ¬ (n : Int) < (y : Int) := by omega
  have i2' : ¬ n < y := by omega
  have w1 : IntKind.u64.wrap (n : Int) = (n : Int) := by simp [IntKind.wrap, IntKind.bits, IntKind.signed]; omega
  have w2 : IntKind.i64.wrap (y : Int) = (y : Int) := by rw [wrap_i64] <;> omega
  generalize k + (packed y).length = k2 at *
  simp only [rdP] at c ⊢
  simp
  refine CallG.go c ?_
  simp [i1, i2, i2', w1, w2]
def txtR (t : List Nat) : List Nat := packed t.length ++ t
theorem textAt_c (b r t : List Nat) (k n : Nat) (hl : b.length ≤ 10000000000) (hn : n ≤ 10000000000) (hy : t.length ≤ n) (hk : k ≤ b.length) (hd : b.drop k = txtR t ++ r) : ACall Try.prog 29 [.ptr 1000 0, .pv (.int .i64 (n : Nat))] [.pagg (rdP b k)] (.tup [.os 5 1 (krows .u8 t), .pv (.int .i64 0)]) [.pagg (rdP b (k + (txtR t).length))] [] := by
  refine ACall.fn (fn := Try.f29) rfl okNumsReaderText rfl (by simp) ?_
  simp only [argT, irNumsReaderText.eq_1]
  have hlen := congrArg List.length hd
  rw [List.length_drop, List.length_append, txtR, List.length_append] at hlen
  have c1 := countAt_c b (t ++ r) k t.length n hl hn hy (by rw [hd, txtR, List.append_assoc])
  have c2 := left_c b (k + (packed t.length).length) hl (by omega)
  have e3 : k + (txtR t).length = k + (packed t.length).length + t.length := by rw [txtR, List.length_append]; omega
  rw [e3]
  have hd2 : (b.take (k + (packed t.length).length + t.length)).drop (k + (packed t.length).length) = t := by
    rw [← List.take_drop, ← List.drop_drop, hd, txtR, List.append_assoc, List.drop_left, List.take_left]
  obtain ⟨k2, hk2⟩ : ∃ k2, k2 = k + (packed t.length).length := ⟨_, rfl⟩
  rw [← hk2] at c1 c2 hd2
  rw [← hk2]
  obtain ⟨k3, hk3⟩ : ∃ k3, k3 = k2 + t.length := ⟨_, rfl⟩
  rw [← hk3] at hd2
  rw [← hk3]
  have i1 : ¬ ((b.length - k2 : Nat) : Int) < (t.length : Int) := by omega
  have i1' : ¬ (b.length - k2 : Nat) < t.length := by omega
  generalize b.length - k2 = z at *
  have w1 : IntKind.i64.wrap ((k2 : Int) + (t.length : Int)) = (k3 : Int) := by rw [wrap_i64] <;> omega
  have w2 : IntKind.i64.wrap ((k3 : Int) - (t.length : Int)) = (k2 : Int) := by rw [wrap_i64] <;> omega
  have c3 := cloneA t (by omega)
  have i2 : (k2 : Int) ≤ (k3 : Int) := by omega
  have i2' : k2 ≤ k3 := by omega
  have i3 : (k3 : Int) ≤ (b.length : Int) := by omega
  have i3' : k3 ≤ b.length := by omega
  have e4 : k3 - k2 = t.length := by omega
  have e5 : ((k3 : Int) - (k2 : Int)).toNat = t.length := by omega
  simp only [rdP] at c1 c2 ⊢
  simp
  refine CallG.go c1 ?_
  simp
  refine CallG.go c2 ?_
  simp [i1, i1', w1, w2, krows_drop, krows_take, krows_length, i2, i2', i3, i3', e4, e5, hd2]
  refine CallG.go c3 ?_
  simp
end Go.Proofs.Ytlbfpnckoblppaa
