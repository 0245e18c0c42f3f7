/- consistoryref01.Fixed's contract. -/
import Derived.Test.YtlbfpnckoblppaaShaJ
set_option linter.unusedVariables false
set_option linter.unusedSimpArgs false
namespace Go.Proofs.Ytlbfpnckoblppaa
open Go.Abs Go.RowKit Go.Ours

theorem rfi (xv : AV) (n i : Nat) (hn : n ≤ 8) (L : AV) : ∀ (r k y : Nat), k + r + 1 = n → y < 18446744073709551616 → ∀ (Q : Exit → S → Prop),
   (∀ a b c d e, Q (.exit 2) (mk [(0, xv), (1, .pv (.int .i64 n)), (5, L), (6, .pv (.int .i64 i)), (7, .pv (.int .u64 (y / 256 ^ r : Nat))), (8, a), (20, b), (21, c), (22, d), (23, e)] [])) →
   LoopW Try.prog [0, 1, 5, 6, 7, 8] [] irRef01Fixed_L2 (mk [(0, xv), (1, .pv (.int .i64 n)), (5, L), (6, .pv (.int .i64 i)), (7, .pv (.int .u64 y)), (8, .pv (.int .i64 k))] []) Q := by
  intro r
  induction r with
  | zero =>
    intro k y hk hy Q hQ
    have w : IntKind.i64.wrap ((n : Int) - 1) = (k : Int) := by rw [wrap_i64] <;> omega
    refine LoopW.go irRef01Fixed_L2.eq_1 (by simp) ?_
    simp [w]
    simpa using hQ _ _ _ _ _
  | succ r ih =>
    intro k y hk hy Q hQ
    obtain ⟨m, hm⟩ : ∃ m, m = n - 1 := ⟨_, rfl⟩
    have w : IntKind.i64.wrap ((n : Int) - 1) = (m : Int) := by rw [wrap_i64] <;> omega
    have h1 : k < m := by omega
    have w2 : (y : Int).tdiv 256 = ((y / 256 : Nat) : Int) := rfl
    have hn := ih (k + 1) (y / 256) (by omega) (by omega) Q (fun a b c d e => by
      rw [Nat.div_div_eq_div_mul, show 256 * 256 ^ r = 256 ^ (r + 1) by rw [Nat.pow_succ]; omega]
      exact hQ a b c d e)
    have hz : y / 256 < 18446744073709551616 := by omega
    generalize y / 256 = z at *
    have w3 : IntKind.u64.wrap (z : Int) = z := by rw [wrap_u64] <;> omega
    have w4 : IntKind.i64.wrap ((k : Int) + 1) = (k + 1 : Nat) := by rw [wrap_i64] <;> omega
    refine LoopW.go irRef01Fixed_L2.eq_1 (by simp) ?_
    simp [w, h1, w2, w3, w4]
    exact hn
theorem fx_step (n x i : Nat) (h : i < n) : (fx n x).take (i + 1) = (fx n x).take i ++ [x / 256 ^ (n - 1 - i) % 256] := by
  rw [List.take_add_one]
  congr 1
  simp [fx, h]
theorem rfo (x n : Nat) (hx : x < 18446744073709551616) (hn : n ≤ 8) : ∀ (r i : Nat), i + r = n → ∀ (Q : Exit → S → Prop),
   (∀ a b c d, Q (.exit 0) (mk [(0, a), (1, b), (5, .os 5 1 (krows .u8 (fx n x))), (6, .pv (.int .i64 n)), (13, .pv (.int .i64 n)), (14, c), (15, d)] [])) →
   LoopW Try.prog [0, 1, 5, 6] [] irRef01Fixed_L1 (mk [(0, .pv (.int .u64 x)), (1, .pv (.int .i64 n)), (5, .os 5 1 (krows .u8 ((fx n x).take i))), (6, .pv (.int .i64 i))] []) Q := by
  intro r
  induction r with
  | zero =>
    intro i hi Q hQ
    obtain rfl : i = n := by omega
    rw [List.take_of_length_le (by rw [fx_len]; omega)]
    refine LoopW.go irRef01Fixed_L1.eq_1 (by simp) ?_
    simp
    exact hQ _ _ _ _
  | succ r ih =>
    intro i hi Q hQ
    have h1 : i < n := by omega
    have hn2 := ih (i + 1) (by omega) Q hQ
    rw [fx_step n x i h1] at hn2
    have hlen : ((fx n x).take i).length ≤ 100 := by rw [List.length_take, fx_len]; omega
    have w4 : IntKind.i64.wrap ((i : Int) + 1) = (i + 1 : Nat) := by rw [wrap_i64] <;> omega
    generalize (fx n x).take i = L at *
    refine LoopW.go irRef01Fixed_L1.eq_1 (by simp) ?_
    simp [h1]
    refine rfi _ n i hn _ (n - 1 - i) i x (by omega) hx _ fun a b c d e => ?_
    generalize x / 256 ^ (n - 1 - i) = y at *
    have w2 : (y : Int).tmod 256 = ((y % 256 : Nat) : Int) := rfl
    have hz : y % 256 < 256 := by omega
    generalize y % 256 = z at *
    have w3 : IntKind.u8.wrap (z : Int) = z := by rw [wrap_u8] <;> omega
    simp [w2, w3, w4, krows_length, krows_one]
    exact ⟨by omega, hn2⟩
theorem fixed_c (x n : Nat) (hx : x < 18446744073709551616) (hn : n = 4 ∨ n = 8) : ACall Try.prog 50 [.pv (.int .u64 x), .pv (.int .i64 n)] [] (.os 5 1 (krows .u8 (fx n x))) [] [] := by
  refine ACall.fn (fn := Try.f50) rfl okRef01Fixed rfl (by simp) ?_
  simp only [argT, irRef01Fixed.eq_1]
  have hw : ACall Try.prog 64 [.pv (.int .i64 n)] [] (.pv (.bool true)) [] [] := by
    rcases hn with rfl | rfl
    · exact wide4_c
    · exact wide8_c
  simp
  refine CallG.go hw ?_
  simp
  refine rfo x n hx (by omega) n 0 (by omega) _ fun a b c d => ?_
  simp
end Go.Proofs.Ytlbfpnckoblppaa
