/- sha.words' contract. -/
import Derived.Test.YtlbfpnckoblppaaShaA
set_option linter.unusedVariables false
set_option linter.unusedSimpArgs false
namespace Go.Proofs.Ytlbfpnckoblppaa
open Go.Abs Go.RowKit Go.Ours

theorem wl1 (b : List Nat) (hl : b.length = 64) (hb : ∀ x ∈ b, x < 256) : ∀ (n k : Nat), k + n = 16 → ∀ (Q : Exit → S → Prop),
   Q (.exit 0) (mk [(0, .pv (.sl 1 (krows .u8 b))), (2, .ptr 2 0), (3, .ptr 3 0), (8, .pv (.int .i64 16)), (9, .pv (.bool false))] [(2, .pagg (List.replicate 64 (.int .u32 0))), (3, .pagg (kis .u32 (W b 16)))]) →
   LoopW Try.prog [0, 2, 3, 8] [2, 3] irShaWords_L1 (mk [(0, .pv (.sl 1 (krows .u8 b))), (2, .ptr 2 0), (3, .ptr 3 0), (8, .pv (.int .i64 k))] [(2, .pagg (List.replicate 64 (.int .u32 0))), (3, .pagg (kis .u32 (W b k)))]) Q := by
  intro n
  induction n with
  | zero =>
    intro k hk Q hQ
    obtain rfl : k = 16 := by omega
    refine LoopW.go irShaWords_L1.eq_1 (by simp) ?_
    simpa [-List.reduceReplicate] using hQ
  | succ n ih =>
    intro k hk Q hQ
    have hn := ih (k + 1) (by omega) Q hQ
    obtain ⟨j, hj⟩ : ∃ j, j = 4 * k := ⟨_, rfl⟩
    obtain ⟨x0, hx0⟩ : ∃ x, b[j]? = some x := ⟨_, List.getElem?_eq_getElem (by omega)⟩
    obtain ⟨x1, hx1⟩ : ∃ x, b[j + 1]? = some x := ⟨_, List.getElem?_eq_getElem (by omega)⟩
    obtain ⟨x2, hx2⟩ : ∃ x, b[j + 2]? = some x := ⟨_, List.getElem?_eq_getElem (by omega)⟩
    obtain ⟨x3, hx3⟩ : ∃ x, b[j + 3]? = some x := ⟨_, List.getElem?_eq_getElem (by omega)⟩
    have b0 := hb x0 (List.mem_of_getElem? hx0)
    have b1 := hb x1 (List.mem_of_getElem? hx1)
    have b2 := hb x2 (List.mem_of_getElem? hx2)
    have b3 := hb x3 (List.mem_of_getElem? hx3)
    have hw : W b (k + 1) = (W b k).set k (be x0 x1 x2 x3 : Nat) := by
      simp only [W, if_pos (show k < 16 by omega), ← hj, List.getD_eq_getElem?_getD, hx0, hx1, hx2, hx3, Option.getD_some]
    rw [hw] at hn
    have hor := or_be x0 x1 x2 x3 b0 b1 b2 b3
    have wl := W_len b k
    generalize W b k = L at *
    generalize be x0 x1 x2 x3 = y at *
    have i1 : (k : Int) < 16 := by omega
    have i2 : (k : Int) < 64 := by omega
    have i3 : k < 64 := by omega
    have u0 : IntKind.u32.wrap (x0 : Int) = x0 := by rw [wrap_u32] <;> omega
    have u1 : IntKind.u32.wrap (x1 : Int) = x1 := by rw [wrap_u32] <;> omega
    have u2 : IntKind.u32.wrap (x2 : Int) = x2 := by rw [wrap_u32] <;> omega
    have u3 : IntKind.u32.wrap (x3 : Int) = x3 := by rw [wrap_u32] <;> omega
    have v0 : IntKind.i64.wrap (4 * (k : Int)) = j := by rw [wrap_i64] <;> omega
    have v1 : IntKind.i64.wrap ((j : Int) + 1) = (j + 1 : Nat) := by rw [wrap_i64] <;> omega
    have v2 : IntKind.i64.wrap ((j : Int) + 2) = (j + 2 : Nat) := by rw [wrap_i64] <;> omega
    have v3 : IntKind.i64.wrap ((j : Int) + 3) = (j + 3 : Nat) := by rw [wrap_i64] <;> omega
    have v5 : IntKind.i64.wrap ((k : Int) + 1) = (k + 1 : Nat) := by rw [wrap_i64] <;> omega
    refine LoopW.go irShaWords_L1.eq_1 (by simp) ?_
    simp [-getElem?_pos, -List.reduceReplicate, i1, i2, i3, krows_get, hx0, hx1, hx2, hx3, u0, u1, u2, u3, v0, v1, v2, v3, v5, hor, kis_set, kis_length, wl]
    exact hn
theorem wl2 (b : List Nat) : ∀ (n k : Nat), k + n = 64 → 16 ≤ k → ∀ (Q : Exit → S → Prop),
   (∀ s, (∃ ts, s = mk ((2, .ptr 2 0) :: (3, .ptr 3 0) :: ts) [(2, .pagg (List.replicate 64 (.int .u32 0))), (3, .pagg (kis .u32 (W b 64)))]) → Q (.exit 2) s) →
   LoopW Try.prog [2, 3, 5] [2, 3] irShaWords_L2 (mk [(2, .ptr 2 0), (3, .ptr 3 0), (5, .pv (.int .i64 k))] [(2, .pagg (List.replicate 64 (.int .u32 0))), (3, .pagg (kis .u32 (W b k)))]) Q := by
  intro n
  induction n with
  | zero =>
    intro k hk h16 Q hQ
    obtain rfl : k = 64 := by omega
    refine LoopW.go irShaWords_L2.eq_1 (by simp) ?_
    simp [-List.reduceReplicate]
    exact hQ _ ⟨_, rfl⟩
  | succ n ih =>
    intro k hk h16 Q hQ
    have hn := ih (k + 1) (by omega) (by omega) Q hQ
    obtain ⟨j2, e2⟩ : ∃ j, j = k - 2 := ⟨_, rfl⟩
    obtain ⟨j7, e7⟩ : ∃ j, j = k - 7 := ⟨_, rfl⟩
    obtain ⟨j15, e15⟩ : ∃ j, j = k - 15 := ⟨_, rfl⟩
    obtain ⟨j16, e16⟩ : ∃ j, j = k - 16 := ⟨_, rfl⟩
    have wl := W_len b k
    have hw : W b (k + 1) = (W b k).set k (nxt (W b k) k) := by simp only [W, if_neg (show ¬ k < 16 by omega)]
    rw [hw] at hn
    generalize W b k = L at *
    obtain ⟨x2, hx2⟩ : ∃ x, L[j2]? = some x := ⟨_, List.getElem?_eq_getElem (by omega)⟩
    obtain ⟨x7, hx7⟩ : ∃ x, L[j7]? = some x := ⟨_, List.getElem?_eq_getElem (by omega)⟩
    obtain ⟨x15, hx15⟩ : ∃ x, L[j15]? = some x := ⟨_, List.getElem?_eq_getElem (by omega)⟩
    obtain ⟨x16, hx16⟩ : ∃ x, L[j16]? = some x := ⟨_, List.getElem?_eq_getElem (by omega)⟩
    simp only [nxt, ← e2, ← e7, ← e15, ← e16, List.getD_eq_getElem?_getD, hx2, hx7, hx15, hx16, Option.getD_some, sg0, sg1] at hn
    have i2 : (k : Int) < 64 := by omega
    have i3 : k < 64 := by omega
    have t2 : j2 < 64 := by omega
    have t7 : j7 < 64 := by omega
    have t15 : j15 < 64 := by omega
    have t16 : j16 < 64 := by omega
    have q2 : (j2 : Int) < 64 := by omega
    have q7 : (j7 : Int) < 64 := by omega
    have q15 : (j15 : Int) < 64 := by omega
    have q16 : (j16 : Int) < 64 := by omega
    have v2 : IntKind.i64.wrap ((k : Int) - 2) = j2 := by rw [wrap_i64] <;> omega
    have v7 : IntKind.i64.wrap ((k : Int) - 7) = j7 := by rw [wrap_i64] <;> omega
    have v15 : IntKind.i64.wrap ((k : Int) - 15) = j15 := by rw [wrap_i64] <;> omega
    have v16 : IntKind.i64.wrap ((k : Int) - 16) = j16 := by rw [wrap_i64] <;> omega
    have v5 : IntKind.i64.wrap ((k : Int) + 1) = (k + 1 : Nat) := by rw [wrap_i64] <;> omega
    refine LoopW.go irShaWords_L2.eq_1 (by simp) ?_
    simp [-getElem?_pos, -List.reduceReplicate, i2, i3, t2, t7, t15, t16, q2, q7, q15, q16, kis_get, hx2, hx7, hx15, hx16, v2, v7, v15, v16, v5, kis_length, wl]
    refine CallG.go (turn_c x15 7 (by decide) (by decide)) ?_
    simp [-getElem?_pos, -List.reduceReplicate]
    refine CallG.go (turn_c x15 18 (by decide) (by decide)) ?_
    simp [-getElem?_pos, -List.reduceReplicate]
    refine CallG.go (turn_c x2 17 (by decide) (by decide)) ?_
    simp [-getElem?_pos, -List.reduceReplicate]
    refine CallG.go (turn_c x2 19 (by decide) (by decide)) ?_
    simp [-getElem?_pos, -List.reduceReplicate, i2, i3, v5, kis_set, kis_length, wl]
    exact hn
theorem words_c (b : List Nat) (hl : b.length = 64) (hb : ∀ x ∈ b, x < 256) : ACall Try.prog 70 [.pv (.sl 1 (krows .u8 b))] [] (.pagg (kis .u32 (W b 64))) [] [] := by
  refine ACall.fn (fn := Try.f70) rfl okShaWords rfl (by simp) ?_
  simp only [argT, irShaWords.eq_1]
  simp [-List.reduceReplicate]
  have h0 : List.replicate 64 (PV.int .u32 0) = kis .u32 (W b 0) := by rw [kis_rep]; rfl
  have hq := wl1 b hl hb 16 0 rfl
  rw [← h0] at hq
  refine hq _ ?_
  simp [-List.reduceReplicate]
  refine wl2 b 48 16 rfl (by omega) _ ?_
  rintro s ⟨ts, rfl⟩
  have wl := W_len b 64
  simp [-List.reduceReplicate, kis_length, wl, lk_ins]
end Go.Proofs.Ytlbfpnckoblppaa
