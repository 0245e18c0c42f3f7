/- consistoryref02.Sum's loops. -/
import Derived.Test.YtlbfpnckoblppaaShaK
set_option linter.unusedVariables false
set_option linter.unusedSimpArgs false
namespace Go.Proofs.Ytlbfpnckoblppaa
open Go.Abs Go.RowKit Go.Ours

theorem qdl (x z : AV) : ∀ (m : Nat) (L : List Nat), m < 64 → (L.length + m) % 64 = 56 → L.length + m ≤ 5000000000 → ∀ (Q : Exit → S → Prop),
   (∀ a b, Q (.exit 0) (mk [(0, x), (2, .ptr 2 0), (3, .os 5 1 (krows .u8 (L ++ List.replicate m 0))), (14, a), (15, b), (16, .pv (.int .i64 56)), (17, .pv (.bool false))] [(2, z)])) →
   LoopW Try.prog [0, 2, 3] [2] irRef02Sum_L1 (mk [(0, x), (2, .ptr 2 0), (3, .os 5 1 (krows .u8 L))] [(2, z)]) Q := by
  intro m
  induction m with
  | zero =>
    intro L _ h1 h2 Q hQ
    have hr : ((L.length : Int)).tmod 64 = 56 := by
      show ((L.length % 64 : Nat) : Int) = 56
      omega
    simp only [List.replicate_zero, List.append_nil] at hQ
    refine LoopW.go irRef02Sum_L1.eq_1 (by simp) ?_
    simp [krows_length, hr]
    exact hQ _ _
  | succ m ih =>
    intro L h0 h1 h2 Q hQ
    have hr : ¬ ((L.length : Int)).tmod 64 = 56 := by
      show ¬ ((L.length % 64 : Nat) : Int) = 56
      omega
    have hn := ih (L ++ [0]) (by omega) (by simp; omega) (by simp; omega) Q (fun a b => by
      rw [List.append_assoc]
      exact hQ a b)
    have k0 : krows .u8 L ++ [[.int .u8 0]] = krows .u8 (L ++ [0]) := krows_one .u8 L 0
    refine LoopW.go irRef02Sum_L1.eq_1 (by simp) ?_
    simp [krows_length, hr, k0]
    exact ⟨by omega, hn⟩
theorem ql2 (z : AV) (p : List Nat) (hb : ∀ x ∈ p, x < 256) (hl : p.length < 1000000000000) : ∀ (n k : Nat) (s : List Int), s.length = 8 → p.length = 64 * (k + n) → ∀ (Q : Exit → S → Prop),
   (∀ a b c d, Q (.exit 2) (mk [(2, .ptr 2 0), (3, a), (4, .os 86 1 (kirows .u32 (run n s (p.drop (64 * k))))), (5, b), (31, b), (32, c), (33, d), (34, .pv (.bool false))] [(2, z)])) →
   LoopW Try.prog [2, 3, 4, 5] [2] irRef02Sum_L2 (mk [(2, .ptr 2 0), (3, .os 5 1 (krows .u8 p)), (4, .os 86 1 (kirows .u32 s)), (5, .pv (.int .i64 (64 * k : Nat)))] [(2, z)]) Q := by
  intro n
  induction n with
  | zero =>
    intro k s hs hp Q hQ
    obtain ⟨j, hj⟩ : ∃ j, j = 64 * k := ⟨_, rfl⟩
    rw [← hj] at hQ ⊢
    have h1 : ¬ (j < p.length) := by omega
    refine LoopW.go irRef02Sum_L2.eq_1 (by simp) ?_
    simp [krows_length, h1]
    exact hQ _ _ _ _
  | succ n ih =>
    intro k s hs hp Q hQ
    have hc := rblock_c s ((p.drop (64 * k)).take 64) hs (by rw [List.length_take, List.length_drop]; omega) (fun x hx => hb x (List.mem_of_mem_drop (List.mem_of_mem_take hx)))
    have hn := ih (k + 1) (blk KW s ((p.drop (64 * k)).take 64)) (blk_len _ _ hs) (by omega) Q (fun a b c d => by
      have := hQ a b c d
      rwa [run, List.drop_drop, show 64 * k + 64 = 64 * (k + 1) by omega] at this)
    obtain ⟨j, hj⟩ : ∃ j, j = 64 * k := ⟨_, rfl⟩
    rw [show 64 * (k + 1) = j + 64 by omega] at hn
    rw [← hj] at hc hn ⊢
    have h1 : j < p.length := by omega
    have h2 : j + 64 ≤ p.length := by omega
    have w : IntKind.i64.wrap ((j : Int) + 64) = (j : Int) + 64 := by rw [wrap_i64] <;> omega
    refine LoopW.go irRef02Sum_L2.eq_1 (by simp) ?_
    have ht : (List.take (j + 64) p).drop j = (p.drop j).take 64 := by rw [List.drop_take, Nat.add_sub_cancel_left]
    simp [krows_length, h1, h2, w, krows_take, krows_drop, ht]
    refine ⟨by omega, ?_⟩
    refine CallG.go hc ?_
    simp [w]
    exact hn
end Go.Proofs.Ytlbfpnckoblppaa
