/- sha.Sum's contract. -/
import Derived.Test.YtlbfpnckoblppaaPlainSum
set_option linter.unusedVariables false
set_option linter.unusedSimpArgs false
namespace Go.Proofs.Ytlbfpnckoblppaa
open Go.Abs Go.RowKit Go.Ours

theorem krows_take (k : IntKind) (l : List Nat) (n : Nat) : (krows k l).take n = krows k (l.take n) := by simp [krows]
theorem krows_drop (k : IntKind) (l : List Nat) (n : Nat) : (krows k l).drop n = krows k (l.drop n) := by simp [krows]
theorem krows_nil0 (k : IntKind) : krows k [] = [] := rfl
theorem sl1 (z : AV) (m : Int) : ∀ (n : Nat) (t : List Nat) (s : List Int), s.length = 8 → t.length / 64 = n → t.length < 1000000000 → (∀ x ∈ t, x < 256) → ∀ (Q : Exit → S → Prop),
   (∀ a b, Q (.exit 0) (mk [(0, .pv (.sl 1 (krows .u8 (t.drop (64 * n))))), (2, .ptr 2 0), (3, .ptr 3 0), (4, .ptr 7 0), (5, .pv (.int .i64 m)), (10, a), (11, b), (12, .pv (.bool false))] [(2, z), (3, .pagg (kis .u32 (run n s t))), (7, .pagg (kis .u32 KW))])) →
   LoopW Try.prog [0, 2, 3, 4, 5] [2, 3, 7] irShaSum_L1 (mk [(0, .pv (.sl 1 (krows .u8 t))), (2, .ptr 2 0), (3, .ptr 3 0), (4, .ptr 7 0), (5, .pv (.int .i64 m))] [(2, z), (3, .pagg (kis .u32 s)), (7, .pagg (kis .u32 KW))]) Q := by
  intro n
  induction n with
  | zero =>
    intro t s hs ht hl hb Q hQ
    have h1 : ¬ (64 ≤ (t.length : Int)) := by omega
    refine LoopW.go irShaSum_L1.eq_1 (by simp) ?_
    simp [krows_length, h1]
    exact hQ _ _
  | succ n ih =>
    intro t s hs ht hl hb Q hQ
    have h1 : 64 ≤ (t.length : Int) := by omega
    have h2 : 64 ≤ t.length := by omega
    have hc := block_c KW s (t.take 64) hs KW_len (by rw [List.length_take]; omega) (fun x hx => hb x (List.mem_of_mem_take hx))
    have hn := ih (t.drop 64) (blk KW s (t.take 64)) (blk_len _ _ hs) (by rw [List.length_drop]; omega) (by rw [List.length_drop]; omega) (fun x hx => hb x (List.mem_of_mem_drop hx)) Q (fun a b => by
      rw [List.drop_drop, show 64 + 64 * n = 64 * (n + 1) by omega]
      exact hQ a b)
    refine LoopW.go irShaSum_L1.eq_1 (by simp) ?_
    simp [krows_length, h1, h2, kis_length, hs, krows_take]
    refine CallG.go hc ?_
    have bl := blk_len s (t.take 64) hs
    have g2 : (64 : Int) ≤ t.length := h1
    simp [krows_length, h1, h2, kis_length, hs, bl, krows_drop, krows_take]
    exact hn
theorem sl2 (z : AV) : ∀ (n : Nat) (t : List Nat) (s : List Int) (x : AV), (x = .pv (.sl 1 (krows .u8 t)) ∨ x = .os 5 1 (krows .u8 t)) → s.length = 8 → t.length = 64 * n → t.length < 1000000000000 → (∀ x ∈ t, x < 256) → ∀ (Q : Exit → S → Prop),
   (∀ a b c, Q (.exit 2) (mk [(0, c), (2, .ptr 2 0), (3, .ptr 3 0), (4, .ptr 7 0), (23, a), (24, b), (25, .pv (.bool false))] [(2, z), (3, .pagg (kis .u32 (run n s t))), (7, .pagg (kis .u32 KW))])) →
   LoopW Try.prog [0, 2, 3, 4] [2, 3, 7] irShaSum_L2 (mk [(0, x), (2, .ptr 2 0), (3, .ptr 3 0), (4, .ptr 7 0)] [(2, z), (3, .pagg (kis .u32 s)), (7, .pagg (kis .u32 KW))]) Q := by
  intro n
  induction n with
  | zero =>
    intro t s x hx hs ht hl hb Q hQ
    obtain rfl : t = [] := List.eq_nil_of_length_eq_zero (by omega)
    refine LoopW.go irShaSum_L2.eq_1 (by simp) ?_
    rcases hx with rfl | rfl
    · simp [krows_nil0]
      exact hQ _ _ _
    · simp [krows_nil0]
      exact hQ _ _ _
  | succ n ih =>
    intro t s x hx hs ht hl hb Q hQ
    have h1 : 0 < (t.length : Int) := by omega
    have h4 : 64 ≤ (t.length : Int) := by omega
    have h2 : 64 ≤ t.length := by omega
    have h3 : 0 < t.length := by omega
    have hc := block_c KW s (t.take 64) hs KW_len (by rw [List.length_take]; omega) (fun x hx => hb x (List.mem_of_mem_take hx))
    have hn := ih (t.drop 64) (blk KW s (t.take 64)) _ (Or.inl rfl) (blk_len _ _ hs) (by rw [List.length_drop]; omega) (by rw [List.length_drop]; omega) (fun x hx => hb x (List.mem_of_mem_drop hx)) Q hQ
    have bl := blk_len s (t.take 64) hs
    refine LoopW.go irShaSum_L2.eq_1 (by simp) ?_
    rcases hx with rfl | rfl
    · simp [krows_length, h1, h2, h3, h4, kis_length, hs, krows_take]
      refine CallG.go hc ?_
      simp [krows_length, h1, h2, h3, h4, kis_length, hs, bl, krows_drop, krows_take]
      exact hn
    · simp [krows_length, h1, h2, h3, h4, kis_length, hs, krows_take]
      refine CallG.go hc ?_
      simp [krows_length, h1, h2, h3, h4, kis_length, hs, bl, krows_drop, krows_take]
      exact hn
end Go.Proofs.Ytlbfpnckoblppaa
