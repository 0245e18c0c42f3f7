/- consistoryref02.block's contract. -/
import Derived.Test.YtlbfpnckoblppaaShaD
set_option linter.unusedVariables false
set_option linter.unusedSimpArgs false
namespace Go.Proofs.Ytlbfpnckoblppaa
open Go.Abs Go.RowKit Go.Ours

theorem wide4_c : ACall Try.prog 64 [.pv (.int .i64 4)] [] (.pv (.bool true)) [] [] := by
  refine ACall.fn (fn := Try.f64) rfl okRef01Wide rfl (by simp) ?_
  simp only [argT, irRef01Wide.eq_1]
  simp
theorem wide8_c : ACall Try.prog 64 [.pv (.int .i64 8)] [] (.pv (.bool true)) [] [] := by
  refine ACall.fn (fn := Try.f64) rfl okRef01Wide rfl (by simp) ?_
  simp only [argT, irRef01Wide.eq_1]
  simp
theorem rf4_c (b : List Nat) (j x0 x1 x2 x3 : Nat) (h0 : b[j]? = some x0) (h1 : b[j + 1]? = some x1) (h2 : b[j + 2]? = some x2) (h3 : b[j + 3]? = some x3) (hl : b.length < 1000000)
    (hb : ∀ x ∈ b, x < 256) : ACall Try.prog 65 [.pv (.sl 1 (krows .u8 b)), .pv (.int .i64 j), .pv (.int .i64 4)] [] (.pagg [.int .u64 (be x0 x1 x2 x3 : Nat), .sl 1 [], .int .i64 4, .int .i64 0]) [] [] := by
  refine ACall.fn (fn := Try.f65) rfl okRef01ReadFixed rfl (by simp) ?_
  simp only [argT, irRef01ReadFixed.eq_1]
  have b0 := hb x0 (List.mem_of_getElem? h0)
  have b1 := hb x1 (List.mem_of_getElem? h1)
  have b2 := hb x2 (List.mem_of_getElem? h2)
  have b3 := hb x3 (List.mem_of_getElem? h3)
  have hj : j + 3 < b.length := (List.getElem?_eq_some_iff.1 h3).1
  have v0 : IntKind.i64.wrap ((b.length : Int) - j) = (b.length : Int) - j := by rw [wrap_i64] <;> omega
  have v1 : ¬ ((b.length : Int) - j < 4) := by omega
  have w0 : IntKind.i64.wrap (j : Int) = j := by rw [wrap_i64] <;> omega
  have w1 : IntKind.i64.wrap ((j : Int) + 1) = (j : Int) + 1 := by rw [wrap_i64] <;> omega
  have w2 : IntKind.i64.wrap ((j : Int) + 2) = (j : Int) + 2 := by rw [wrap_i64] <;> omega
  have w3 : IntKind.i64.wrap ((j : Int) + 3) = (j : Int) + 3 := by rw [wrap_i64] <;> omega
  have u0 : IntKind.u64.wrap (x0 : Int) = x0 := by rw [wrap_u64] <;> omega
  have u1 : IntKind.u64.wrap (x1 : Int) = x1 := by rw [wrap_u64] <;> omega
  have u2 : IntKind.u64.wrap (x2 : Int) = x2 := by rw [wrap_u64] <;> omega
  have u3 : IntKind.u64.wrap (x3 : Int) = x3 := by rw [wrap_u64] <;> omega
  have y1 : IntKind.u64.wrap (IntKind.u64.wrap (256 * (x0 : Int)) + x1) = 256 * (x0 : Int) + x1 := by rw [wrap_u64 (256 * (x0 : Int)) (by omega) (by omega), wrap_u64] <;> omega
  have y2 : IntKind.u64.wrap (IntKind.u64.wrap (256 * (256 * (x0 : Int) + x1)) + x2) = 256 * (256 * (x0 : Int) + x1) + x2 := by rw [wrap_u64 (256 * _) (by omega) (by omega), wrap_u64] <;> omega
  have y3 : IntKind.u64.wrap (IntKind.u64.wrap (256 * (256 * (256 * (x0 : Int) + x1) + x2)) + x3) = (be x0 x1 x2 x3 : Nat) := by rw [wrap_u64 (256 * _) (by omega) (by omega), wrap_u64 _ (by omega) (by omega)]; unfold be; omega
  generalize be x0 x1 x2 x3 = y at *
  simp
  refine CallG.go wide4_c ?_
  simp [krows_length, v0, v1]
  refine LoopW.go irRef01ReadFixed_L1.eq_1 (by simp) ?_
  simp [-getElem?_pos, krows_get, h0, w0, u0]
  refine LoopW.go irRef01ReadFixed_L1.eq_1 (by simp) ?_
  simp [-getElem?_pos, krows_get, h1, w1, u1, y1]
  refine LoopW.go irRef01ReadFixed_L1.eq_1 (by simp) ?_
  simp [-getElem?_pos, krows_get, h2, w2, u2, y2]
  refine LoopW.go irRef01ReadFixed_L1.eq_1 (by simp) ?_
  simp [-getElem?_pos, krows_get, h3, w3, u3, y3]
  refine LoopW.go irRef01ReadFixed_L1.eq_1 (by simp) ?_
  simp [-getElem?_pos]
theorem perm4 (a b c d : Int) : IntKind.u32.wrap (IntKind.u32.wrap (IntKind.u32.wrap (a + b) + c) + d) = IntKind.u32.wrap (IntKind.u32.wrap (IntKind.u32.wrap (d + b) + c) + a) := by
  have hw : ∀ x : Int, IntKind.u32.wrap x = x % 4294967296 := fun x => by simp [IntKind.wrap, IntKind.bits, IntKind.signed]
  simp only [hw]
  omega
theorem rl1 (s0 : List Int) (b : List Nat) (hl : b.length = 64) (hb : ∀ x ∈ b, x < 256) : ∀ (n k : Nat), k + n = 64 → ∀ (Q : Exit → S → Prop),
   Q (.exit 0) (mk [(0, .pv (.sl 1 (kirows .u32 s0))), (1, .pv (.sl 1 (krows .u8 b))), (5, .sr 23 0 64 1), (6, .pv (.int .i64 64)), (24, .pv (.int .i64 64)), (25, .pv (.bool false))] [(23, .pagg (kis .u32 (W b 64)))]) →
   LoopW Try.prog [0, 1, 5, 6] [23] irRef02Block_L1 (mk [(0, .pv (.sl 1 (kirows .u32 s0))), (1, .pv (.sl 1 (krows .u8 b))), (5, .sr 23 0 64 1), (6, .pv (.int .i64 k))] [(23, .pagg (kis .u32 (W b k)))]) Q := by
  intro n
  induction n with
  | zero =>
    intro k hk Q hQ
    obtain rfl : k = 64 := by omega
    refine LoopW.go irRef02Block_L1.eq_1 (by simp) ?_
    simp
    exact hQ
  | succ n ih =>
    intro k hk Q hQ
    have hn := ih (k + 1) (by omega) Q hQ
    have wl := W_len b k
    have i2 : (k : Int) < 64 := by omega
    have i3 : k < 64 := by omega
    have v5 : IntKind.i64.wrap ((k : Int) + 1) = (k + 1 : Nat) := by rw [wrap_i64] <;> omega
    by_cases h16 : k < 16
    · obtain ⟨j, hj⟩ : ∃ j, j = 4 * k := ⟨_, rfl⟩
      obtain ⟨x0, hx0⟩ : ∃ x, b[j]? = some x := ⟨_, List.getElem?_eq_getElem (by omega)⟩
      obtain ⟨x1, hx1⟩ : ∃ x, b[j + 1]? = some x := ⟨_, List.getElem?_eq_getElem (by omega)⟩
      obtain ⟨x2, hx2⟩ : ∃ x, b[j + 2]? = some x := ⟨_, List.getElem?_eq_getElem (by omega)⟩
      obtain ⟨x3, hx3⟩ : ∃ x, b[j + 3]? = some x := ⟨_, List.getElem?_eq_getElem (by omega)⟩
      have b0 := hb x0 (List.mem_of_getElem? hx0)
      have b1 := hb x1 (List.mem_of_getElem? hx1)
      have b2 := hb x2 (List.mem_of_getElem? hx2)
      have b3 := hb x3 (List.mem_of_getElem? hx3)
      have hw : W b (k + 1) = (W b k).set k (be x0 x1 x2 x3 : Nat) := by
        simp only [W, if_pos h16, ← hj, List.getD_eq_getElem?_getD, hx0, hx1, hx2, hx3, Option.getD_some]
      rw [hw] at hn
      have hc := rf4_c b j x0 x1 x2 x3 hx0 hx1 hx2 hx3 (by omega) hb
      have wy : IntKind.u32.wrap (be x0 x1 x2 x3 : Nat) = (be x0 x1 x2 x3 : Nat) := by rw [wrap_u32] <;> unfold be <;> omega
      generalize W b k = L at *
      generalize be x0 x1 x2 x3 = y at *
      have i1 : (k : Int) < 16 := by omega
      have v0 : IntKind.i64.wrap (4 * (k : Int)) = j := by rw [wrap_i64] <;> omega
      refine LoopW.go irRef02Block_L1.eq_1 (by simp) ?_
      simp [-getElem?_pos, i1, i2, v0]
      refine CallG.go hc ?_
      simp [-getElem?_pos, i2, i3, v5, wy, kis_set, kis_length, wl]
      exact hn
    · obtain ⟨j2, e2⟩ : ∃ j, j = k - 2 := ⟨_, rfl⟩
      obtain ⟨j7, e7⟩ : ∃ j, j = k - 7 := ⟨_, rfl⟩
      obtain ⟨j15, e15⟩ : ∃ j, j = k - 15 := ⟨_, rfl⟩
      obtain ⟨j16, e16⟩ : ∃ j, j = k - 16 := ⟨_, rfl⟩
      have hw : W b (k + 1) = (W b k).set k (nxt (W b k) k) := by simp only [W, if_neg h16]
      rw [hw] at hn
      generalize W b k = L at *
      obtain ⟨x2, hx2⟩ : ∃ x, L[j2]? = some x := ⟨_, List.getElem?_eq_getElem (by omega)⟩
      obtain ⟨x7, hx7⟩ : ∃ x, L[j7]? = some x := ⟨_, List.getElem?_eq_getElem (by omega)⟩
      obtain ⟨x15, hx15⟩ : ∃ x, L[j15]? = some x := ⟨_, List.getElem?_eq_getElem (by omega)⟩
      obtain ⟨x16, hx16⟩ : ∃ x, L[j16]? = some x := ⟨_, List.getElem?_eq_getElem (by omega)⟩
      simp only [nxt, ← e2, ← e7, ← e15, ← e16, List.getD_eq_getElem?_getD, hx2, hx7, hx15, hx16, Option.getD_some] at hn
      rw [perm4, sg0, sg1] at hn
      have i1 : ¬ ((k : Int) < 16) := by omega
      have t2 : j2 < 64 := by omega
      have t7 : j7 < 64 := by omega
      have t15 : j15 < 64 := by omega
      have t16 : j16 < 64 := by omega
      have q2 : (j2 : Int) < 64 := by omega
      have q7 : (j7 : Int) < 64 := by omega
      have q15 : (j15 : Int) < 64 := by omega
      have q16 : (j16 : Int) < 64 := by omega
      have v2 : IntKind.i64.wrap ((k : Int) - 2) = j2 := by rw [wrap_i64] <;> omega
      have v7 : IntKind.i64.wrap ((k : Int) - 7) = j7 := by rw [wrap_i64] <;> omega
      have v15 : IntKind.i64.wrap ((k : Int) - 15) = j15 := by rw [wrap_i64] <;> omega
      have v16 : IntKind.i64.wrap ((k : Int) - 16) = j16 := by rw [wrap_i64] <;> omega
      refine LoopW.go irRef02Block_L1.eq_1 (by simp) ?_
      simp [-getElem?_pos, i1, i2, i3, t2, t7, t15, t16, q2, q7, q15, q16, kis_get, hx2, hx7, hx15, hx16, v2, v7, v15, v16, v5, kis_length, wl]
      refine CallG.go (rturn_c x15 7 (by decide) (by decide)) ?_
      simp [-getElem?_pos]
      refine CallG.go (rturn_c x15 18 (by decide) (by decide)) ?_
      simp [-getElem?_pos]
      refine CallG.go (rturn_c x2 17 (by decide) (by decide)) ?_
      simp [-getElem?_pos]
      refine CallG.go (rturn_c x2 19 (by decide) (by decide)) ?_
      simp [-getElem?_pos, i2, i3, t2, t7, t15, t16, q2, q7, q15, q16, kis_get, hx2, hx7, hx15, hx16, v2, v7, v15, v16, v5, kis_set, kis_length, wl]
      exact hn
theorem rl2 (s0 : AV) (Wd : List Int) (hW : Wd.length = 64) : ∀ (n k : Nat), k + n = 64 → ∀ (a b c d e f g h : Int) (Q : Exit → S → Prop),
   (∀ a' b' c' d' e' f' g' h', Rn KW Wd n k [a, b, c, d, e, f, g, h] = [a', b', c', d', e', f', g', h'] → Q (.exit 2) (mk [(0, s0), (5, .sr 23 0 64 1), (11, .pv (.int .u32 a')), (12, .pv (.int .u32 b')), (13, .pv (.int .u32 c')), (14, .pv (.int .u32 d')), (15, .pv (.int .u32 e')), (16, .pv (.int .u32 f')), (17, .pv (.int .u32 g')), (18, .pv (.int .u32 h')), (19, .pv (.int .i64 64)), (107, .pv (.int .i64 64)), (108, .pv (.bool false))] [(23, .pagg (kis .u32 Wd))])) →
   LoopW Try.prog [0, 5, 11, 12, 13, 14, 15, 16, 17, 18, 19] [23] irRef02Block_L2 (mk [(0, s0), (5, .sr 23 0 64 1), (11, .pv (.int .u32 a)), (12, .pv (.int .u32 b)), (13, .pv (.int .u32 c)), (14, .pv (.int .u32 d)), (15, .pv (.int .u32 e)), (16, .pv (.int .u32 f)), (17, .pv (.int .u32 g)), (18, .pv (.int .u32 h)), (19, .pv (.int .i64 k))] [(23, .pagg (kis .u32 Wd))]) Q := by
  intro n
  induction n with
  | zero =>
    intro k hk a b c d e f g h Q hQ
    obtain rfl : k = 64 := by omega
    refine LoopW.go irRef02Block_L2.eq_1 (by simp) ?_
    simp
    exact hQ _ _ _ _ _ _ _ _ rfl
  | succ n ih =>
    intro k hk a b c d e f g h Q hQ
    obtain ⟨x, hx⟩ : ∃ x, KW[k]? = some x := ⟨_, List.getElem?_eq_getElem (by rw [KW_len]; omega)⟩
    obtain ⟨y, hy⟩ : ∃ x, Wd[k]? = some x := ⟨_, List.getElem?_eq_getElem (by omega)⟩
    simp only [Rn, List.getD_eq_getElem?_getD, hx, hy, Option.getD_some, rnd] at hQ
    have hn := ih (k + 1) (by omega) _ _ _ _ _ _ _ _ Q hQ
    have i1 : (k : Int) < 64 := by omega
    have i3 : k < 64 := by omega
    have v5 : IntKind.i64.wrap ((k : Int) + 1) = (k + 1 : Nat) := by rw [wrap_i64] <;> omega
    refine LoopW.go irRef02Block_L2.eq_1 (by simp) ?_
    simp [-getElem?_pos, i1, i3]
    refine CallG.go (rturn_c e 6 (by decide) (by decide)) ?_
    simp [-getElem?_pos]
    refine CallG.go (rturn_c e 11 (by decide) (by decide)) ?_
    simp [-getElem?_pos]
    refine CallG.go (rturn_c e 25 (by decide) (by decide)) ?_
    simp [-getElem?_pos]
    refine CallG.go (word_c k x hx) ?_
    simp [-getElem?_pos, i1, i3, kis_get, hy]
    refine CallG.go (rturn_c a 2 (by decide) (by decide)) ?_
    simp [-getElem?_pos]
    refine CallG.go (rturn_c a 13 (by decide) (by decide)) ?_
    simp [-getElem?_pos]
    refine CallG.go (rturn_c a 22 (by decide) (by decide)) ?_
    simp [-getElem?_pos, v5]
    have hm : (if IntKind.u32.signed = true then -1 else IntKind.u32.max) = 4294967295 := by decide
    rw [hm]
    exact hn
theorem rblock_c (s0 : List Int) (b : List Nat) (hs : s0.length = 8) (hl : b.length = 64) (hb : ∀ x ∈ b, x < 256) :
    ACall Try.prog 51 [.pv (.sl 1 (kirows .u32 s0)), .pv (.sl 1 (krows .u8 b))] [] (.os 86 1 (kirows .u32 (blk KW s0 b))) [] [] := by
  refine ACall.fn (fn := Try.f51) rfl okRef02Block rfl (by simp) ?_
  simp only [argT, irRef02Block.eq_1]
  have wl := W_len b 64
  obtain ⟨a, bb, c, d, e, f, g, h, rfl⟩ := len8 hs
  have h0 : List.replicate 64 (PV.int .u32 0) = kis .u32 (W b 0) := by rw [kis_rep]; rfl
  have hq := rl1 [a, bb, c, d, e, f, g, h] b hl hb 64 0 rfl
  have hflat : (List.replicate 64 [PV.int .u32 0]).flatten = kis .u32 (W b 0) := rfl
  simp [-List.reduceReplicate, hflat]
  refine hq _ ?_
  have k0 : kirows .u32 [a, bb, c, d, e, f, g, h] = [[.int .u32 a], [.int .u32 bb], [.int .u32 c], [.int .u32 d], [.int .u32 e], [.int .u32 f], [.int .u32 g], [.int .u32 h]] := rfl
  rw [k0]
  simp [-getElem?_pos, List.getElem?_cons_succ, -List.reduceReplicate]
  refine rl2 _ (W b 64) wl 64 0 rfl a bb c d e f g h _ ?_
  intro a' b' c' d' e' f' g' h' hR
  unfold blk
  rw [hR]
  simp [-getElem?_pos, List.getElem?_cons_succ, -List.reduceReplicate]
  rfl
end Go.Proofs.Ytlbfpnckoblppaa
