/- sha.state.block's contract. -/
import Derived.Test.YtlbfpnckoblppaaShaB
set_option linter.unusedVariables false
set_option linter.unusedSimpArgs false
namespace Go.Proofs.Ytlbfpnckoblppaa
open Go.Abs Go.RowKit Go.Ours

theorem bl1 (K Wd s0 : List Int) (z : List PV) (hK : K.length = 64) (hW : Wd.length = 64) : ∀ (n k : Nat), k + n = 64 → ∀ (a b c d e f g h : Int) (Q : Exit → S → Prop),
   Q (.exit 0) (mk [(2, .ptr 1000 0), (3, .ptr 3 0), (6, .ptr 6 0), (7, .ptr 7 0), (8, .ptr 8 0), (18, .pv (.int .i64 64)), (19, .pv (.bool false))] [(3, .pagg (kis .u32 s0)), (6, .pagg z), (7, .pagg (kis .u32 Wd)), (8, .pagg (kis .u32 (Rn K Wd n k [a, b, c, d, e, f, g, h]))), (1000, .pagg (kis .u32 K))]) →
   LoopW Try.prog [2, 3, 6, 7, 8, 18] [3, 6, 7, 8, 1000] irShaStateBlock_L1 (mk [(2, .ptr 1000 0), (3, .ptr 3 0), (6, .ptr 6 0), (7, .ptr 7 0), (8, .ptr 8 0), (18, .pv (.int .i64 k))] [(3, .pagg (kis .u32 s0)), (6, .pagg z), (7, .pagg (kis .u32 Wd)), (8, .pagg (kis .u32 [a, b, c, d, e, f, g, h])), (1000, .pagg (kis .u32 K))]) Q := by
  intro n
  induction n with
  | zero =>
    intro k hk a b c d e f g h Q hQ
    obtain rfl : k = 64 := by omega
    refine LoopW.go irShaStateBlock_L1.eq_1 (by simp) ?_
    simp
    exact hQ
  | succ n ih =>
    intro k hk a b c d e f g h Q hQ
    obtain ⟨x, hx⟩ : ∃ x, K[k]? = some x := ⟨_, List.getElem?_eq_getElem (by omega)⟩
    obtain ⟨y, hy⟩ : ∃ x, Wd[k]? = some x := ⟨_, List.getElem?_eq_getElem (by omega)⟩
    simp only [Rn, List.getD_eq_getElem?_getD, hx, hy, Option.getD_some, rnd] at hQ
    have hn := ih (k + 1) (by omega) _ _ _ _ _ _ _ _ Q hQ
    have i1 : (k : Int) < 64 := by omega
    have i3 : k < 64 := by omega
    have v5 : IntKind.i64.wrap ((k : Int) + 1) = (k + 1 : Nat) := by rw [wrap_i64] <;> omega
    have k0 : kis .u32 [a, b, c, d, e, f, g, h] = [.int .u32 a, .int .u32 b, .int .u32 c, .int .u32 d, .int .u32 e, .int .u32 f, .int .u32 g, .int .u32 h] := rfl
    rw [k0]
    refine LoopW.go irShaStateBlock_L1.eq_1 (by simp) ?_
    simp [-getElem?_pos, List.getElem?_cons_succ, i1, i3]
    refine CallG.go (turn_c e 6 (by decide) (by decide)) ?_
    simp [-getElem?_pos]
    refine CallG.go (turn_c e 11 (by decide) (by decide)) ?_
    simp [-getElem?_pos]
    refine CallG.go (turn_c e 25 (by decide) (by decide)) ?_
    simp [-getElem?_pos, List.getElem?_cons_succ, i1, i3, kis_get, hx, hy]
    refine CallG.go (turn_c a 2 (by decide) (by decide)) ?_
    simp [-getElem?_pos]
    refine CallG.go (turn_c a 13 (by decide) (by decide)) ?_
    simp [-getElem?_pos]
    refine CallG.go (turn_c a 22 (by decide) (by decide)) ?_
    simp [-getElem?_pos, List.getElem?_cons_succ, v5]
    have hm : (if IntKind.u32.signed = true then -1 else IntKind.u32.max) = 4294967295 := by decide
    rw [hm]
    exact hn
theorem block_c (K s0 : List Int) (b : List Nat) (hs : s0.length = 8) (hK : K.length = 64) (hl : b.length = 64) (hb : ∀ x ∈ b, x < 256) :
    ACall Try.prog 60 [.pagg (kis .u32 s0), .pv (.sl 1 (krows .u8 b)), .ptr 1000 0] [.pagg (kis .u32 K)] (.pagg (kis .u32 (blk K s0 b))) [.pagg (kis .u32 K)] [] := by
  refine ACall.fn (fn := Try.f60) rfl okShaStateBlock rfl (by simp) ?_
  simp only [argT, irShaStateBlock.eq_1]
  have hw := words_c b hl hb
  have wl := W_len b 64
  unfold blk
  generalize W b 64 = Wd at *
  have hr := Rn_len K Wd 64 0 s0 hs
  obtain ⟨a, b, c, d, e, f, g, h, rfl⟩ := len8 hs
  obtain ⟨a', b', c', d', e', f', g', h', hR⟩ := len8 hr
  have k0 : kis .u32 [a, b, c, d, e, f, g, h] = [.int .u32 a, .int .u32 b, .int .u32 c, .int .u32 d, .int .u32 e, .int .u32 f, .int .u32 g, .int .u32 h] := rfl
  have k1 : kis .u32 [a', b', c', d', e', f', g', h'] = [.int .u32 a', .int .u32 b', .int .u32 c', .int .u32 d', .int .u32 e', .int .u32 f', .int .u32 g', .int .u32 h'] := rfl
  simp [-List.reduceReplicate]
  refine CallG.go hw ?_
  simp [-List.reduceReplicate, kis_length, wl]
  refine bl1 K Wd _ _ hK wl 64 0 rfl a b c d e f g h _ ?_
  rw [hR, k0, k1]
  simp [-List.reduceReplicate]
  refine LoopW.go irShaStateBlock_L2.eq_1 (by simp) ?_
  simp [-getElem?_pos, -List.reduceReplicate, List.getElem?_cons_succ]
  refine LoopW.go irShaStateBlock_L2.eq_1 (by simp) ?_
  simp [-getElem?_pos, -List.reduceReplicate, List.getElem?_cons_succ]
  refine LoopW.go irShaStateBlock_L2.eq_1 (by simp) ?_
  simp [-getElem?_pos, -List.reduceReplicate, List.getElem?_cons_succ]
  refine LoopW.go irShaStateBlock_L2.eq_1 (by simp) ?_
  simp [-getElem?_pos, -List.reduceReplicate, List.getElem?_cons_succ]
  refine LoopW.go irShaStateBlock_L2.eq_1 (by simp) ?_
  simp [-getElem?_pos, -List.reduceReplicate, List.getElem?_cons_succ]
  refine LoopW.go irShaStateBlock_L2.eq_1 (by simp) ?_
  simp [-getElem?_pos, -List.reduceReplicate, List.getElem?_cons_succ]
  refine LoopW.go irShaStateBlock_L2.eq_1 (by simp) ?_
  simp [-getElem?_pos, -List.reduceReplicate, List.getElem?_cons_succ]
  refine LoopW.go irShaStateBlock_L2.eq_1 (by simp) ?_
  simp [-getElem?_pos, -List.reduceReplicate, List.getElem?_cons_succ]
  refine LoopW.go irShaStateBlock_L2.eq_1 (by simp) ?_
  simp [-getElem?_pos, -List.reduceReplicate, List.getElem?_cons_succ]
  rfl
end Go.Proofs.Ytlbfpnckoblppaa
