/- sha.start's, sha.rounds' and sha.state.told's contracts. -/
import Derived.Test.YtlbfpnckoblppaaShaE
set_option linter.unusedVariables false
set_option linter.unusedSimpArgs false
namespace Go.Proofs.Ytlbfpnckoblppaa
open Go.Abs Go.RowKit Go.Ours

theorem start_c : ACall Try.prog 58 [] [] (.pagg (kis .u32 s0W)) [] [] := by
  refine ACall.fn (fn := Try.f58) rfl okShaStart rfl (by simp) ?_
  simp only [argT, irShaStart.eq_1]
  simp
  rfl
set_option maxRecDepth 20000 in
theorem rounds_c : ACall Try.prog 59 [] [] (.ptr 2000 0) [] [.pagg (kis .u32 KW)] := by
  refine ACall.fn (fn := Try.f59) rfl okShaRounds rfl (by simp) ?_
  simp only [argT, irShaRounds.eq_1]
  simp [-getElem?_pos, -eff, -List.reduceReplicate, eff.eq_1]
  refine wp_fill (kis .u32 KW) rfl rfl ?_
  simp [-getElem?_pos, -List.reduceReplicate, kis_length, KW_len]
theorem u8nat (y : Int) : IntKind.u8.wrap y = ((IntKind.u8.wrap y).toNat : Nat) := by
  have : IntKind.u8.wrap y = y % 256 := by simp [IntKind.wrap, IntKind.bits, IntKind.signed]
  rw [this]
  omega
theorem ti (z : AV) (s : List Int) (D : List Nat) (hD : D.length = 32) (x : Int) (i : Nat) (hi : i < 8) (Q : Exit → S → Prop)
   (hQ : Q (.exit 2) (mk [(2, .ptr 2 0), (3, .ptr 3 0), (4, .pv (.int .i64 i)), (5, .pv (.int .u32 x)), (7, .pagg (kis .u32 s)), (8, .pv (.int .i64 i)), (12, .pv (.int .i64 4)), (13, .pv (.bool false))] [(2, z), (3, .pagg (kns .u8 ((((D.set (4 * i) (byt 24 x)).set (4 * i + 1) (byt 16 x)).set (4 * i + 2) (byt 8 x)).set (4 * i + 3) (byt 0 x))))])) :
   LoopW Try.prog [2, 3, 4, 5, 7, 8, 12] [2, 3] irShaStateTold_L2 (mk [(2, .ptr 2 0), (3, .ptr 3 0), (4, .pv (.int .i64 i)), (5, .pv (.int .u32 x)), (7, .pagg (kis .u32 s)), (8, .pv (.int .i64 i)), (12, .pv (.int .i64 0))] [(2, z), (3, .pagg (kns .u8 D))]) Q := by
  obtain ⟨j, hj⟩ : ∃ j, j = 4 * i := ⟨_, rfl⟩
  rw [← hj] at hQ
  have e0 : IntKind.u8.wrap (x.fdiv (2 ^ min 24 IntKind.u32.bits)) = (byt 24 x : Nat) := u8nat _
  have e1 : IntKind.u8.wrap (x.fdiv (2 ^ min 16 IntKind.u32.bits)) = (byt 16 x : Nat) := u8nat _
  have e2 : IntKind.u8.wrap (x.fdiv (2 ^ min 8 IntKind.u32.bits)) = (byt 8 x : Nat) := u8nat _
  have e3 : IntKind.u8.wrap x = (byt 0 x : Nat) := by
    unfold byt
    rw [show x.fdiv (2 ^ 0) = x by simp]
    exact u8nat x
  generalize byt 24 x = y0 at *
  generalize byt 16 x = y1 at *
  generalize byt 8 x = y2 at *
  generalize byt 0 x = y3 at *
  have v0 : IntKind.i64.wrap (4 * (i : Int)) = j := by rw [wrap_i64] <;> omega
  have w0 : IntKind.i64.wrap (j : Int) = j := by rw [wrap_i64] <;> omega
  have w1 : IntKind.i64.wrap ((j : Int) + 1) = (j : Int) + 1 := by rw [wrap_i64] <;> omega
  have w2 : IntKind.i64.wrap ((j : Int) + 2) = (j : Int) + 2 := by rw [wrap_i64] <;> omega
  have w3 : IntKind.i64.wrap ((j : Int) + 3) = (j : Int) + 3 := by rw [wrap_i64] <;> omega
  have t0 : j < 32 := by omega
  have t1 : j + 1 < 32 := by omega
  have t2 : j + 2 < 32 := by omega
  have t3 : j + 3 < 32 := by omega
  have q0 : (j : Int) < 32 := by omega
  have q1 : (j : Int) + 1 < 32 := by omega
  have q2 : (j : Int) + 2 < 32 := by omega
  have q3 : (j : Int) + 3 < 32 := by omega
  refine LoopW.go irShaStateTold_L2.eq_1 (by simp) ?_
  simp [-getElem?_pos, v0, w0, t0, q0, e0, kns_set, kns_length, hD]
  refine LoopW.go irShaStateTold_L2.eq_1 (by simp) ?_
  simp [-getElem?_pos, v0, w1, t1, q1, e1, kns_set, kns_length, hD]
  refine LoopW.go irShaStateTold_L2.eq_1 (by simp) ?_
  simp [-getElem?_pos, v0, w2, t2, q2, e2, kns_set, kns_length, hD]
  refine LoopW.go irShaStateTold_L2.eq_1 (by simp) ?_
  simp [-getElem?_pos, v0, w3, t3, q3, e3, kns_set, kns_length, hD]
  refine LoopW.go irShaStateTold_L2.eq_1 (by simp) ?_
  simp [-getElem?_pos]
  exact hQ
/-- The bytes, as they come. -/
def TD (s : List Int) : Nat → List Nat
  | 0 => List.replicate 32 0
  | i + 1 => ((((TD s i).set (4 * i) (byt 24 (s.getD i 0))).set (4 * i + 1) (byt 16 (s.getD i 0))).set (4 * i + 2) (byt 8 (s.getD i 0))).set (4 * i + 3) (byt 0 (s.getD i 0))
theorem TD_len (s : List Int) : ∀ i, (TD s i).length = 32
  | 0 => by simp [TD]
  | i + 1 => by simp [TD, TD_len s i]
theorem TD_told {s : List Int} (hs : s.length = 8) : TD s 8 = told s := by
  obtain ⟨a, b, c, d, e, f, g, h, rfl⟩ := len8 hs
  simp [TD, told]
theorem to (s : List Int) (hs : s.length = 8) (z : AV) : ∀ (n k : Nat), k + n = 8 → ∀ (Q : Exit → S → Prop),
   Q (.exit 0) (mk [(2, .ptr 2 0), (3, .ptr 3 0), (7, .pagg (kis .u32 s)), (8, .pv (.int .i64 8)), (9, .pv (.bool false))] [(2, z), (3, .pagg (kns .u8 (TD s 8)))]) →
   LoopW Try.prog [2, 3, 7, 8] [2, 3] irShaStateTold_L1 (mk [(2, .ptr 2 0), (3, .ptr 3 0), (7, .pagg (kis .u32 s)), (8, .pv (.int .i64 k))] [(2, z), (3, .pagg (kns .u8 (TD s k)))]) Q := by
  intro n
  induction n with
  | zero =>
    intro k hk Q hQ
    obtain rfl : k = 8 := by omega
    refine LoopW.go irShaStateTold_L1.eq_1 (by simp) ?_
    simp
    exact hQ
  | succ n ih =>
    intro k hk Q hQ
    have hn := ih (k + 1) (by omega) Q hQ
    obtain ⟨x, hx⟩ : ∃ x, s[k]? = some x := ⟨_, List.getElem?_eq_getElem (by omega)⟩
    have i1 : (k : Int) < 8 := by omega
    have i3 : k < 8 := by omega
    have v5 : IntKind.i64.wrap ((k : Int) + 1) = (k + 1 : Nat) := by rw [wrap_i64] <;> omega
    refine LoopW.go irShaStateTold_L1.eq_1 (by simp) ?_
    simp [-getElem?_pos, i1, i3, kis_get, hx, kis_length, hs]
    refine ti z s (TD s k) (TD_len s k) x k i3 _ ?_
    simp only [TD, List.getD_eq_getElem?_getD, hx, Option.getD_some] at hn
    simp only [kk_be, kk_b, kk_c]
    simp [-getElem?_pos, v5]
    exact hn
theorem told_c (s : List Int) (hs : s.length = 8) : ACall Try.prog 62 [.pagg (kis .u32 s)] [] (.pagg (kns .u8 (told s))) [] [] := by
  refine ACall.fn (fn := Try.f62) rfl okShaStateTold rfl (by simp) ?_
  simp only [argT, irShaStateTold.eq_1]
  have hq := to s hs (.pagg (List.replicate 32 (.int .u8 0))) 8 0 rfl
  have h0 : List.replicate 32 (PV.int .u8 0) = kns .u8 (TD s 0) := by rw [kns_rep]; rfl
  have hl := TD_len s 8
  simp [-List.reduceReplicate, kis_length, hs]
  rw [← TD_told hs]
  rw [← h0] at hq
  refine hq _ ?_
  simp [-List.reduceReplicate, kns_length, hl]
end Go.Proofs.Ytlbfpnckoblppaa
