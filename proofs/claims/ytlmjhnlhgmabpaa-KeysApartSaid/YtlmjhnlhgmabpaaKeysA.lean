/- keys.leaves, up, Root, Seed, Table: contracts. -/
import Derived.Test.YtlmjhnlhgmabpaaPlainKeys
import Derived.Test.YtlmjhnlhgmabpaaOtsF
import Derived.Test.YtlmjhnlhgmabpaaMacDer
import Derived.Test.YtlmjhnlhgmabpaaIrKeys
set_option linter.unusedVariables false
set_option linter.unusedSimpArgs false
namespace Go.Proofs.Ytlmjhnlhgmabpaa
open Go.Abs Go.RowKit Go.Ours

theorem leaves_step (seed : List Nat) (k : Nat) : leavesF seed (k + 1) = leavesF seed k ++ [pubF seed (k : Int)] := by simp [leavesF, List.range_succ]
theorem lvl (seed : List Nat) (hl : seed.length = 32) (hb : ∀ x ∈ seed, x < 256) : ∀ (n k : Nat), k + n = 8 → ∀ (Q : Exit → S → Prop),
   (∀ b, Q (.exit 0) (mk [(1, .ptr 1 0), (3, .os 23 32 (hrows (leavesF seed 8))), (5, b), (6, .pv (.bool false))] [(1, .pagg (kns .u8 seed))])) →
   LoopW Try.prog [1, 3, 5] [1] irKeysLeaves_L1 (mk [(1, .ptr 1 0), (3, .os 23 32 (hrows (leavesF seed k))), (5, .pv (.int .i64 (k : Nat)))] [(1, .pagg (kns .u8 seed))]) Q := by
  intro n
  induction n with
  | zero =>
    intro k hk Q hQ
    obtain rfl : k = 8 := by omega
    refine LoopW.go irKeysLeaves_L1.eq_1 (by simp) ?_
    simp
    exact hQ _
  | succ n ih =>
    intro k hk Q hQ
    have hn := ih (k + 1) (by omega) Q hQ
    have hs := public_c seed k hl hb
    obtain ⟨hy, _⟩ := dig_pub seed (k : Int)
    rw [leaves_step] at hn
    have hll := leaves_len seed k
    generalize pubF seed (k : Int) = y at *
    generalize leavesF seed k = B at *
    have i1 : (k : Int) < 8 := by omega
    have i2 : k < 8 := by omega
    have w : IntKind.i64.wrap ((k : Int) + 1) = (k + 1 : Nat) := by rw [wrap_i64] <;> omega
    refine LoopW.go irKeysLeaves_L1.eq_1 (by simp) ?_
    simp [-List.reduceReplicate, i1, i2, kns_length, hl]
    refine CallG.go hs ?_
    simp [-List.reduceReplicate, w, kns_length, hy, hrows_length, hrows_one]
    exact ⟨by omega, hn⟩
theorem leaves_c (seed : List Nat) (hl : seed.length = 32) (hb : ∀ x ∈ seed, x < 256) : ACall Try.prog 20 [.pagg (kns .u8 seed)] [] (.os 23 32 (hrows (lv0 seed))) [] [] := by
  refine ACall.fn (fn := Try.f20) rfl okKeysLeaves rfl (by simp) ?_
  simp only [argT, irKeysLeaves.eq_1]
  simp [-List.reduceReplicate, kns_length, hl]
  refine lvl seed hl hb 8 0 rfl _ fun b => ?_
  simp [-List.reduceReplicate, lv0]
theorem upl (l : List (List Nat)) (hd : ∀ x ∈ l, Dig x) (hll : l.length ≤ 8) : ∀ (n k : Nat) (B : List (List Nat)), 2 * k + 2 * n = l.length → B.length = k → ∀ (Q : Exit → S → Prop),
   (∀ a b c d e f, Q (.exit 0) (mk [(0, a), (3, .os 23 32 (hrows (B ++ upF (l.drop (2 * k))))), (4, b), (5, c), (6, d), (7, e), (8, f), (9, .pv (.bool false))] [])) →
   LoopW Try.prog [0, 3, 4] [] irKeysLevelUp_L1 (mk [(0, .pv (.sl 32 (hrows l))), (3, .os 23 32 (hrows B)), (4, .pv (.int .i64 (2 * k : Nat)))] []) Q := by
  intro n
  induction n with
  | zero =>
    intro k B hk hB Q hQ
    have e : l.drop (2 * k) = [] := List.drop_of_length_le (by omega)
    have e0 : upF ([] : List (List Nat)) = [] := by simp [upF]
    rw [e, e0, List.append_nil] at hQ
    obtain ⟨j, hj⟩ : ∃ j, j = 2 * k := ⟨_, rfl⟩
    rw [← hj]
    have w : IntKind.i64.wrap ((j : Int) + 1) = (j + 1 : Nat) := by rw [wrap_i64] <;> omega
    have i1 : ¬ (j : Int) + 1 < (l.length : Int) := by omega
    refine LoopW.go irKeysLevelUp_L1.eq_1 (by simp) ?_
    simp [hrows_length, w, i1]
    exact hQ _ _ _ _ _ _
  | succ n ih =>
    intro k B hk hB Q hQ
    obtain ⟨j, hj⟩ : ∃ j, j = 2 * k := ⟨_, rfl⟩
    obtain ⟨x, hx⟩ : ∃ x, l[j]? = some x := ⟨_, List.getElem?_eq_getElem (by omega)⟩
    obtain ⟨y, hy⟩ : ∃ y, l[j + 1]? = some y := ⟨_, List.getElem?_eq_getElem (by omega)⟩
    obtain ⟨hx1, hx2⟩ := hd x (List.mem_of_getElem? hx)
    obtain ⟨hy1, hy2⟩ := hd y (List.mem_of_getElem? hy)
    have hdr : l.drop (2 * k) = x :: y :: l.drop (2 * (k + 1)) := by
      rw [← hj, List.drop_eq_getElem_cons (by omega), List.drop_eq_getElem_cons (by omega)]
      rw [List.getElem?_eq_getElem (by omega)] at hx hy
      rw [Option.some.inj hx, Option.some.inj hy, show j + 1 + 1 = 2 * (k + 1) by omega]
    rw [hdr] at hQ
    have hc := pair_c x y hx1 hy1 hx2 hy2
    obtain ⟨hz, _⟩ := dig_sha (x ++ y)
    have hn := ih (k + 1) (B ++ [shaF (x ++ y)]) (by omega) (by simp [hB]) Q (by
      intro a b c d e f
      have := hQ a b c d e f
      rwa [upF, List.append_cons] at this)
    rw [← hj]
    rw [show 2 * (k + 1) = j + 2 by omega] at hn
    generalize shaF (x ++ y) = z at *
    have w : IntKind.i64.wrap ((j : Int) + 1) = (j + 1 : Nat) := by rw [wrap_i64] <;> omega
    have w' : IntKind.i64.wrap ((j : Int) + 2) = (j + 2 : Nat) := by rw [wrap_i64] <;> omega
    have i1 : (j : Int) + 1 < (l.length : Int) := by omega
    have i2 : j + 1 < l.length := by omega
    have i3 : (j : Int) < (l.length : Int) := by omega
    have i4 : j < l.length := by omega
    refine LoopW.go irKeysLevelUp_L1.eq_1 (by simp) ?_
    simp [-List.reduceReplicate, -getElem?_pos, w, w', i1, i2, i3, i4, hrows_length, hrows_get, hx, hy, kns_length, hx1, hy1]
    refine CallG.go hc ?_
    simp [-List.reduceReplicate, w', kns_length, hz, hrows_length, hrows_one]
    exact ⟨by omega, hn⟩
theorem up_c (l : List (List Nat)) (hd : ∀ x ∈ l, Dig x) (hll : l.length ≤ 8) (he : l.length % 2 = 0) : ACall Try.prog 21 [.pv (.sl 32 (hrows l))] [] (.os 23 32 (hrows (upF l))) [] [] := by
  refine ACall.fn (fn := Try.f21) rfl okKeysLevelUp rfl (by simp) ?_
  simp only [argT, irKeysLevelUp.eq_1]
  simp
  refine upl l hd hll (l.length / 2) 0 [] (by omega) rfl _ fun a b c d e f => ?_
  simp
theorem root_c (seed : List Nat) (hl : seed.length = 32) (hb : ∀ x ∈ seed, x < 256) : ACall Try.prog 11 [.pagg (kns .u8 seed)] [] (.pagg (kns .u8 (rootF seed))) [] [] := by
  refine ACall.fn (fn := Try.f11) rfl okKeysRoot rfl (by simp) ?_
  simp only [argT, irKeysRoot.eq_1]
  obtain ⟨l0, l1, l2, l3⟩ := lv_len seed
  have c0 := leaves_c seed hl hb
  have c1 := up_c (lv0 seed) (leaves_dig seed 8) (by omega) (by omega)
  have c2 := up_c (lv1 seed) (up_dig _) (by omega) (by omega)
  have c3 := up_c (lv2 seed) (up_dig _) (by omega) (by omega)
  change ACall _ _ _ _ (.os _ _ (hrows (lv1 seed))) _ _ at c1
  change ACall _ _ _ _ (.os _ _ (hrows (lv2 seed))) _ _ at c2
  change ACall _ _ _ _ (.os _ _ (hrows (lv3 seed))) _ _ at c3
  have hr : lv3 seed = [rootF seed] := by
    unfold rootF
    match lv3 seed, l3 with
    | [x], _ => rfl
  obtain ⟨hrl, _⟩ := root_dig seed
  rw [hr] at c3
  generalize rootF seed = r at *
  generalize lv0 seed = L0 at *
  generalize lv1 seed = L1 at *
  generalize lv2 seed = L2 at *
  simp [-List.reduceReplicate, kns_length, hl]
  refine CallG.go c0 ?_
  simp [-List.reduceReplicate]
  refine LoopW.go irKeysRoot_L1.eq_1 (by simp) ?_
  simp [-List.reduceReplicate]
  refine CallG.go c1 ?_
  simp [-List.reduceReplicate]
  refine LoopW.go irKeysRoot_L1.eq_1 (by simp) ?_
  simp [-List.reduceReplicate]
  refine CallG.go c2 ?_
  simp [-List.reduceReplicate]
  refine LoopW.go irKeysRoot_L1.eq_1 (by simp) ?_
  simp [-List.reduceReplicate]
  refine CallG.go c3 ?_
  simp [-List.reduceReplicate]
  refine LoopW.go irKeysRoot_L1.eq_1 (by simp) ?_
  simp [-List.reduceReplicate, hrows, kns_length, hrl]
theorem seed_c (m : List Nat) (c : Int) (hl : m.length = 32) (hb : ∀ x ∈ m, x < 256) : ACall Try.prog 9 [.pagg (kns .u8 m), .pv (.int .i64 c)] [] (.pagg (kns .u8 (derF m c 2))) [] [] := by
  refine ACall.fn (fn := Try.f9) rfl okKeysSeed rfl (by simp) ?_
  simp only [argT, irKeysSeed.eq_1]
  have hc := derive_c m c 2 hl hb
  obtain ⟨hz, _⟩ := dig_sha (m ++ fx 8 (uw c) ++ fx 8 (uw 2))
  change (derF m c 2).length = 32 at hz
  generalize derF m c 2 = z at *
  simp [-List.reduceReplicate, kns_length, hl]
  refine CallG.go hc ?_
  simp [-List.reduceReplicate, krows_length, krows_flat, kns_length, hz]
end Go.Proofs.Ytlmjhnlhgmabpaa
