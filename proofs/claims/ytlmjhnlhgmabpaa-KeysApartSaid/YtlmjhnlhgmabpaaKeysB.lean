/- keys.Table, Sign, Verify: contracts. -/
import Derived.Test.YtlmjhnlhgmabpaaKeysA
set_option linter.unusedVariables false
set_option linter.unusedSimpArgs false
namespace Go.Proofs.Ytlmjhnlhgmabpaa
open Go.Abs Go.RowKit Go.Ours

theorem trows_one (T : List (List Nat)) (t : List Nat) : trows T ++ [[PV.sl 1 (krows .u8 t)]] = trows (T ++ [t]) := by simp [trows]
def sealF (m : List Nat) (n : Nat) : List (List Nat) := (List.range n).map fun i : Nat => derF m (i : Int) 1
def rootsF (m : List Nat) (n : Nat) : List (List Nat) := (List.range n).map fun i : Nat => rootF (derF m (i : Int) 2)
theorem seal_step (m : List Nat) (k : Nat) : sealF m (k + 1) = sealF m k ++ [derF m (k : Int) 1] := by simp [sealF, List.range_succ]
theorem roots_step (m : List Nat) (k : Nat) : rootsF m (k + 1) = rootsF m k ++ [rootF (derF m (k : Int) 2)] := by simp [rootsF, List.range_succ]
theorem seal_len (m : List Nat) (k : Nat) : (sealF m k).length = k := by simp [sealF]
theorem roots_len (m : List Nat) (k : Nat) : (rootsF m k).length = k := by simp [rootsF]
theorem dig_der (m : List Nat) (i u : Int) : Dig (derF m i u) := dig_sha _
theorem tbl1 (m : List Nat) (hl : m.length = 32) (hb : ∀ x ∈ m, x < 256) : ∀ (n k : Nat), k + n = 16 → ∀ (Q : Exit → S → Prop),
   (∀ a b, Q (.exit 0) (mk [(1, .ptr 1 0), (2, .ptr 2 0), (3, .ptr 3 0), (6, a), (7, b)] [(1, .pagg (kns .u8 m)), (2, .agg [.os 33 1 [], .os 23 32 []]), (3, .agg [.os 33 1 (trows (sealF m 16)), .os 23 32 []])])) →
   LoopW Try.prog [1, 2, 3, 6] [1, 2, 3] irKeysTable_L1 (mk [(1, .ptr 1 0), (2, .ptr 2 0), (3, .ptr 3 0), (6, .pv (.int .i64 (k : Nat)))] [(1, .pagg (kns .u8 m)), (2, .agg [.os 33 1 [], .os 23 32 []]), (3, .agg [.os 33 1 (trows (sealF m k)), .os 23 32 []])]) Q := by
  intro n
  induction n with
  | zero =>
    intro k hk Q hQ
    obtain rfl : k = 16 := by omega
    refine LoopW.go irKeysTable_L1.eq_1 (by simp) ?_
    simp
    exact hQ _ _
  | succ n ih =>
    intro k hk Q hQ
    have hn := ih (k + 1) (by omega) Q hQ
    have hs := derive_c m k 1 hl hb
    rw [seal_step] at hn
    have hll := seal_len m k
    generalize derF m (k : Int) 1 = y at *
    generalize sealF m k = B at *
    have i1 : (k : Int) < 16 := by omega
    have i2 : k < 16 := by omega
    have w : IntKind.i64.wrap ((k : Int) + 1) = (k + 1 : Nat) := by rw [wrap_i64] <;> omega
    refine LoopW.go irKeysTable_L1.eq_1 (by simp) ?_
    simp [-List.reduceReplicate, i1, i2, kns_length, hl]
    refine CallG.go hs ?_
    simp [-List.reduceReplicate, w, trows_length, trows_one]
    exact ⟨by omega, hn⟩
theorem tbl2 (m : List Nat) (hl : m.length = 32) (hb : ∀ x ∈ m, x < 256) (T : List (List PV)) : ∀ (n k : Nat), k + n = 6 → ∀ (Q : Exit → S → Prop),
   (∀ a b, Q (.exit 2) (mk [(1, .ptr 1 0), (2, .ptr 2 0), (3, .ptr 3 0), (18, a), (19, b)] [(1, .pagg (kns .u8 m)), (2, .agg [.os 33 1 [], .os 23 32 []]), (3, .agg [.os 33 1 T, .os 23 32 (hrows (rootsF m 6))])])) →
   LoopW Try.prog [1, 2, 3, 18] [1, 2, 3] irKeysTable_L2 (mk [(1, .ptr 1 0), (2, .ptr 2 0), (3, .ptr 3 0), (18, .pv (.int .i64 (k : Nat)))] [(1, .pagg (kns .u8 m)), (2, .agg [.os 33 1 [], .os 23 32 []]), (3, .agg [.os 33 1 T, .os 23 32 (hrows (rootsF m k))])]) Q := by
  intro n
  induction n with
  | zero =>
    intro k hk Q hQ
    obtain rfl : k = 6 := by omega
    refine LoopW.go irKeysTable_L2.eq_1 (by simp) ?_
    simp
    exact hQ _ _
  | succ n ih =>
    intro k hk Q hQ
    have hn := ih (k + 1) (by omega) Q hQ
    have hs := seed_c m k hl hb
    obtain ⟨hy, hy2⟩ := dig_der m k 2
    have hr := root_c (derF m k 2) hy hy2
    obtain ⟨hz, _⟩ := root_dig (derF m k 2)
    rw [roots_step] at hn
    have hll := roots_len m k
    generalize rootF (derF m (k : Int) 2) = z at *
    generalize derF m (k : Int) 2 = y at *
    generalize rootsF m k = B at *
    have i1 : (k : Int) < 6 := by omega
    have i2 : k < 6 := by omega
    have w : IntKind.i64.wrap ((k : Int) + 1) = (k + 1 : Nat) := by rw [wrap_i64] <;> omega
    refine LoopW.go irKeysTable_L2.eq_1 (by simp) ?_
    simp [-List.reduceReplicate, i1, i2, kns_length, hl]
    refine CallG.go hs ?_
    simp [-List.reduceReplicate]
    refine CallG.go hr ?_
    simp [-List.reduceReplicate, w, kns_length, hz, hrows_length, hrows_one]
    exact ⟨by omega, hn⟩
theorem table_c (m : List Nat) (hl : m.length = 32) (hb : ∀ x ∈ m, x < 256) : ACall Try.prog 8 [.pagg (kns .u8 m)] [] (.pagg [.sl 1 (trows (sealF m 16)), .sl 32 (hrows (rootsF m 6))]) [] [] := by
  refine ACall.fn (fn := Try.f8) rfl okKeysTable rfl (by simp) ?_
  simp only [argT, irKeysTable.eq_1]
  simp [-List.reduceReplicate, kns_length, hl]
  refine tbl1 m hl hb 16 0 rfl _ fun a b => ?_
  simp [-List.reduceReplicate]
  refine tbl2 m hl hb _ 6 0 rfl _ fun a b => ?_
  simp [-List.reduceReplicate]
theorem shr_xor (k i : Nat) (hk : k < 8) (hi : i < 3) : bits BinOp.xor IntKind.i64 ((k : Int).fdiv (2 ^ min i IntKind.i64.bits)) 1 = (((k / 2 ^ i) ^^^ 1 : Nat) : Int) := by
  have h : ∀ (k : _root_.Fin 8) (i : _root_.Fin 3), bits BinOp.xor IntKind.i64 (((k.val : Nat) : Int).fdiv (2 ^ min i.val 64)) 1 = (((k.val / 2 ^ i.val) ^^^ 1 : Nat) : Int) := by decide +kernel
  exact h ⟨k, hk⟩ ⟨i, hi⟩
theorem shr_and (k i : Nat) (hk : k < 8) (hi : i < 3) : bits BinOp.and IntKind.i64 ((k : Int).fdiv (2 ^ min i IntKind.i64.bits)) 1 = ((k / 2 ^ i % 2 : Nat) : Int) := by
  have h : ∀ (k : _root_.Fin 8) (i : _root_.Fin 3), bits BinOp.and IntKind.i64 (((k.val : Nat) : Int).fdiv (2 ^ min i.val 64)) 1 = ((k.val / 2 ^ i.val % 2 : Nat) : Int) := by decide +kernel
  exact h ⟨k, hk⟩ ⟨i, hi⟩
/-- A signature's bytes, behind some levels. -/
def ksigB (seed : List Nat) (k : Nat) (t : List Nat) : Nat → List Nat
  | 0 => [k] ++ sigB seed (k : Int) t 35
  | n + 1 => ksigB seed k t n ++ besF seed k n
theorem ksigB_3 (seed : List Nat) (k : Nat) (t : List Nat) : ksigB seed k t 3 = ksigF seed k t := rfl
theorem ksigB_len (seed : List Nat) (k : Nat) (t : List Nat) (hk : k < 8) : ∀ n, n ≤ 3 → (ksigB seed k t n).length = 561 + 32 * n
  | 0, _ => by simp [ksigB, sig_len]
  | n + 1, h => by
    rw [ksigB, List.length_append, ksigB_len seed k t hk n (by omega), (bes_dig seed k n (beside_lt k n hk (by omega))).1]
    omega
theorem ksl (seed t : List Nat) (k : Nat) (hk : k < 8) : ∀ (n i : Nat), i + n = 3 → ∀ (Q : Exit → S → Prop),
   (∀ a b c d, Q (.exit 0) (mk [(1, a), (8, .os 5 1 (krows .u8 (ksigF seed k t))), (9, b), (28, c), (29, d)] [])) →
   LoopW Try.prog [1, 8, 9, 28] [] irKeysSign_L1 (mk [(1, .pv (.int .i64 (k : Nat))), (8, .os 5 1 (krows .u8 (ksigB seed k t i))), (9, .os 23 32 (hrows (lvF seed i))), (28, .pv (.int .i64 (i : Nat)))] []) Q := by
  intro n
  induction n with
  | zero =>
    intro i hi Q hQ
    obtain rfl : i = 3 := by omega
    rw [← ksigB_3] at hQ
    refine LoopW.go irKeysSign_L1.eq_1 (by simp) ?_
    simp
    exact hQ _ _ _ _
  | succ n ih =>
    intro i hi Q hQ
    have hn := ih (i + 1) (by omega) Q hQ
    have hb := bes_at seed k i (beside_lt k i hk (by omega))
    have hbl := beside_lt k i hk (by omega)
    obtain ⟨hz, _⟩ := bes_dig seed k i hbl
    have hlen := lvF_len seed i
    have hc := up_c (lvF seed i) (lv_dig seed i) (by rw [hlen]; exact Nat.div_le_self _ _) (by
      rw [hlen]
      have : ∀ i : _root_.Fin 3, 8 / 2 ^ i.val % 2 = 0 := by decide
      exact this ⟨i, by omega⟩)
    have hsl := ksigB_len seed k t hk i (by omega)
    have e1 := shr_xor k i hk (by omega)
    rw [ksigB, lvF] at hn
    rw [← hlen] at hbl
    generalize upF (lvF seed i) = U at *
    generalize lvF seed i = L at *
    generalize besF seed k i = z at *
    generalize ksigB seed k t i = B at *
    generalize (k / 2 ^ i) ^^^ 1 = j at *
    have i1 : (i : Int) < 3 := by omega
    have i2 : i < 3 := by omega
    have i3 : (j : Int) < (L.length : Int) := by omega
    have w : IntKind.i64.wrap ((i : Int) + 1) = (i + 1 : Nat) := by rw [wrap_i64] <;> omega
    have ez : List.take 32 z = z := List.take_of_length_le (by omega)
    refine LoopW.go irKeysSign_L1.eq_1 (by simp) ?_
    simp [-List.reduceReplicate, -getElem?_pos, i1, i2, i3, e1, hbl, hb, hrows_length, hrows_get, kns_length, hz, kns_take, kns_rows, ez, krows_length, krows_app]
    refine ⟨by omega, ?_⟩
    refine CallG.go hc ?_
    simp [-List.reduceReplicate, w]
    exact hn
theorem ksign_c (seed t : List Nat) (k : Nat) (hk : k < 8) (hl : seed.length = 32) (hb : ∀ x ∈ seed, x < 256) (ht : t.length < 1000000000) (htb : ∀ x ∈ t, x < 256) : ACall Try.prog 18 [.pagg (kns .u8 seed), .pv (.int .i64 (k : Nat)), .pv (.sl 1 (krows .u8 t))] [] (.tup [.os 5 1 (krows .u8 (ksigF seed k t)), .pv (.int .i64 0)]) [] [] := by
  refine ACall.fn (fn := Try.f18) rfl okKeysSign rfl (by simp) ?_
  simp only [argT, irKeysSign.eq_1]
  have c1 := sign_c seed t k hl hb ht htb
  have c2 := leaves_c seed hl hb
  have h1 : ¬ (k : Int) < 0 := by omega
  have h2 : ¬ 8 ≤ (k : Int) := by omega
  have h3 : ¬ 8 ≤ k := by omega
  have e1 : IntKind.u8.wrap (k : Int) = k := by rw [wrap_u8] <;> omega
  have hs0 : ksigB seed k t 0 = [k] ++ sigB seed (k : Int) t 35 := rfl
  have hsl := sig_len seed k t 35
  have hq := ksl seed t k hk 3 0 rfl
  rw [hs0] at hq
  change ∀ Q, _ → LoopW _ _ _ _ (mk [_, _, (9, .os _ 32 (hrows (lv0 seed))), _] _) _ at hq
  generalize sigB seed (k : Int) t 35 = s at *
  generalize lv0 seed = L at *
  simp [-List.reduceReplicate, h1, h2, h3, e1, kns_length, hl]
  refine CallG.go c1 ?_
  simp [-List.reduceReplicate, krows_length, krows_app, krows_one, kns_length, hl]
  refine ⟨by omega, ?_⟩
  refine CallG.go c2 ?_
  simp [-List.reduceReplicate]
  refine hq _ fun a b c d => ?_
  simp [-List.reduceReplicate]
theorem ksign_bad (seed t : List Nat) (k : Int) (hk : k < 0 ∨ 8 ≤ k) (hl : seed.length = 32) : ACall Try.prog 18 [.pagg (kns .u8 seed), .pv (.int .i64 k), .pv (.sl 1 (krows .u8 t))] [] (.tup [.os 5 1 [], .pv (.int .i64 3)]) [] [] := by
  refine ACall.fn (fn := Try.f18) rfl okKeysSign rfl (by simp) ?_
  simp only [argT, irKeysSign.eq_1]
  by_cases h : k < 0
  · simp [-List.reduceReplicate, h, kns_length, hl]
  · have h2 : 8 ≤ k := by omega
    simp [-List.reduceReplicate, h, h2, kns_length, hl]
end Go.Proofs.Ytlmjhnlhgmabpaa
