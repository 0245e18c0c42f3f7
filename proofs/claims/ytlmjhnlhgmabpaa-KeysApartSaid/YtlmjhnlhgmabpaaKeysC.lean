/- keys.Verify and consistoryref05.Verify: contracts. -/
import Derived.Test.YtlmjhnlhgmabpaaKeysB
set_option linter.unusedVariables false
set_option linter.unusedSimpArgs false
namespace Go.Proofs.Ytlmjhnlhgmabpaa
open Go.Abs Go.RowKit Go.Ours

def climbN (sig : List Nat) (k : Nat) (h : List Nat) : Nat → List Nat
  | 0 => h
  | n + 1 => climbF sig k n (climbN sig k h n)
theorem climbN_3 (sig : List Nat) (k : Nat) (t : List Nat) : climbN sig k (recF t ((sig.drop 1).take 560)) 3 = ktopF sig k t := rfl
theorem climb_dig (sig : List Nat) (k i : Nat) (h : List Nat) : Dig (climbF sig k i h) := by
  unfold climbF
  split <;> exact dig_sha _
theorem climbN_dig (sig : List Nat) (k : Nat) (h : List Nat) (hd : Dig h) : ∀ n, Dig (climbN sig k h n)
  | 0 => hd
  | n + 1 => climb_dig _ _ _ _
/-- What a signature tells: its leaf, an error's number. -/
def verF (root t sig : List Nat) : Nat × Nat :=
  if sig.length = 657 ∧ sig.getD 0 0 < 8 then (if ktopF sig (sig.getD 0 0) t = root then (sig.getD 0 0, 0) else (0, 5)) else (0, 2)
theorem vfl (sig : List Nat) (hsl : sig.length = 657) (hsb : ∀ x ∈ sig, x < 256) (k : Nat) (hk : k < 8) (P : List PV) (h : List Nat) (hd : Dig h) : ∀ (n i : Nat), i + n = 3 → ∀ (Q : Exit → S → Prop),
   (∀ a b c, Q (.exit 0) (mk [(2, a), (3, .ptr 3 0), (8, .pv (.int .i64 (k : Nat))), (9, .ptr 9 0), (34, b), (35, c)] [(3, .pagg P), (9, .pagg (kns .u8 (climbN sig k h 3)))])) →
   LoopW Try.prog [2, 3, 8, 9, 34] [3, 9] irKeysVerify_L1 (mk [(2, .pv (.sl 1 (krows .u8 sig))), (3, .ptr 3 0), (8, .pv (.int .i64 (k : Nat))), (9, .ptr 9 0), (34, .pv (.int .i64 (i : Nat)))] [(3, .pagg P), (9, .pagg (kns .u8 (climbN sig k h i)))]) Q := by
  intro n
  induction n with
  | zero =>
    intro i hi Q hQ
    obtain rfl : i = 3 := by omega
    refine LoopW.go irKeysVerify_L1.eq_1 (by simp) ?_
    simp
    exact hQ _ _ _
  | succ n ih =>
    intro i hi Q hQ
    have hn := ih (i + 1) (by omega) Q hQ
    obtain ⟨hc1, hc2⟩ := climbN_dig sig k h hd i
    have e1 := shr_and k i hk (by omega)
    obtain ⟨j0, hj0⟩ : ∃ j0, j0 = 32 * i := ⟨_, rfl⟩
    obtain ⟨j, hj⟩ : ∃ j, j = 561 + j0 := ⟨_, rfl⟩
    have v0 : IntKind.i64.wrap (32 * (i : Int)) = j0 := by rw [wrap_i64] <;> omega
    have v1 : IntKind.i64.wrap (561 + (j0 : Int)) = j := by rw [wrap_i64] <;> omega
    have v2 : IntKind.i64.wrap ((j : Int) + 32) = (j : Int) + 32 := by rw [wrap_i64] <;> omega
    have j1 : (j : Int) + 32 ≤ 657 := by omega
    have j2 : j + 32 ≤ 657 := by omega
    have hdt : ((krows .u8 sig).take (j + 32)).drop j = krows .u8 ((sig.drop j).take 32) := by
      rw [krows_take, krows_drop, List.drop_take, Nat.add_sub_cancel_left]
    have hbl : ((sig.drop j).take 32).length = 32 := by rw [List.length_take, List.length_drop]; omega
    have hbb : ∀ x ∈ (sig.drop j).take 32, x < 256 := fun x hx => hsb x (List.mem_of_mem_drop (List.mem_of_mem_take hx))
    rw [climbN, climbF, ← hj0, ← hj] at hn
    generalize (sig.drop j).take 32 = b at *
    generalize climbN sig k h i = g at *
    have i1 : (i : Int) < 3 := by omega
    have i2 : i < 3 := by omega
    have w : IntKind.i64.wrap ((i : Int) + 1) = (i + 1 : Nat) := by rw [wrap_i64] <;> omega
    by_cases e : k / 2 ^ i % 2 = 0
    · rw [if_pos e] at hn
      have hp := pair_c g b hc1 hbl hc2 hbb
      obtain ⟨hz, _⟩ := dig_sha (g ++ b)
      generalize shaF (g ++ b) = z at *
      refine LoopW.go irKeysVerify_L1.eq_1 (by simp) ?_
      simp [-List.reduceReplicate, -getElem?_pos, i1, i2, v0, v1, v2, j1, j2, hdt, hsl, hbl, krows_length, krows_flat, kns_length, e1, e, hc1]
      refine ⟨by omega, ?_⟩
      refine CallG.go hp ?_
      simp [-List.reduceReplicate, w, kns_length, hc1, hz]
      exact hn
    · rw [if_neg e] at hn
      have e' : k / 2 ^ i % 2 = 1 := by omega
      have hp := pair_c b g hbl hc1 hbb hc2
      obtain ⟨hz, _⟩ := dig_sha (b ++ g)
      generalize shaF (b ++ g) = z at *
      refine LoopW.go irKeysVerify_L1.eq_1 (by simp) ?_
      simp [-List.reduceReplicate, -getElem?_pos, i1, i2, v0, v1, v2, j1, j2, hdt, hsl, hbl, krows_length, krows_flat, kns_length, e1, e', hc1]
      refine ⟨by omega, ?_⟩
      refine CallG.go hp ?_
      simp [-List.reduceReplicate, w, kns_length, hc1, hz]
      exact hn
theorem verify_c (root t sig : List Nat) (hl : root.length = 32) (ht : t.length < 1000000000) (htb : ∀ x ∈ t, x < 256) (hs : sig.length ≤ 1000000) (hsb : ∀ x ∈ sig, x < 256) : ACall Try.prog 14 [.pagg (kns .u8 root), .pv (.sl 1 (krows .u8 t)), .pv (.sl 1 (krows .u8 sig))] [] (.tup [.pv (.int .i64 ((verF root t sig).1 : Nat)), .pv (.int .i64 ((verF root t sig).2 : Nat))]) [] [] := by
  refine ACall.fn (fn := Try.f14) rfl okKeysVerify rfl (by simp) ?_
  simp only [argT, irKeysVerify.eq_1]
  by_cases h1 : sig.length = 657
  · obtain ⟨k, hk⟩ : ∃ k, sig[0]? = some k := ⟨_, List.getElem?_eq_getElem (by omega)⟩
    have hkd : sig.getD 0 0 = k := by rw [List.getD_eq_getElem?_getD, hk]; rfl
    have hkb := hsb k (List.mem_of_getElem? hk)
    by_cases h2 : k < 8
    · have h2' : ¬ 8 ≤ (k : Int) := by omega
      have h2'' : ¬ 8 ≤ k := by omega
      have hv : verF root t sig = if ktopF sig k t = root then (k, 0) else (0, 5) := by
        unfold verF
        rw [hkd, if_pos ⟨h1, h2⟩]
      have hcl : ((sig.drop 1).take 560).length = 560 := by rw [List.length_take, List.length_drop]; omega
      have hcb : ∀ x ∈ (sig.drop 1).take 560, x < 256 := fun x hx => hsb x (List.mem_of_mem_drop (List.mem_of_mem_take hx))
      have c1 := recover_c t ((sig.drop 1).take 560) hcl hcb ht htb
      have hrd := dig_rec t ((sig.drop 1).take 560)
      have hlp := vfl sig h1 hsb k h2 (kns .u8 root) _ hrd 3 0 rfl
      rw [climbN_3] at hlp
      obtain ⟨hrl, _⟩ := hrd
      obtain ⟨htl, _⟩ : Dig (ktopF sig k t) := climb_dig _ _ _ _
      have hdt : ((krows .u8 sig).take 561).drop 1 = krows .u8 ((sig.drop 1).take 560) := by
        rw [krows_take, krows_drop, List.drop_take]
      rw [hv]
      change ∀ Q, _ → LoopW _ _ _ _ (mk _ [_, (9, .pagg (kns .u8 (recF t ((sig.drop 1).take 560))))]) _ at hlp
      generalize recF t ((sig.drop 1).take 560) = r at *
      generalize (sig.drop 1).take 560 = c at *
      generalize ktopF sig k t = top at *
      have w : IntKind.i64.wrap (k : Int) = k := by rw [wrap_i64] <;> omega
      simp [-List.reduceReplicate, -getElem?_pos, krows_length, h1, krows_get, hk, h2', h2'', w, hdt, kns_length, hl]
      refine CallG.go c1 ?_
      simp [-List.reduceReplicate, kns_length, hrl]
      refine hlp _ fun a b c => ?_
      by_cases he : top = root
      · subst he
        simp [-List.reduceReplicate, kns_length, htl, hl]
      · simp [-List.reduceReplicate, kns_length, htl, hl, he]
    · have h2' : 8 ≤ (k : Int) := by omega
      have hv : verF root t sig = (0, 2) := by
        unfold verF
        rw [hkd, if_neg fun h => h2 h.2]
      rw [hv]
      simp [-List.reduceReplicate, -getElem?_pos, krows_length, h1, krows_get, hk, h2', h2, kns_length, hl]
  · have h1' : ¬ (sig.length : Int) = 657 := by omega
    have hv : verF root t sig = (0, 2) := by
      unfold verF
      rw [if_neg fun h => h1 h.1]
    rw [hv]
    simp [-List.reduceReplicate, -getElem?_pos, krows_length, h1, h1', kns_length, hl]
theorem rvf2 (sig : List Nat) (hsl : sig.length = 657) (i : Nat) (hi : i < 3) (b : List Nat) (hbl : b.length = 32) (hb : ∀ j x, b[j]? = some x → sig[561 + 32 * i + j]? = some x) (n8 n11 : AV) (P z : List PV) : ∀ (n j : Nat), j + n = 32 → ∀ (Q : Exit → S → Prop),
   (∀ c d, Q (.exit 2) (mk [(2, .pv (.sl 1 (krows .u8 sig))), (3, .ptr 3 0), (8, n8), (9, .ptr 9 0), (11, n11), (12, .pv (.int .i64 (i : Nat))), (13, .ptr 13 0), (14, c), (41, d), (42, .pv (.bool false))] [(3, .pagg P), (9, .pagg z), (13, .pagg (kns .u8 b))])) →
   LoopW Try.prog [2, 3, 8, 9, 11, 12, 13, 14] [3, 9, 13] irRef05Verify_L2 (mk [(2, .pv (.sl 1 (krows .u8 sig))), (3, .ptr 3 0), (8, n8), (9, .ptr 9 0), (11, n11), (12, .pv (.int .i64 (i : Nat))), (13, .ptr 13 0), (14, .pv (.int .i64 (j : Nat)))] [(3, .pagg P), (9, .pagg z), (13, .pagg (kns .u8 (b.take j ++ List.replicate n 0)))]) Q := by
  intro n
  induction n with
  | zero =>
    intro j hj Q hQ
    obtain rfl : j = 32 := by omega
    rw [List.take_of_length_le (by omega), List.replicate_zero, List.append_nil]
    refine LoopW.go irRef05Verify_L2.eq_1 (by simp) ?_
    simp
    exact hQ _ _
  | succ n ih =>
    intro j hj Q hQ
    have hn := ih (j + 1) (by omega) Q hQ
    obtain ⟨x, hx⟩ : ∃ x, b[j]? = some x := ⟨_, List.getElem?_eq_getElem (by omega)⟩
    have hsx := hb j x hx
    have htl : (b.take j).length = j := by rw [List.length_take]; omega
    have hset : (b.take j ++ List.replicate (n + 1) 0).set j x = b.take (j + 1) ++ List.replicate n 0 := by
      rw [List.set_append_right _ _ (by omega), htl, Nat.sub_self, List.replicate_succ, List.set_cons_zero, List.take_add_one, hx]
      simp
    have hlen : (b.take j ++ List.replicate (n + 1) 0).length = 32 := by rw [List.length_append, htl, List.length_replicate]; omega
    rw [← hset] at hn
    generalize b.take j ++ List.replicate (n + 1) 0 = D at *
    obtain ⟨j0, hj0⟩ : ∃ j0, j0 = 32 * i := ⟨_, rfl⟩
    obtain ⟨j1, hj1⟩ : ∃ j1, j1 = 561 + j0 := ⟨_, rfl⟩
    obtain ⟨j2, hj2⟩ : ∃ j2, j2 = j1 + j := ⟨_, rfl⟩
    have v0 : IntKind.i64.wrap (32 * (i : Int)) = j0 := by rw [wrap_i64] <;> omega
    have v1 : IntKind.i64.wrap (561 + (j0 : Int)) = j1 := by rw [wrap_i64] <;> omega
    have v2 : IntKind.i64.wrap ((j1 : Int) + (j : Int)) = j2 := by rw [wrap_i64] <;> omega
    rw [← hj0, ← hj1, ← hj2] at hsx
    have i1 : (j : Int) < 32 := by omega
    have i2 : j < 32 := by omega
    have i3 : (j2 : Int) < 657 := by omega
    have i4 : j2 < 657 := by omega
    have w : IntKind.i64.wrap ((j : Int) + 1) = (j + 1 : Nat) := by rw [wrap_i64] <;> omega
    refine LoopW.go irRef05Verify_L2.eq_1 (by simp) ?_
    simp [-List.reduceReplicate, -getElem?_pos, i1, i2, i3, i4, v0, v1, v2, hsl, hsx, krows_length, krows_get, kns_length, hlen, kns_set, w]
    exact hn
theorem rvf1 (sig : List Nat) (hsl : sig.length = 657) (hsb : ∀ x ∈ sig, x < 256) (k : Nat) (hk : k < 8) (P : List PV) (h : List Nat) (hd : Dig h) : ∀ (n i : Nat), i + n = 3 → ∀ (Q : Exit → S → Prop),
   (∀ a b c d, Q (.exit 0) (mk [(2, a), (3, .ptr 3 0), (8, .pv (.int .i64 (k : Nat))), (9, .ptr 9 0), (11, b), (12, c), (36, d), (37, .pv (.bool false))] [(3, .pagg P), (9, .pagg (kns .u8 (climbN sig k h 3)))])) →
   LoopW Try.prog [2, 3, 8, 9, 11, 12] [3, 9] irRef05Verify_L1 (mk [(2, .pv (.sl 1 (krows .u8 sig))), (3, .ptr 3 0), (8, .pv (.int .i64 (k : Nat))), (9, .ptr 9 0), (11, .pv (.int .i64 (k / 2 ^ i : Nat))), (12, .pv (.int .i64 (i : Nat)))] [(3, .pagg P), (9, .pagg (kns .u8 (climbN sig k h i)))]) Q := by
  intro n
  induction n with
  | zero =>
    intro i hi Q hQ
    obtain rfl : i = 3 := by omega
    refine LoopW.go irRef05Verify_L1.eq_1 (by simp) ?_
    simp
    exact hQ _ _ _ _
  | succ n ih =>
    intro i hi Q hQ
    have hn := ih (i + 1) (by omega) Q hQ
    obtain ⟨hc1, hc2⟩ := climbN_dig sig k h hd i
    have hbl : ((sig.drop (561 + 32 * i)).take 32).length = 32 := by rw [List.length_take, List.length_drop]; omega
    have hbb : ∀ x ∈ (sig.drop (561 + 32 * i)).take 32, x < 256 := fun x hx => hsb x (List.mem_of_mem_drop (List.mem_of_mem_take hx))
    have hl2 := rvf2 sig hsl i (by omega) ((sig.drop (561 + 32 * i)).take 32) hbl (fun j x hx => by
      rw [List.getElem?_take] at hx
      split at hx
      · rwa [List.getElem?_drop] at hx
      · cases hx)
    rw [climbN, climbF, Nat.pow_succ, ← Nat.div_div_eq_div_mul] at hn
    generalize (sig.drop (561 + 32 * i)).take 32 = b at *
    generalize climbN sig k h i = g at *
    have hq : k / 2 ^ i < 8 := Nat.lt_of_le_of_lt (Nat.div_le_self _ _) hk
    generalize k / 2 ^ i = q at *
    have i1 : (i : Int) < 3 := by omega
    have i2 : i < 3 := by omega
    have w : IntKind.i64.wrap ((i : Int) + 1) = (i + 1 : Nat) := by rw [wrap_i64] <;> omega
    obtain ⟨q2, hq2⟩ : ∃ q2, q2 = q / 2 := ⟨_, rfl⟩
    rw [← hq2] at hn
    have v1 : (q : Int).tdiv 2 = (q2 : Int) := by rw [hq2]; rfl
    have v2 : IntKind.i64.wrap (q2 : Int) = q2 := by rw [wrap_i64] <;> omega
    have hz0 : (List.replicate 32 (PV.int .u8 0)) = kns .u8 (b.take 0 ++ List.replicate 32 0) := by rw [List.take_zero, List.nil_append, ← kns_rep]
    have v3 : (q : Int).tmod 2 = ((q % 2 : Nat) : Int) := rfl
    by_cases e : q % 2 = 0
    · rw [if_pos e] at hn
      have hp := refPair_c g b hc1 hbl hc2 hbb
      obtain ⟨hz, _⟩ := dig_sha (g ++ b)
      generalize shaF (g ++ b) = z at *
      refine LoopW.go irRef05Verify_L1.eq_1 (by simp) ?_
      simp [-List.reduceReplicate, -getElem?_pos, i1, i2]
      rw [hz0]
      refine hl2 _ _ _ _ 32 0 rfl _ fun c d => ?_
      simp [-List.reduceReplicate, -getElem?_pos, v3, e, kns_length, hc1, hbl]
      refine CallG.go hp ?_
      simp [-List.reduceReplicate, w, kns_length, hc1, hz, v1, v2]
      exact hn
    · rw [if_neg e] at hn
      have e' : q % 2 = 1 := by omega
      have hp := refPair_c b g hbl hc1 hbb hc2
      obtain ⟨hz, _⟩ := dig_sha (b ++ g)
      generalize shaF (b ++ g) = z at *
      refine LoopW.go irRef05Verify_L1.eq_1 (by simp) ?_
      simp [-List.reduceReplicate, -getElem?_pos, i1, i2]
      rw [hz0]
      refine hl2 _ _ _ _ 32 0 rfl _ fun c d => ?_
      simp [-List.reduceReplicate, -getElem?_pos, v3, e', kns_length, hc1, hbl]
      refine CallG.go hp ?_
      simp [-List.reduceReplicate, w, kns_length, hc1, hz, v1, v2]
      exact hn
theorem refVerify_c (root t sig : List Nat) (hl : root.length = 32) (ht : t.length < 1000000000) (htb : ∀ x ∈ t, x < 256) (hs : sig.length ≤ 1000000) (hsb : ∀ x ∈ sig, x < 256) : ACall Try.prog 15 [.pagg (kns .u8 root), .pv (.sl 1 (krows .u8 t)), .pv (.sl 1 (krows .u8 sig))] [] (.tup [.pv (.int .i64 ((verF root t sig).1 : Nat)), .pv (.int .i64 ((verF root t sig).2 : Nat))]) [] [] := by
  refine ACall.fn (fn := Try.f15) rfl okRef05Verify rfl (by simp) ?_
  simp only [argT, irRef05Verify.eq_1]
  by_cases h1 : sig.length = 657
  · obtain ⟨k, hk⟩ : ∃ k, sig[0]? = some k := ⟨_, List.getElem?_eq_getElem (by omega)⟩
    have hkd : sig.getD 0 0 = k := by rw [List.getD_eq_getElem?_getD, hk]; rfl
    have hkb := hsb k (List.mem_of_getElem? hk)
    by_cases h2 : k < 8
    · have h2' : ¬ 7 < (k : Int) := by omega
      have h2'' : ¬ 7 < k := by omega
      have hv : verF root t sig = if ktopF sig k t = root then (k, 0) else (0, 5) := by
        unfold verF
        rw [hkd, if_pos ⟨h1, h2⟩]
      have hcl : ((sig.drop 1).take 560).length = 560 := by rw [List.length_take, List.length_drop]; omega
      have hcb : ∀ x ∈ (sig.drop 1).take 560, x < 256 := fun x hx => hsb x (List.mem_of_mem_drop (List.mem_of_mem_take hx))
      have c1 := refRecover_c t ((sig.drop 1).take 560) hcl hcb ht htb
      have hrd := dig_rec t ((sig.drop 1).take 560)
      have hlp := rvf1 sig h1 hsb k h2 (kns .u8 root) _ hrd 3 0 rfl
      rw [climbN_3, Nat.pow_zero, Nat.div_one] at hlp
      obtain ⟨hrl, _⟩ := hrd
      obtain ⟨htl, _⟩ : Dig (ktopF sig k t) := climb_dig _ _ _ _
      have hdt : ((krows .u8 sig).take 561).drop 1 = krows .u8 ((sig.drop 1).take 560) := by
        rw [krows_take, krows_drop, List.drop_take]
      rw [hv]
      change ∀ Q, _ → LoopW _ _ _ _ (mk _ [_, (9, .pagg (kns .u8 (recF t ((sig.drop 1).take 560))))]) _ at hlp
      generalize recF t ((sig.drop 1).take 560) = r at *
      generalize (sig.drop 1).take 560 = c at *
      generalize ktopF sig k t = top at *
      have w : IntKind.i64.wrap (k : Int) = k := by rw [wrap_i64] <;> omega
      simp [-List.reduceReplicate, -getElem?_pos, krows_length, h1, krows_get, hk, h2', h2'', w, hdt, kns_length, hl]
      refine CallG.go c1 ?_
      simp [-List.reduceReplicate, kns_length, hrl]
      refine hlp _ fun a b c d => ?_
      by_cases he : top = root
      · subst he
        simp [-List.reduceReplicate, kns_length, htl, hl]
      · simp [-List.reduceReplicate, kns_length, htl, hl, he]
    · have h2' : 7 < (k : Int) := by omega
      have h2'' : 7 < k := by omega
      have hv : verF root t sig = (0, 2) := by
        unfold verF
        rw [hkd, if_neg fun h => h2 h.2]
      rw [hv]
      simp [-List.reduceReplicate, -getElem?_pos, krows_length, h1, krows_get, hk, h2', h2'', kns_length, hl]
  · have h1' : ¬ (sig.length : Int) = 657 := by omega
    have hv : verF root t sig = (0, 2) := by
      unfold verF
      rw [if_neg fun h => h1 h.1]
    rw [hv]
    simp [-List.reduceReplicate, -getElem?_pos, krows_length, h1, h1', kns_length, hl]
end Go.Proofs.Ytlmjhnlhgmabpaa
