/- consistoryref05's Tree, Beside, Sign, Seed; wakes: contracts. -/
import Derived.Test.YtlmjhnlhgmabpaaKeysC
set_option linter.unusedVariables false
set_option linter.unusedSimpArgs false
namespace Go.Proofs.Ytlmjhnlhgmabpaa
open Go.Abs Go.RowKit Go.Ours

def treeN (L : List (List Nat)) : Nat → List (List Nat)
  | 0 => L
  | n + 1 => treeN L n ++ [shaF ((treeN L n).getD (2 * n) [] ++ (treeN L n).getD (2 * n + 1) [])]
theorem treeN_8 (a b c d e f g h : List Nat) : treeN [a, b, c, d, e, f, g, h] 7 = [a, b, c, d, e, f, g, h] ++ upF [a, b, c, d, e, f, g, h] ++ upF (upF [a, b, c, d, e, f, g, h]) ++ upF (upF (upF [a, b, c, d, e, f, g, h])) := by
  simp [treeN, upF]
theorem treeN_eq (seed : List Nat) : treeN (lv0 seed) 7 = treeF seed := by
  unfold treeF lv3 lv2 lv1
  have h := (lv_len seed).1
  match lv0 seed, h with
  | [a, b, c, d, e, f, g, h], _ => exact treeN_8 a b c d e f g h
theorem treeN_len (L : List (List Nat)) : ∀ n, (treeN L n).length = L.length + n
  | 0 => rfl
  | n + 1 => by simp [treeN, treeN_len L n, Nat.add_assoc]
theorem treeN_dig (L : List (List Nat)) (hd : ∀ x ∈ L, Dig x) : ∀ n, ∀ x ∈ treeN L n, Dig x
  | 0 => hd
  | n + 1 => by
    intro x hx
    rcases List.mem_append.1 hx with h | h
    · exact treeN_dig L hd n x h
    · rw [List.mem_singleton.1 h]; exact dig_sha _
theorem tree_len (seed : List Nat) : (treeF seed).length = 15 := by rw [← treeN_eq, treeN_len, (lv_len seed).1]
theorem tree_root (seed : List Nat) : (treeF seed)[14]? = some (rootF seed) := by
  obtain ⟨l0, l1, l2, l3⟩ := lv_len seed
  have hr : lv3 seed = [rootF seed] := by
    unfold rootF
    match lv3 seed, l3 with
    | [x], _ => rfl
  unfold treeF
  rw [hr, List.getElem?_append_right (by simp [l0, l1, l2])]
  simp [l0, l1, l2]
def besI (k : Nat) : List Nat := [k ^^^ 1, 8 + ((k / 2) ^^^ 1), 12 + ((k / 4) ^^^ 1)]
theorem besI_at (seed : List Nat) (k : Nat) (hk : k < 8) : ∀ i, i < 3 → ∃ j, (besI k)[i]? = some j ∧ j < 15 ∧ (treeF seed)[j]? = some (besF seed k i) := by
  intro i hi
  have hb := bes_at seed k i (beside_lt k i hk hi)
  have hl := beside_lt k i hk hi
  have ht : treeF seed = lvF seed 0 ++ lvF seed 1 ++ lvF seed 2 ++ lvF seed 3 := rfl
  have q0 := lvF_len seed 0
  have q1 := lvF_len seed 1
  have q2 := lvF_len seed 2
  match i, hi with
  | 0, _ =>
    rw [Nat.pow_zero, Nat.div_one] at hb hl
    refine ⟨k ^^^ 1, rfl, by omega, ?_⟩
    rw [ht, List.append_assoc, List.append_assoc, List.getElem?_append_left (by rw [q0]; exact hl)]
    exact hb
  | 1, _ =>
    simp only [Nat.pow_one, Nat.reduceDiv] at hb hl q1
    refine ⟨8 + ((k / 2) ^^^ 1), rfl, by omega, ?_⟩
    rw [ht, List.append_assoc, List.append_assoc, List.getElem?_append_right (by rw [q0]; omega), q0, List.getElem?_append_left (by rw [q1]; simp only [Nat.pow_zero]; omega)]
    simp only [Nat.pow_zero, Nat.div_one, Nat.add_sub_cancel_left]
    exact hb
  | 2, _ =>
    simp only [Nat.reducePow, Nat.reduceDiv, Nat.pow_one] at hb hl q1 q2
    refine ⟨12 + ((k / 4) ^^^ 1), rfl, by omega, ?_⟩
    rw [ht, List.append_assoc, List.append_assoc, List.getElem?_append_right (by rw [q0]; omega), q0, List.getElem?_append_right (by rw [q1]; simp only [Nat.pow_zero]; omega), q1, List.getElem?_append_left (by rw [q2]; simp only [Nat.pow_zero]; omega)]
    simp only [Nat.pow_zero, Nat.div_one]
    rw [show 12 + ((k / 4) ^^^ 1) - 8 - 4 = (k / 4) ^^^ 1 by omega]
    exact hb
theorem tr1 (seed : List Nat) (hl : seed.length = 32) (hb : ∀ x ∈ seed, x < 256) : ∀ (n k : Nat), k + n = 8 → ∀ (Q : Exit → S → Prop),
   (∀ a b c, Q (.exit 0) (mk [(1, .ptr 1 0), (3, .os 23 32 (hrows (leavesF seed 8))), (4, a), (6, b), (7, c)] [(1, .pagg (kns .u8 seed))])) →
   LoopW Try.prog [1, 3, 4] [1] irRef05Tree_L1 (mk [(1, .ptr 1 0), (3, .os 23 32 (hrows (leavesF seed k))), (4, .pv (.int .i64 (k : Nat)))] [(1, .pagg (kns .u8 seed))]) Q := by
  intro n
  induction n with
  | zero =>
    intro k hk Q hQ
    obtain rfl : k = 8 := by omega
    refine LoopW.go irRef05Tree_L1.eq_1 (by simp) ?_
    simp
    exact hQ _ _ _
  | succ n ih =>
    intro k hk Q hQ
    have hn := ih (k + 1) (by omega) Q hQ
    have hs := refPublic_c seed k hl hb
    obtain ⟨hy, _⟩ := dig_pub seed (k : Int)
    rw [leaves_step] at hn
    have hll := leaves_len seed k
    generalize pubF seed (k : Int) = y at *
    generalize leavesF seed k = B at *
    have i1 : (k : Int) < 8 := by omega
    have i2 : k < 8 := by omega
    have w : IntKind.i64.wrap ((k : Int) + 1) = (k + 1 : Nat) := by rw [wrap_i64] <;> omega
    refine LoopW.go irRef05Tree_L1.eq_1 (by simp) ?_
    simp [-List.reduceReplicate, i1, i2, kns_length, hl]
    refine CallG.go hs ?_
    simp [-List.reduceReplicate, w, kns_length, hy, hrows_length, hrows_one]
    exact ⟨by omega, hn⟩
theorem tr2 (L : List (List Nat)) (hL : L.length = 8) (hd : ∀ x ∈ L, Dig x) : ∀ (n k : Nat), k + n = 7 → ∀ (Q : Exit → S → Prop),
   (∀ a b, Q (.exit 2) (mk [(3, .os 23 32 (hrows (treeN L 7))), (5, a), (16, b), (17, .pv (.bool false))] [])) →
   LoopW Try.prog [3, 5] [] irRef05Tree_L2 (mk [(3, .os 23 32 (hrows (treeN L k))), (5, .pv (.int .i64 (2 * k : Nat)))] []) Q := by
  intro n
  induction n with
  | zero =>
    intro k hk Q hQ
    obtain rfl : k = 7 := by omega
    refine LoopW.go irRef05Tree_L2.eq_1 (by simp) ?_
    simp
    exact hQ _ _
  | succ n ih =>
    intro k hk Q hQ
    have hn := ih (k + 1) (by omega) Q hQ
    have hlen := treeN_len L k
    have hdg := treeN_dig L hd k
    rw [treeN] at hn
    obtain ⟨j, hj⟩ : ∃ j, j = 2 * k := ⟨_, rfl⟩
    rw [show 2 * (k + 1) = j + 2 by omega] at hn
    rw [← hj] at hn ⊢
    generalize treeN L k = T at *
    obtain ⟨x, hx⟩ : ∃ x, T[j]? = some x := ⟨_, List.getElem?_eq_getElem (by omega)⟩
    obtain ⟨y, hy⟩ : ∃ y, T[j + 1]? = some y := ⟨_, List.getElem?_eq_getElem (by omega)⟩
    obtain ⟨hx1, hx2⟩ := hdg x (List.mem_of_getElem? hx)
    obtain ⟨hy1, hy2⟩ := hdg y (List.mem_of_getElem? hy)
    have hxd : T.getD j [] = x := by rw [List.getD_eq_getElem?_getD, hx]; rfl
    have hyd : T.getD (j + 1) [] = y := by rw [List.getD_eq_getElem?_getD, hy]; rfl
    rw [hxd, hyd] at hn
    have hc := refPair_c x y hx1 hy1 hx2 hy2
    obtain ⟨hz, _⟩ := dig_sha (x ++ y)
    generalize shaF (x ++ y) = z at *
    have w : IntKind.i64.wrap ((j : Int) + 1) = (j + 1 : Nat) := by rw [wrap_i64] <;> omega
    have w' : IntKind.i64.wrap ((j : Int) + 2) = (j + 2 : Nat) := by rw [wrap_i64] <;> omega
    have i1 : (j : Int) < 14 := by omega
    have i2 : j < 14 := by omega
    have i3 : (j : Int) < (T.length : Int) := by omega
    have i4 : j < T.length := by omega
    have i5 : (j : Int) + 1 < (T.length : Int) := by omega
    have i6 : j + 1 < T.length := by omega
    refine LoopW.go irRef05Tree_L2.eq_1 (by simp) ?_
    simp [-List.reduceReplicate, -getElem?_pos, w, w', i1, i2, i3, i4, i5, i6, hrows_length, hrows_get, hx, hy, kns_length, hx1, hy1]
    refine CallG.go hc ?_
    simp [-List.reduceReplicate, w', kns_length, hz, hrows_length, hrows_one]
    exact ⟨by omega, hn⟩
theorem tree_c (seed : List Nat) (hl : seed.length = 32) (hb : ∀ x ∈ seed, x < 256) : ACall Try.prog 17 [.pagg (kns .u8 seed)] [] (.os 23 32 (hrows (treeF seed))) [] [] := by
  refine ACall.fn (fn := Try.f17) rfl okRef05Tree rfl (by simp) ?_
  simp only [argT, irRef05Tree.eq_1]
  have h2 := tr2 (lv0 seed) (lv_len seed).1 (leaves_dig seed 8) 7 0 rfl
  rw [treeN_eq] at h2
  change ∀ Q, _ → LoopW _ _ _ _ (mk [(3, .os _ 32 (hrows (leavesF seed 8))), _] _) _ at h2
  simp [-List.reduceReplicate, kns_length, hl]
  refine tr1 seed hl hb 8 0 rfl _ fun a b c => ?_
  generalize leavesF seed 8 = L at *
  generalize treeF seed = T at *
  simp [-List.reduceReplicate]
  refine h2 _ fun a b => ?_
  simp [-List.reduceReplicate]
theorem beside_c (k : Nat) (hk : k < 8) : ACall Try.prog 30 [.pv (.int .i64 (k : Nat))] [] (.os 3 1 (krows .i64 (besI k))) [] [] := by
  refine ACall.fn (fn := Try.f30) rfl okRef05Beside rfl (by simp) ?_
  simp only [argT, irRef05Beside.eq_1]
  have hc : k = 0 ∨ k = 1 ∨ k = 2 ∨ k = 3 ∨ k = 4 ∨ k = 5 ∨ k = 6 ∨ k = 7 := by omega
  have w : ∀ x : Nat, x < 100 → IntKind.i64.wrap (x : Int) = x := fun x hx => by rw [wrap_i64] <;> omega
  rcases hc with rfl | rfl | rfl | rfl | rfl | rfl | rfl | rfl
  all_goals
    simp
    refine LoopW.go irRef05Beside_L1.eq_1 (by simp) ?_
    simp
    refine LoopW.go irRef05Beside_L1.eq_1 (by simp) ?_
    simp
    refine LoopW.go irRef05Beside_L1.eq_1 (by simp) ?_
    simp
    refine LoopW.go irRef05Beside_L1.eq_1 (by simp) ?_
    simp [besI, krows]
theorem rsl (seed t : List Nat) (k : Nat) (hk : k < 8) : ∀ (n i : Nat), i + n = 3 → ∀ (Q : Exit → S → Prop),
   (∀ a b c d, Q (.exit 0) (mk [(7, .os 5 1 (krows .u8 (ksigF seed k t))), (8, a), (9, b), (10, c), (26, d), (27, .pv (.bool false))] [])) →
   LoopW Try.prog [7, 8, 9, 10] [] irRef05Sign_L1 (mk [(7, .os 5 1 (krows .u8 (ksigB seed k t i))), (8, .os 23 32 (hrows (treeF seed))), (9, .os 3 1 (krows .i64 (besI k))), (10, .pv (.int .i64 (i : Nat)))] []) Q := by
  intro n
  induction n with
  | zero =>
    intro i hi Q hQ
    obtain rfl : i = 3 := by omega
    rw [← ksigB_3] at hQ
    refine LoopW.go irRef05Sign_L1.eq_1 (by simp) ?_
    simp
    exact hQ _ _ _ _
  | succ n ih =>
    intro i hi Q hQ
    have hn := ih (i + 1) (by omega) Q hQ
    obtain ⟨j, hj1, hj2, hj3⟩ := besI_at seed k hk i (by omega)
    obtain ⟨hz, _⟩ := bes_dig seed k i (beside_lt k i hk (by omega))
    have hsl := ksigB_len seed k t hk i (by omega)
    have hbl : (besI k).length = 3 := rfl
    have htl := tree_len seed
    rw [ksigB] at hn
    generalize besF seed k i = z at *
    generalize ksigB seed k t i = B at *
    generalize besI k = J at *
    generalize treeF seed = T at *
    have i1 : (i : Int) < 3 := by omega
    have i2 : i < 3 := by omega
    have i3 : (j : Int) < 15 := by omega
    have w : IntKind.i64.wrap ((i : Int) + 1) = (i + 1 : Nat) := by rw [wrap_i64] <;> omega
    refine LoopW.go irRef05Sign_L1.eq_1 (by simp) ?_
    simp [-List.reduceReplicate, -getElem?_pos, i1, i2, i3, hj1, hj2, hj3, hbl, htl, hrows_length, hrows_get, kns_length, hz, krows_get, krows_length]
    refine CallG.go (bytes_c z hz) ?_
    simp [-List.reduceReplicate, w, krows_length, krows_app]
    exact ⟨by omega, hn⟩
theorem refKSign_c (seed t : List Nat) (k : Nat) (hk : k < 8) (hl : seed.length = 32) (hb : ∀ x ∈ seed, x < 256) (ht : t.length < 1000000000) (htb : ∀ x ∈ t, x < 256) : ACall Try.prog 16 [.pagg (kns .u8 seed), .pv (.int .i64 (k : Nat)), .pv (.sl 1 (krows .u8 t))] [] (.os 5 1 (krows .u8 (ksigF seed k t))) [] [] := by
  refine ACall.fn (fn := Try.f16) rfl okRef05Sign rfl (by simp) ?_
  simp only [argT, irRef05Sign.eq_1]
  have c1 := refSign_c seed t k hl hb ht htb
  have c2 := tree_c seed hl hb
  have c3 := beside_c k hk
  have e1 : IntKind.u8.wrap (k : Int) = k := by rw [wrap_u8] <;> omega
  have hs0 : ksigB seed k t 0 = [k] ++ sigB seed (k : Int) t 35 := rfl
  have hsl := sig_len seed k t 35
  have hq := rsl seed t k hk 3 0 rfl
  rw [hs0] at hq
  generalize sigB seed (k : Int) t 35 = s at *
  simp [-List.reduceReplicate, e1, kns_length, hl]
  refine CallG.go c1 ?_
  simp [-List.reduceReplicate, krows_length, krows_app, krows_one, kns_length, hl]
  refine ⟨by omega, ?_⟩
  refine CallG.go c2 ?_
  simp [-List.reduceReplicate]
  refine CallG.go c3 ?_
  simp [-List.reduceReplicate]
  refine hq _ fun a b c d => ?_
  simp [-List.reduceReplicate]
theorem rsdl (l : List Nat) (hl : l.length = 32) (z : List PV) : ∀ (n k : Nat), k + n = 32 → ∀ (Q : Exit → S → Prop),
   (∀ a b c, Q (.exit 0) (mk [(4, .ptr 4 0), (5, a), (6, .ptr 6 0), (7, b), (12, c), (13, .pv (.bool false))] [(4, .pagg z), (6, .pagg (kns .u8 l))])) →
   LoopW Try.prog [4, 5, 6, 7] [4, 6] irRef05Seed_L1 (mk [(4, .ptr 4 0), (5, .os 5 1 (krows .u8 l)), (6, .ptr 6 0), (7, .pv (.int .i64 (k : Nat)))] [(4, .pagg z), (6, .pagg (kns .u8 (l.take k ++ List.replicate n 0)))]) Q := by
  intro n
  induction n with
  | zero =>
    intro k hk Q hQ
    obtain rfl : k = 32 := by omega
    rw [List.take_of_length_le (by omega), List.replicate_zero, List.append_nil]
    refine LoopW.go irRef05Seed_L1.eq_1 (by simp) ?_
    simp
    exact hQ _ _ _
  | succ n ih =>
    intro k hk Q hQ
    have hn := ih (k + 1) (by omega) Q hQ
    obtain ⟨x, hx⟩ : ∃ x, l[k]? = some x := ⟨_, List.getElem?_eq_getElem (by omega)⟩
    have htl : (l.take k).length = k := by rw [List.length_take]; omega
    have hset : (l.take k ++ List.replicate (n + 1) 0).set k x = l.take (k + 1) ++ List.replicate n 0 := by
      rw [List.set_append_right _ _ (by omega), htl, Nat.sub_self, List.replicate_succ, List.set_cons_zero, List.take_add_one, hx]
      simp
    have hlen : (l.take k ++ List.replicate (n + 1) 0).length = 32 := by rw [List.length_append, htl, List.length_replicate]; omega
    rw [← hset] at hn
    generalize l.take k ++ List.replicate (n + 1) 0 = D at *
    have i1 : (k : Int) < 32 := by omega
    have i2 : k < 32 := by omega
    have w : IntKind.i64.wrap ((k : Int) + 1) = (k + 1 : Nat) := by rw [wrap_i64] <;> omega
    refine LoopW.go irRef05Seed_L1.eq_1 (by simp) ?_
    simp [-List.reduceReplicate, -getElem?_pos, i1, i2, hl, hx, krows_length, krows_get, kns_length, hlen, kns_set, w]
    exact hn
theorem refSeed_c (m : List Nat) (c : Int) (hl : m.length = 32) (hb : ∀ x ∈ m, x < 256) : ACall Try.prog 10 [.pagg (kns .u8 m), .pv (.int .i64 c)] [] (.pagg (kns .u8 (derF m c 2))) [] [] := by
  refine ACall.fn (fn := Try.f10) rfl okRef05Seed rfl (by simp) ?_
  simp only [argT, irRef05Seed.eq_1]
  have hc := refDerive_c m c 2 hl hb
  obtain ⟨hz, _⟩ := dig_der m c 2
  generalize derF m c 2 = z at *
  have hz0 : (List.replicate 32 (PV.int .u8 0)) = kns .u8 (z.take 0 ++ List.replicate 32 0) := by rw [List.take_zero, List.nil_append, ← kns_rep]
  simp [-List.reduceReplicate, kns_length, hl]
  refine CallG.go hc ?_
  simp [-List.reduceReplicate]
  have hq := rsdl z hz (List.replicate 32 (PV.int .u8 0)) 32 0 rfl
  rw [← hz0] at hq
  refine hq _ fun a b c => ?_
  simp [-List.reduceReplicate, kns_length, hz]
theorem ksig_head (seed : List Nat) (k : Nat) (t : List Nat) : (ksigF seed k t)[0]? = some k := rfl
theorem wakes_c : ACall Try.prog 7 [] [] (.pv (.bool true)) [] [] := by
  refine ACall.fn (fn := Try.f7) rfl okLaw05Wakes rfl (by simp) ?_
  simp only [argT, irLaw05Wakes.eq_1]
  have c1 := ksign_c (List.replicate 32 0) [] 5 (by decide) rfl (fun x hx => by rw [(List.mem_replicate.1 hx).2]; decide) (by simp) (by simp)
  have hl := ksig_len (List.replicate 32 0) 5 [] (by decide)
  have h0 := ksig_head (List.replicate 32 0) 5 []
  rw [← kns_rep] at c1
  generalize ksigF (List.replicate 32 0) 5 [] = s at *
  simp [-List.reduceReplicate]
  refine CallG.go c1 ?_
  simp [-List.reduceReplicate, -getElem?_pos, krows_length, hl, krows_get, h0]
end Go.Proofs.Ytlmjhnlhgmabpaa
