/- ots.Public's, Sign's, Recover's contracts, and the document's. -/
import Derived.Test.YtlmjhnlhgmabpaaOtsE
import Derived.Test.YtlmjhnlhgmabpaaOtsDR
set_option linter.unusedVariables false
set_option linter.unusedSimpArgs false
namespace Go.Proofs.Ytlmjhnlhgmabpaa
open Go.Abs Go.RowKit Go.Ours

theorem pub_step (seed : List Nat) (idx : Int) (n : Nat) : pubB seed idx (n + 1) = pubB seed idx n ++ walkF 15 (secF seed idx n) n 0 := by simp [pubB, List.range_succ]
theorem sig_step (seed : List Nat) (idx : Int) (t : List Nat) (n : Nat) : sigB seed idx t (n + 1) = sigB seed idx t n ++ walkF (dgt t n) (secF seed idx n) n 0 := by simp [sigB, List.range_succ]
theorem rec_step (t sig : List Nat) (n : Nat) : recB t sig (n + 1) = recB t sig n ++ walkF (15 - dgt t n) ((sig.drop (16 * n)).take 16) n (dgt t n) := by simp [recB, List.range_succ]
theorem pub_lt (seed : List Nat) (idx : Int) (n : Nat) : ∀ x ∈ pubB seed idx n, x < 256 := blocks_lt _ (fun j => walkF_lt _ _ _ _ (pieceF_lt _)) n
theorem sig_lt (seed : List Nat) (idx : Int) (t : List Nat) (n : Nat) : ∀ x ∈ sigB seed idx t n, x < 256 := blocks_lt _ (fun j => walkF_lt _ _ _ _ (pieceF_lt _)) n
theorem rec_lt (t sig : List Nat) (hb : ∀ x ∈ sig, x < 256) (n : Nat) : ∀ x ∈ recB t sig n, x < 256 := blocks_lt _ (fun j => walkF_lt _ _ _ _ (fun x hx => hb x (List.mem_of_mem_drop (List.mem_of_mem_take hx)))) n
theorem rec_len (t sig : List Nat) (hl : sig.length = 560) : ∀ n, n ≤ 35 → (recB t sig n).length = 16 * n
  | 0, _ => rfl
  | n + 1, h => by
    rw [rec_step, List.length_append, rec_len t sig hl n (by omega), walkF_len _ _ _ _ (by rw [List.length_take, List.length_drop]; omega)]
    omega
theorem ppl2 (seed : List Nat) (idx : Int) (z : List PV) (hl : seed.length = 32) (hb : ∀ x ∈ seed, x < 256) : ∀ (n k : Nat), k + n = 35 → ∀ (Q : Exit → S → Prop),
   (∀ a b c, Q (.exit 0) (mk [(1, a), (2, b), (4, .ptr 4 0), (5, .os 5 1 (krows .u8 (pubB seed idx 35))), (8, c), (9, .pv (.bool false))] [(4, .pagg z)])) →
   LoopW Try.prog [1, 2, 4, 5, 8] [4] irOtsPublic_L1 (mk [(1, .pv (.int .i64 idx)), (2, .rp (kns .u8 seed)), (4, .ptr 4 0), (5, .os 5 1 (krows .u8 (pubB seed idx k))), (8, .pv (.int .i64 (k : Nat)))] [(4, .pagg z)]) Q := by
  intro n
  induction n with
  | zero =>
    intro k hk Q hQ
    obtain rfl : k = 35 := by omega
    refine LoopW.go irOtsPublic_L1.eq_1 (by simp) ?_
    simp
    exact hQ _ _ _
  | succ n ih =>
    intro k hk Q hQ
    have hn := ih (k + 1) (by omega) Q hQ
    have hs := secret_c seed idx k hl hb (by omega)
    have hsl := secF_len seed idx k
    have hw := walk_c (secF seed idx k) k 0 15 hsl (pieceF_lt _) (by omega) (by omega)
    have hwl := walkF_len 15 (secF seed idx k) k 0 hsl
    rw [pub_step] at hn
    have hBl := pub_len seed idx k
    generalize walkF 15 (secF seed idx k) k 0 = y at *
    generalize secF seed idx k = s at *
    generalize pubB seed idx k = B at *
    have i1 : (k : Int) < 35 := by omega
    have i2 : k < 35 := by omega
    have w : IntKind.i64.wrap ((k : Int) + 1) = (k + 1 : Nat) := by rw [wrap_i64] <;> omega
    have ey : List.take 16 y = y := List.take_of_length_le (by omega)
    refine LoopW.go irOtsPublic_L1.eq_1 (by simp) ?_
    simp [-List.reduceReplicate, i1, i2, kns_length, hl]
    refine CallG.go hs ?_
    simp [-List.reduceReplicate]
    refine CallG.go hw ?_
    simp [-List.reduceReplicate, w, kns_length, hwl, kns_take, kns_rows, ey, krows_length, krows_app]
    exact ⟨by omega, hn⟩
theorem public_c (seed : List Nat) (idx : Int) (hl : seed.length = 32) (hb : ∀ x ∈ seed, x < 256) : ACall Try.prog 35 [.pagg (kns .u8 seed), .pv (.int .i64 idx)] [] (.pagg (kns .u8 (pubF seed idx))) [] [] := by
  refine ACall.fn (fn := Try.f35) rfl okOtsPublic rfl (by simp) ?_
  simp only [argT, irOtsPublic.eq_1]
  have hs := sum_c (pubB seed idx 35) (by rw [pub_len]; omega) (pub_lt seed idx 35)
  have hfl : (pubF seed idx).length = 32 := shaF_len _
  have hf : pubF seed idx = shaF (pubB seed idx 35) := rfl
  rw [← hf] at hs
  generalize pubF seed idx = y at *
  simp [-List.reduceReplicate]
  refine ppl2 seed idx _ hl hb 35 0 rfl _ fun a b c => ?_
  simp [-List.reduceReplicate]
  refine CallG.go hs ?_
  simp [-List.reduceReplicate, kns_length, hfl]
theorem rppl (seed : List Nat) (idx : Int) (z : AV) (hl : seed.length = 32) (hb : ∀ x ∈ seed, x < 256) : ∀ (n k : Nat), k + n = 35 → ∀ (Q : Exit → S → Prop),
   (∀ a b c d, Q (.exit 0) (mk [(1, a), (2, b), (4, .ptr 4 0), (5, .os 5 1 (krows .u8 (pubB seed idx 35))), (6, c), (7, d), (8, .pv (.bool false))] [(4, z)])) →
   LoopW Try.prog [1, 2, 4, 5, 6] [4] irRef04Public_L1 (mk [(1, .pv (.int .i64 idx)), (2, .rp (kns .u8 seed)), (4, .ptr 4 0), (5, .os 5 1 (krows .u8 (pubB seed idx k))), (6, .pv (.int .i64 (k : Nat)))] [(4, z)]) Q := by
  intro n
  induction n with
  | zero =>
    intro k hk Q hQ
    obtain rfl : k = 35 := by omega
    refine LoopW.go irRef04Public_L1.eq_1 (by simp) ?_
    simp
    exact hQ _ _ _ _
  | succ n ih =>
    intro k hk Q hQ
    have hn := ih (k + 1) (by omega) Q hQ
    have hs := refSecret_c seed idx k hl hb (by omega)
    have hsl := secF_len seed idx k
    have hw := refWalk_c (secF seed idx k) k 0 15 hsl (pieceF_lt _) (by omega) (by omega)
    have hwl := walkF_len 15 (secF seed idx k) k 0 hsl
    rw [pub_step] at hn
    have hBl := pub_len seed idx k
    generalize walkF 15 (secF seed idx k) k 0 = y at *
    generalize secF seed idx k = s at *
    generalize pubB seed idx k = B at *
    have i1 : (k : Int) < 35 := by omega
    have i2 : k < 35 := by omega
    have w : IntKind.i64.wrap ((k : Int) + 1) = (k + 1 : Nat) := by rw [wrap_i64] <;> omega
    refine LoopW.go irRef04Public_L1.eq_1 (by simp) ?_
    simp [i1, i2, kns_length, hl]
    refine CallG.go hs ?_
    simp
    refine CallG.go hw ?_
    simp [w, krows_length, krows_app]
    exact ⟨by omega, hn⟩
theorem refPublic_c (seed : List Nat) (idx : Int) (hl : seed.length = 32) (hb : ∀ x ∈ seed, x < 256) : ACall Try.prog 31 [.pagg (kns .u8 seed), .pv (.int .i64 idx)] [] (.pagg (kns .u8 (pubF seed idx))) [] [] := by
  refine ACall.fn (fn := Try.f31) rfl okRef04Public rfl (by simp) ?_
  simp only [argT, irRef04Public.eq_1]
  have hs := refSum_c (pubB seed idx 35) (by rw [pub_len]; omega) (pub_lt seed idx 35)
  have hfl : (pubF seed idx).length = 32 := shaF_len _
  have hf : pubF seed idx = shaF (pubB seed idx 35) := rfl
  rw [← hf] at hs
  generalize pubF seed idx = y at *
  simp [-List.reduceReplicate]
  refine rppl seed idx _ hl hb 35 0 rfl _ fun a b c d => ?_
  simp [-List.reduceReplicate]
  refine CallG.go hs ?_
  simp [-List.reduceReplicate, kns_length, hfl]
theorem sgl (seed t : List Nat) (idx : Int) (hl : seed.length = 32) (hb : ∀ x ∈ seed, x < 256) : ∀ (n k : Nat), k + n = 35 → ∀ (Q : Exit → S → Prop),
   (∀ a b c d, Q (.exit 0) (mk [(1, a), (3, b), (7, .os 5 1 (krows .u8 (sigB seed idx t 35))), (13, c), (14, d), (15, .pv (.bool false))] [])) →
   LoopW Try.prog [1, 3, 7, 13, 14] [] irOtsSign_L1 (mk [(1, .pv (.int .i64 idx)), (3, .rp (kns .u8 seed)), (7, .os 5 1 (krows .u8 (sigB seed idx t k))), (13, .pagg (kns .i64 (digs ((shaF t).take 16)))), (14, .pv (.int .i64 (k : Nat)))] []) Q := by
  intro n
  induction n with
  | zero =>
    intro k hk Q hQ
    obtain rfl : k = 35 := by omega
    refine LoopW.go irOtsSign_L1.eq_1 (by simp) ?_
    simp
    exact hQ _ _ _ _
  | succ n ih =>
    intro k hk Q hQ
    have hn := ih (k + 1) (by omega) Q hQ
    have hs := secret_c seed idx k hl hb (by omega)
    have hsl := secF_len seed idx k
    have hd := dgt_get t k (by omega)
    have hdl := dgt_lt t k
    rw [sig_step] at hn
    have hBl := sig_len seed idx t k
    generalize dgt t k = d at *
    have hw := walk_c (secF seed idx k) k 0 d hsl (pieceF_lt _) (by omega) (by omega)
    have hwl := walkF_len d (secF seed idx k) k 0 hsl
    rw [Nat.zero_add] at hw
    generalize walkF d (secF seed idx k) k 0 = y at *
    generalize secF seed idx k = s at *
    generalize sigB seed idx t k = B at *
    generalize digs ((shaF t).take 16) = D at *
    have i1 : (k : Int) < 35 := by omega
    have i2 : k < 35 := by omega
    have w : IntKind.i64.wrap ((k : Int) + 1) = (k + 1 : Nat) := by rw [wrap_i64] <;> omega
    have ey : List.take 16 y = y := List.take_of_length_le (by omega)
    refine LoopW.go irOtsSign_L1.eq_1 (by simp) ?_
    simp [-List.reduceReplicate, -getElem?_pos, i1, i2, kns_length, hl, kns_get, hd]
    refine CallG.go hs ?_
    simp [-List.reduceReplicate]
    refine CallG.go hw ?_
    simp [-List.reduceReplicate, w, kns_length, hwl, kns_take, kns_rows, ey, krows_length, krows_app]
    exact ⟨by omega, hn⟩
theorem sign_c (seed t : List Nat) (idx : Int) (hl : seed.length = 32) (hb : ∀ x ∈ seed, x < 256) (ht : t.length < 1000000000) (htb : ∀ x ∈ t, x < 256) : ACall Try.prog 32 [.pagg (kns .u8 seed), .pv (.int .i64 idx), .pv (.sl 1 (krows .u8 t))] [] (.os 5 1 (krows .u8 (sigB seed idx t 35))) [] [] := by
  refine ACall.fn (fn := Try.f32) rfl okOtsSign rfl (by simp) ?_
  simp only [argT, irOtsSign.eq_1]
  have hs := sum_c t ht htb
  have hdg := dig_c (shaF t) (shaF_len t) (shaF_lt t)
  simp
  refine CallG.go hs ?_
  simp
  refine CallG.go hdg ?_
  simp
  refine sgl seed t idx hl hb 35 0 rfl _ fun a b c d => ?_
  simp
theorem rsgl (seed t : List Nat) (idx : Int) (hl : seed.length = 32) (hb : ∀ x ∈ seed, x < 256) : ∀ (n k : Nat), k + n = 35 → ∀ (Q : Exit → S → Prop),
   (∀ a b c d e, Q (.exit 0) (mk [(1, a), (3, b), (7, c), (8, .os 5 1 (krows .u8 (sigB seed idx t 35))), (9, d), (13, e), (14, .pv (.bool false))] [])) →
   LoopW Try.prog [1, 3, 7, 8, 9] [] irRef04Sign_L1 (mk [(1, .pv (.int .i64 idx)), (3, .rp (kns .u8 seed)), (7, .os 3 1 (krows .i64 (digs ((shaF t).take 16)))), (8, .os 5 1 (krows .u8 (sigB seed idx t k))), (9, .pv (.int .i64 (k : Nat)))] []) Q := by
  intro n
  induction n with
  | zero =>
    intro k hk Q hQ
    obtain rfl : k = 35 := by omega
    refine LoopW.go irRef04Sign_L1.eq_1 (by simp) ?_
    simp
    exact hQ _ _ _ _ _
  | succ n ih =>
    intro k hk Q hQ
    have hn := ih (k + 1) (by omega) Q hQ
    have hs := refSecret_c seed idx k hl hb (by omega)
    have hsl := secF_len seed idx k
    have hd := dgt_get t k (by omega)
    have hdl := dgt_lt t k
    rw [sig_step] at hn
    have hBl := sig_len seed idx t k
    generalize dgt t k = d at *
    have hw := refWalk_c (secF seed idx k) k 0 d hsl (pieceF_lt _) (by omega) (by omega)
    have hwl := walkF_len d (secF seed idx k) k 0 hsl
    rw [Nat.zero_add] at hw
    generalize walkF d (secF seed idx k) k 0 = y at *
    generalize secF seed idx k = s at *
    generalize sigB seed idx t k = B at *
    generalize digs ((shaF t).take 16) = D at *
    have i1 : (k : Int) < 35 := by omega
    have i2 : k < 35 := by omega
    have w : IntKind.i64.wrap ((k : Int) + 1) = (k + 1 : Nat) := by rw [wrap_i64] <;> omega
    refine LoopW.go irRef04Sign_L1.eq_1 (by simp) ?_
    simp [-getElem?_pos, i1, i2, kns_length, hl, krows_get, hd]
    refine CallG.go hs ?_
    simp [-getElem?_pos, i1, i2, kns_length, hl, krows_get, hd]
    refine CallG.go hw ?_
    simp [w, krows_length, krows_app]
    exact ⟨by omega, hn⟩
theorem refSign_c (seed t : List Nat) (idx : Int) (hl : seed.length = 32) (hb : ∀ x ∈ seed, x < 256) (ht : t.length < 1000000000) (htb : ∀ x ∈ t, x < 256) : ACall Try.prog 29 [.pagg (kns .u8 seed), .pv (.int .i64 idx), .pv (.sl 1 (krows .u8 t))] [] (.os 5 1 (krows .u8 (sigB seed idx t 35))) [] [] := by
  refine ACall.fn (fn := Try.f29) rfl okRef04Sign rfl (by simp) ?_
  simp only [argT, irRef04Sign.eq_1]
  have hs := refSum_c t ht htb
  have hdg := rdig_c (shaF t) (shaF_len t) (shaF_lt t)
  simp
  refine CallG.go hs ?_
  simp
  refine CallG.go hdg ?_
  simp
  refine rsgl seed t idx hl hb 35 0 rfl _ fun a b c d e => ?_
  simp
theorem rcl (t sig : List Nat) (z : List PV) (hl : sig.length = 560) (hb : ∀ x ∈ sig, x < 256) : ∀ (n k : Nat), k + n = 35 → ∀ (Q : Exit → S → Prop),
   (∀ a c d, Q (.exit 0) (mk [(1, a), (4, .ptr 4 0), (6, .os 5 1 (krows .u8 (recB t sig 35))), (16, c), (17, d), (18, .pv (.bool false))] [(4, .pagg z)])) →
   LoopW Try.prog [1, 4, 6, 16, 17] [4] irOtsRecover_L1 (mk [(1, .pv (.sl 1 (krows .u8 sig))), (4, .ptr 4 0), (6, .os 5 1 (krows .u8 (recB t sig k))), (16, .pagg (kns .i64 (digs ((shaF t).take 16)))), (17, .pv (.int .i64 (k : Nat)))] [(4, .pagg z)]) Q := by
  intro n
  induction n with
  | zero =>
    intro k hk Q hQ
    obtain rfl : k = 35 := by omega
    refine LoopW.go irOtsRecover_L1.eq_1 (by simp) ?_
    simp
    exact hQ _ _ _
  | succ n ih =>
    intro k hk Q hQ
    have hn := ih (k + 1) (by omega) Q hQ
    have hd := dgt_get t k (by omega)
    have hdl := dgt_lt t k
    rw [rec_step] at hn
    have hBl := rec_len t sig hl k (by omega)
    generalize dgt t k = d at *
    have hpl : ((sig.drop (16 * k)).take 16).length = 16 := by rw [List.length_take, List.length_drop]; omega
    have hw := walk_c ((sig.drop (16 * k)).take 16) k d (15 - d) hpl (fun x hx => hb x (List.mem_of_mem_drop (List.mem_of_mem_take hx))) (by omega) (by omega)
    have hwl := walkF_len (15 - d) ((sig.drop (16 * k)).take 16) k d hpl
    rw [show d + (15 - d) = 15 by omega] at hw
    generalize walkF (15 - d) ((sig.drop (16 * k)).take 16) k d = y at *
    obtain ⟨j, hj⟩ : ∃ j, j = 16 * k := ⟨_, rfl⟩
    have v0 : IntKind.i64.wrap (16 * (k : Int)) = j := by rw [wrap_i64] <;> omega
    have v1 : IntKind.i64.wrap ((j : Int) + 16) = (j : Int) + 16 := by rw [wrap_i64] <;> omega
    have j1 : (j : Int) + 16 ≤ 560 := by omega
    have j2 : j + 16 ≤ 560 := by omega
    have hdt : ((krows .u8 sig).take (j + 16)).drop j = krows .u8 ((sig.drop (16 * k)).take 16) := by
      rw [krows_take, krows_drop, List.drop_take, hj, Nat.add_sub_cancel_left]
    generalize (sig.drop (16 * k)).take 16 = s at *
    generalize recB t sig k = B at *
    generalize digs ((shaF t).take 16) = D at *
    have i1 : (k : Int) < 35 := by omega
    have i2 : k < 35 := by omega
    have w : IntKind.i64.wrap ((k : Int) + 1) = (k + 1 : Nat) := by rw [wrap_i64] <;> omega
    have ey : List.take 16 y = y := List.take_of_length_le (by omega)
    refine LoopW.go irOtsRecover_L1.eq_1 (by simp) ?_
    simp [-List.reduceReplicate, -getElem?_pos, i1, i2, kns_length, hl, kns_get, hd, v0, v1, j1, j2, hdt, krows_length, krows_flat, hpl]
    refine ⟨by omega, ?_⟩
    refine CallG.go hw ?_
    simp [-List.reduceReplicate, w, kns_length, hwl, kns_take, kns_rows, ey, krows_length, krows_app]
    exact ⟨by omega, hn⟩
theorem recover_c (t sig : List Nat) (hl : sig.length = 560) (hb : ∀ x ∈ sig, x < 256) (ht : t.length < 1000000000) (htb : ∀ x ∈ t, x < 256) : ACall Try.prog 25 [.pv (.sl 1 (krows .u8 t)), .pv (.sl 1 (krows .u8 sig))] [] (.tup [.pagg (kns .u8 (recF t sig)), .pv (.int .i64 0)]) [] [] := by
  refine ACall.fn (fn := Try.f25) rfl okOtsRecover rfl (by simp) ?_
  simp only [argT, irOtsRecover.eq_1]
  have hs := sum_c t ht htb
  have hdg := dig_c (shaF t) (shaF_len t) (shaF_lt t)
  have hs2 := sum_c (recB t sig 35) (by rw [rec_len t sig hl 35 (by omega)]; omega) (rec_lt t sig hb 35)
  have hfl : (recF t sig).length = 32 := shaF_len _
  have hf : recF t sig = shaF (recB t sig 35) := rfl
  rw [← hf] at hs2
  generalize recF t sig = y at *
  simp [-List.reduceReplicate, krows_length, hl]
  refine CallG.go hs ?_
  simp [-List.reduceReplicate]
  refine CallG.go hdg ?_
  simp [-List.reduceReplicate]
  refine rcl t sig _ hl hb 35 0 rfl _ fun a c d => ?_
  simp [-List.reduceReplicate]
  refine CallG.go hs2 ?_
  simp [-List.reduceReplicate, kns_length, hfl]
theorem recover_bad (t sig : List Nat) (hl : sig.length ≠ 560) (hl2 : sig.length ≤ maxLen) : ACall Try.prog 25 [.pv (.sl 1 (krows .u8 t)), .pv (.sl 1 (krows .u8 sig))] [] (.tup [.pagg (kns .u8 (List.replicate 32 0)), .pv (.int .i64 2)]) [] [] := by
  refine ACall.fn (fn := Try.f25) rfl okOtsRecover rfl (by simp) ?_
  simp only [argT, irOtsRecover.eq_1]
  have h' : ¬ ((sig.length : Int) = 560) := by omega
  rw [← kns_rep]
  simp [-List.reduceReplicate, krows_length, hl, h']
theorem rrcl (t sig : List Nat) (z : AV) (hl : sig.length = 560) (hb : ∀ x ∈ sig, x < 256) : ∀ (n k : Nat), k + n = 35 → ∀ (Q : Exit → S → Prop),
   (∀ a c d e, Q (.exit 0) (mk [(1, a), (4, .ptr 4 0), (6, c), (7, .os 5 1 (krows .u8 (recB t sig 35))), (8, d), (16, e), (17, .pv (.bool false))] [(4, z)])) →
   LoopW Try.prog [1, 4, 6, 7, 8] [4] irRef04Recover_L1 (mk [(1, .pv (.sl 1 (krows .u8 sig))), (4, .ptr 4 0), (6, .os 3 1 (krows .i64 (digs ((shaF t).take 16)))), (7, .os 5 1 (krows .u8 (recB t sig k))), (8, .pv (.int .i64 (k : Nat)))] [(4, z)]) Q := by
  intro n
  induction n with
  | zero =>
    intro k hk Q hQ
    obtain rfl : k = 35 := by omega
    refine LoopW.go irRef04Recover_L1.eq_1 (by simp) ?_
    simp
    exact hQ _ _ _ _
  | succ n ih =>
    intro k hk Q hQ
    have hn := ih (k + 1) (by omega) Q hQ
    have hd := dgt_get t k (by omega)
    have hdl := dgt_lt t k
    rw [rec_step] at hn
    have hBl := rec_len t sig hl k (by omega)
    generalize dgt t k = d at *
    have hpl : ((sig.drop (16 * k)).take 16).length = 16 := by rw [List.length_take, List.length_drop]; omega
    have hw := refWalk_c ((sig.drop (16 * k)).take 16) k d (15 - d) hpl (fun x hx => hb x (List.mem_of_mem_drop (List.mem_of_mem_take hx))) (by omega) (by omega)
    have hwl := walkF_len (15 - d) ((sig.drop (16 * k)).take 16) k d hpl
    rw [show d + (15 - d) = 15 by omega] at hw
    generalize walkF (15 - d) ((sig.drop (16 * k)).take 16) k d = y at *
    obtain ⟨j, hj⟩ : ∃ j, j = 16 * k := ⟨_, rfl⟩
    have v0 : IntKind.i64.wrap (16 * (k : Int)) = j := by rw [wrap_i64] <;> omega
    have v1 : IntKind.i64.wrap ((j : Int) + 16) = (j : Int) + 16 := by rw [wrap_i64] <;> omega
    have j1 : (j : Int) + 16 ≤ 560 := by omega
    have j2 : j + 16 ≤ 560 := by omega
    have hdt : ((krows .u8 sig).take (j + 16)).drop j = krows .u8 ((sig.drop (16 * k)).take 16) := by
      rw [krows_take, krows_drop, List.drop_take, hj, Nat.add_sub_cancel_left]
    generalize (sig.drop (16 * k)).take 16 = s at *
    generalize recB t sig k = B at *
    generalize digs ((shaF t).take 16) = D at *
    have i1 : (k : Int) < 35 := by omega
    have i2 : k < 35 := by omega
    have w : IntKind.i64.wrap ((k : Int) + 1) = (k + 1 : Nat) := by rw [wrap_i64] <;> omega
    refine LoopW.go irRef04Recover_L1.eq_1 (by simp) ?_
    simp [-getElem?_pos, i1, i2, hl, krows_get, hd, v0, v1, j1, j2, hdt, krows_length]
    refine ⟨by omega, ?_⟩
    refine CallG.go hw ?_
    simp [w, krows_length, krows_app]
    exact ⟨by omega, hn⟩
theorem refRecover_c (t sig : List Nat) (hl : sig.length = 560) (hb : ∀ x ∈ sig, x < 256) (ht : t.length < 1000000000) (htb : ∀ x ∈ t, x < 256) : ACall Try.prog 27 [.pv (.sl 1 (krows .u8 t)), .pv (.sl 1 (krows .u8 sig))] [] (.tup [.pagg (kns .u8 (recF t sig)), .pv (.int .i64 0)]) [] [] := by
  refine ACall.fn (fn := Try.f27) rfl okRef04Recover rfl (by simp) ?_
  simp only [argT, irRef04Recover.eq_1]
  have hs := refSum_c t ht htb
  have hdg := rdig_c (shaF t) (shaF_len t) (shaF_lt t)
  have hs2 := refSum_c (recB t sig 35) (by rw [rec_len t sig hl 35 (by omega)]; omega) (rec_lt t sig hb 35)
  have hfl : (recF t sig).length = 32 := shaF_len _
  have hf : recF t sig = shaF (recB t sig 35) := rfl
  rw [← hf] at hs2
  generalize recF t sig = y at *
  simp [-List.reduceReplicate, krows_length, hl]
  refine CallG.go hs ?_
  simp [-List.reduceReplicate]
  refine CallG.go hdg ?_
  simp [-List.reduceReplicate]
  refine rrcl t sig _ hl hb 35 0 rfl _ fun a c d e => ?_
  simp [-List.reduceReplicate]
  refine CallG.go hs2 ?_
  simp [-List.reduceReplicate, kns_length, hfl]
theorem refRecover_bad (t sig : List Nat) (hl : sig.length ≠ 560) (hl2 : sig.length ≤ maxLen) : ACall Try.prog 27 [.pv (.sl 1 (krows .u8 t)), .pv (.sl 1 (krows .u8 sig))] [] (.tup [.pagg (kns .u8 (List.replicate 32 0)), .pv (.int .i64 2)]) [] [] := by
  refine ACall.fn (fn := Try.f27) rfl okRef04Recover rfl (by simp) ?_
  simp only [argT, irRef04Recover.eq_1]
  have h' : ¬ ((sig.length : Int) = 560) := by omega
  rw [← kns_rep]
  simp [-List.reduceReplicate, krows_length, hl, h']
end Go.Proofs.Ytlmjhnlhgmabpaa
