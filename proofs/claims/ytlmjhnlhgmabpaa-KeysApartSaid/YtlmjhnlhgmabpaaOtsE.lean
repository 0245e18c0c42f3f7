/- ots' contracts: pieces, chains, secrets. -/
import Derived.Test.YtlmjhnlhgmabpaaPlainChain
import Derived.Test.YtlmjhnlhgmabpaaShaQ
import Derived.Test.YtlmjhnlhgmabpaaIrOts
set_option linter.unusedVariables false
set_option linter.unusedSimpArgs false
namespace Go.Proofs.Ytlmjhnlhgmabpaa
open Go.Abs Go.RowKit Go.Ours

theorem cut_c (t : List Nat) (ht : t.length < 1000000000) (hb : ∀ x ∈ t, x < 256) : ACall Try.prog 58 [.pv (.sl 1 (krows .u8 t))] [] (.pagg (kns .u8 (pieceF t))) [] [] := by
  refine ACall.fn (fn := Try.f58) rfl okOtsCut rfl (by simp) ?_
  simp only [argT, irOtsCut.eq_1]
  have hs := sum_c t ht hb
  have hl := shaF_len t
  have hp : pieceF t = (shaF t).take 16 := rfl
  have hpl := pieceF_len t
  generalize pieceF t = z at *
  generalize shaF t = y at *
  simp [-List.reduceReplicate]
  refine CallG.go hs ?_
  simp [-List.reduceReplicate, kns_length, hl, kns_take, ← hp, hpl]
theorem rep2 (x : List PV) : List.replicate 2 x = [x, x] := rfl
theorem step_c (p : List Nat) (j s : Nat) (hp : p.length = 16) (hb : ∀ x ∈ p, x < 256) (hj : j < 256) (hs : s < 256) : ACall Try.prog 56 [.pagg (kns .u8 p), .pv (.int .i64 (j : Nat)), .pv (.int .i64 (s : Nat))] [] (.pagg (kns .u8 (stepF p j s))) [] [] := by
  refine ACall.fn (fn := Try.f56) rfl okOtsStep rfl (by simp) ?_
  simp only [argT, irOtsStep.eq_1]
  have hc := cut_c (p ++ [j, s]) (by simp [hp]) (fun x hx => by
    rcases List.mem_append.1 hx with h | h
    · exact hb x h
    · simp at h; omega)
  have hpl := pieceF_len (p ++ [j, s])
  have hst : stepF p j s = pieceF (p ++ [j, s]) := rfl
  rw [← hst] at hc hpl
  generalize stepF p j s = z at *
  have e1 : IntKind.u8.wrap (j : Int) = j := by rw [wrap_u8] <;> omega
  have e2 : IntKind.u8.wrap (s : Int) = s := by rw [wrap_u8] <;> omega
  have ep : List.take 16 p = p := List.take_of_length_le (by omega)
  simp [-List.reduceReplicate, kns_length, hp, kns_take, kns_rows, ep, e1, e2, rep2, krows_length, krows_two]
  refine CallG.go hc ?_
  simp [-List.reduceReplicate, kns_length, hpl]
theorem wkl (z : AV) (j : Nat) (hj : j < 256) : ∀ (n s : Nat) (p : List Nat), s + n ≤ 255 → p.length = 16 → (∀ x ∈ p, x < 256) → ∀ (Q : Exit → S → Prop),
   (∀ a b c d e, Q (.exit 0) (mk [(1, a), (3, b), (4, .ptr 4 0), (8, .ptr 8 0), (9, c), (11, d), (12, e), (13, .pv (.bool false))] [(4, .pagg (kns .u8 (walkF n p j s))), (8, z)])) →
   LoopW Try.prog [1, 3, 4, 8, 9] [4, 8] irOtsWalk_L1 (mk [(1, .pv (.int .i64 (j : Nat))), (3, .pv (.int .i64 (s + n : Nat))), (4, .ptr 4 0), (8, .ptr 8 0), (9, .pv (.int .i64 (s : Nat)))] [(4, .pagg (kns .u8 p)), (8, z)]) Q := by
  intro n
  induction n with
  | zero =>
    intro s p hs hp hb Q hQ
    refine LoopW.go irOtsWalk_L1.eq_1 (by simp) ?_
    simp
    exact hQ _ _ _ _ _
  | succ n ih =>
    intro s p hs hp hb Q hQ
    have hc := step_c p j s hp hb hj (by omega)
    have hl : (stepF p j s).length = 16 := pieceF_len _
    have hn := ih (s + 1) (stepF p j s) (by omega) hl (pieceF_lt _) Q hQ
    obtain ⟨e, he⟩ : ∃ e, e = s + (n + 1) := ⟨_, rfl⟩
    rw [show s + 1 + n = e by omega] at hn
    rw [← he]
    generalize stepF p j s = y at *
    have i1 : (s : Int) < (e : Int) := by omega
    have i2 : s < e := by omega
    have w : IntKind.i64.wrap ((s : Int) + 1) = (s + 1 : Nat) := by rw [wrap_i64] <;> omega
    refine LoopW.go irOtsWalk_L1.eq_1 (by simp) ?_
    simp [i1, i2, kns_length, hp]
    refine CallG.go hc ?_
    simp [w, kns_length, hp, hl]
    exact hn
theorem walk_c (p : List Nat) (j s n : Nat) (hp : p.length = 16) (hb : ∀ x ∈ p, x < 256) (hj : j < 256) (hs : s + n ≤ 255) : ACall Try.prog 39 [.pagg (kns .u8 p), .pv (.int .i64 (j : Nat)), .pv (.int .i64 (s : Nat)), .pv (.int .i64 (s + n : Nat))] [] (.pagg (kns .u8 (walkF n p j s))) [] [] := by
  refine ACall.fn (fn := Try.f39) rfl okOtsWalk rfl (by simp) ?_
  simp only [argT, irOtsWalk.eq_1]
  have hl := walkF_len n p j s hp
  have hq := wkl (.pagg (List.replicate 16 (.int .u8 0))) j hj n s p hs hp hb
  obtain ⟨e, he⟩ : ∃ e, e = s + n := ⟨_, rfl⟩
  rw [← he] at hq ⊢
  simp [-List.reduceReplicate]
  refine hq _ fun a b c d f => ?_
  simp [-List.reduceReplicate, kns_length, hl]
theorem sec_b (seed : List Nat) (idx : Int) (j : Nat) (hl : seed.length = 32) (hb : ∀ x ∈ seed, x < 256) (hj : j < 256) : (seed ++ fx 8 (uw idx) ++ [j]).length = 41 ∧ ∀ x ∈ seed ++ fx 8 (uw idx) ++ [j], x < 256 := by
  refine ⟨by simp [hl, fx_len], fun x hx => ?_⟩
  rcases List.mem_append.1 hx with hx | hx
  · rcases List.mem_append.1 hx with hx | hx
    · exact hb x hx
    · exact fx_lt _ _ x hx
  · simp at hx; omega
theorem secret_c (seed : List Nat) (idx : Int) (j : Nat) (hl : seed.length = 32) (hb : ∀ x ∈ seed, x < 256) (hj : j < 256) : ACall Try.prog 45 [.pagg (kns .u8 seed), .pv (.int .i64 idx), .pv (.int .i64 (j : Nat))] [] (.pagg (kns .u8 (secF seed idx j))) [] [] := by
  refine ACall.fn (fn := Try.f45) rfl okOtsSecret rfl (by simp) ?_
  simp only [argT, irOtsSecret.eq_1]
  obtain ⟨h1, h2⟩ := sec_b seed idx j hl hb hj
  have c1 := put8_c seed (uw idx) (by omega)
  have c2 := cut_c (seed ++ fx 8 (uw idx) ++ [j]) (by omega) h2
  have hpl : (secF seed idx j).length = 16 := pieceF_len _
  have hst : secF seed idx j = pieceF (seed ++ fx 8 (uw idx) ++ [j]) := rfl
  rw [← hst] at c2
  generalize secF seed idx j = z at *
  have w1 := uw_wrap idx
  have e1 : IntKind.u8.wrap (j : Int) = j := by rw [wrap_u8] <;> omega
  have ep : List.take 32 seed = seed := List.take_of_length_le (by omega)
  have hfl := fx_len 8 (uw idx)
  generalize fx 8 (uw idx) = F at *
  simp [-List.reduceReplicate, kns_length, hl, kns_take, kns_rows, ep, w1]
  refine CallG.go c1 ?_
  simp [-List.reduceReplicate, e1, krows_length, krows_one]
  refine ⟨by omega, ?_⟩
  rw [← List.append_assoc]
  refine CallG.go c2 ?_
  simp [-List.reduceReplicate, kns_length, hpl]
theorem refPiece_c (t : List Nat) (ht : t.length < 1000000000) (hb : ∀ x ∈ t, x < 256) : ACall Try.prog 57 [.pv (.sl 1 (krows .u8 t))] [] (.pv (.sl 1 (krows .u8 (pieceF t)))) [] [] := by
  refine ACall.fn (fn := Try.f57) rfl okRef04Piece rfl (by simp) ?_
  simp only [argT, irRef04Piece.eq_1]
  have hs := refSum_c t ht hb
  have hl := shaF_len t
  have hp : pieceF t = (shaF t).take 16 := rfl
  generalize pieceF t = z at *
  generalize shaF t = y at *
  simp
  refine CallG.go hs ?_
  simp
  refine CallG.go (bytes_c y hl) ?_
  simp [krows_length, hl, krows_take, ← hp]
theorem rwkl (j : Nat) (hj : j < 256) : ∀ (n s : Nat) (p : List Nat), s + n ≤ 255 → p.length = 16 → (∀ x ∈ p, x < 256) → ∀ (Q : Exit → S → Prop),
   (∀ a b c d e, Q (.exit 0) (mk [(0, .pv (.sl 1 (krows .u8 (walkF n p j s)))), (1, a), (3, b), (9, c), (12, d), (13, e), (14, .pv (.bool false))] [])) →
   LoopW Try.prog [0, 1, 3, 9] [] irRef04Walk_L1 (mk [(0, .pv (.sl 1 (krows .u8 p))), (1, .pv (.int .i64 (j : Nat))), (3, .pv (.int .i64 (s + n : Nat))), (9, .pv (.int .i64 (s : Nat)))] []) Q := by
  intro n
  induction n with
  | zero =>
    intro s p hs hp hb Q hQ
    refine LoopW.go irRef04Walk_L1.eq_1 (by simp) ?_
    simp
    exact hQ _ _ _ _ _
  | succ n ih =>
    intro s p hs hp hb Q hQ
    have hc := refPiece_c (p ++ [j, s]) (by simp [hp]) (fun x hx => by
      rcases List.mem_append.1 hx with h | h
      · exact hb x h
      · simp at h; omega)
    have hl : (stepF p j s).length = 16 := pieceF_len _
    have hn := ih (s + 1) (stepF p j s) (by omega) hl (pieceF_lt _) Q hQ
    have hst : stepF p j s = pieceF (p ++ [j, s]) := rfl
    rw [← hst] at hc
    obtain ⟨e, he⟩ : ∃ e, e = s + (n + 1) := ⟨_, rfl⟩
    rw [show s + 1 + n = e by omega] at hn
    rw [← he]
    generalize stepF p j s = y at *
    have i1 : (s : Int) < (e : Int) := by omega
    have i2 : s < e := by omega
    have w : IntKind.i64.wrap ((s : Int) + 1) = (s + 1 : Nat) := by rw [wrap_i64] <;> omega
    have e1 : IntKind.u8.wrap (j : Int) = j := by rw [wrap_u8] <;> omega
    have e2 : IntKind.u8.wrap (s : Int) = s := by rw [wrap_u8] <;> omega
    refine LoopW.go irRef04Walk_L1.eq_1 (by simp) ?_
    simp [i1, i2, krows_length, hp, e1, e2, krows_two]
    refine CallG.go hc ?_
    simp [w]
    exact hn
theorem refWalk_c (p : List Nat) (j s n : Nat) (hp : p.length = 16) (hb : ∀ x ∈ p, x < 256) (hj : j < 256) (hs : s + n ≤ 255) : ACall Try.prog 42 [.pv (.sl 1 (krows .u8 p)), .pv (.int .i64 (j : Nat)), .pv (.int .i64 (s : Nat)), .pv (.int .i64 (s + n : Nat))] [] (.pv (.sl 1 (krows .u8 (walkF n p j s)))) [] [] := by
  refine ACall.fn (fn := Try.f42) rfl okRef04Walk rfl (by simp) ?_
  simp only [argT, irRef04Walk.eq_1]
  have hq := rwkl j hj n s p hs hp hb
  obtain ⟨e, he⟩ : ∃ e, e = s + n := ⟨_, rfl⟩
  rw [← he] at hq ⊢
  simp
  refine hq _ fun a b c d f => ?_
  simp
theorem refSecret_c (seed : List Nat) (idx : Int) (j : Nat) (hl : seed.length = 32) (hb : ∀ x ∈ seed, x < 256) (hj : j < 256) : ACall Try.prog 44 [.pagg (kns .u8 seed), .pv (.int .i64 idx), .pv (.int .i64 (j : Nat))] [] (.pv (.sl 1 (krows .u8 (secF seed idx j)))) [] [] := by
  refine ACall.fn (fn := Try.f44) rfl okRef04Secret rfl (by simp) ?_
  simp only [argT, irRef04Secret.eq_1]
  obtain ⟨h1, h2⟩ := sec_b seed idx j hl hb hj
  have c1 := fixed_c (uw idx) 8 (uw_lt idx) (Or.inr rfl)
  have c2 := refPiece_c (seed ++ fx 8 (uw idx) ++ [j]) (by omega) h2
  have hst : secF seed idx j = pieceF (seed ++ fx 8 (uw idx) ++ [j]) := rfl
  rw [← hst] at c2
  generalize secF seed idx j = z at *
  have w1 := uw_wrap idx
  have e1 : IntKind.u8.wrap (j : Int) = j := by rw [wrap_u8] <;> omega
  have hfl := fx_len 8 (uw idx)
  generalize fx 8 (uw idx) = F at *
  simp [kns_length, hl]
  refine CallG.go (bytes_c seed hl) ?_
  simp [w1]
  refine CallG.go c1 ?_
  simp [krows_length, krows_app, e1, krows_one]
  refine ⟨by omega, by omega, ?_⟩
  rw [← List.append_assoc]
  refine CallG.go c2 ?_
  simp
end Go.Proofs.Ytlmjhnlhgmabpaa
