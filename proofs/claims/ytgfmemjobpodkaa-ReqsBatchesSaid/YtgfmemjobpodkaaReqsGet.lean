/- What a request's bytes tell: contracts. -/
import Derived.Test.YtgfmemjobpodkaaReqsTxt
import Derived.Test.YtgfmemjobpodkaaNumsIrUf
set_option linter.unusedVariables false
set_option linter.unusedSimpArgs false
namespace Go.Proofs.Ytgfmemjobpodkaa
open Go.Abs Go.RowKit Go.Ours

theorem textL_c (r : Rq) (h : formedF r = true) (ha : I64 r.a) (hb : I64 r.b) : ACall Try.prog 26 [.pv (.sl 1 (krows .u8 (textR r)))] [] (.tup [.pagg (rqP { r with sig := [] }), .pv (.int .i64 0)]) [] [] := by
  refine ACall.fn (fn := Try.f26) rfl okReqsTextL rfl (by simp) ?_
  simp only [argT, irReqsTextL.eq_1]
  have hs := formed_small h
  have hlen := textR_len r ha hb
  obtain ⟨c, s, kd, ky, a, b, sg⟩ := r
  simp only at hs ha hb
  obtain ⟨c, rfl⟩ : ∃ n : Nat, c = n := ⟨c.toNat, by omega⟩
  obtain ⟨s, rfl⟩ : ∃ n : Nat, s = n := ⟨s.toNat, by omega⟩
  obtain ⟨kd, rfl⟩ : ∃ n : Nat, kd = n := ⟨kd.toNat, by omega⟩
  obtain ⟨ky, rfl⟩ : ∃ n : Nat, ky = n := ⟨ky.toNat, by omega⟩
  obtain ⟨t, ht⟩ : ∃ t, t = textR ⟨c, s, kd, ky, a, b, sg⟩ := ⟨_, rfl⟩
  rw [← ht] at hlen ⊢
  have ht2 : t = [c, s, kd, ky] ++ (packed (foldN a) ++ packed (foldN b)) := by rw [ht]; simp [textR, headR]
  have g0 : t[0]? = some c := by rw [ht2]; rfl
  have g1 : t[1]? = some s := by rw [ht2]; rfl
  have g2 : t[2]? = some kd := by rw [ht2]; rfl
  have g3 : t[3]? = some ky := by rw [ht2]; rfl
  have d4 : t.drop 4 = packed (foldN a) ++ packed (foldN b) := by rw [ht2]; rfl
  have d5 : t.drop (4 + (packed (foldN a)).length) = packed (foldN b) ++ [] := by rw [← List.drop_drop, d4, List.drop_left, List.append_nil]
  have le : 4 + (packed (foldN a)).length + (packed (foldN b)).length = t.length := by rw [ht2]; simp; omega
  have n0 := newr_c t (by omega)
  have f0 := fixed1_c t 0 c (by omega) g0 (by omega)
  have f1 := fixed1_c t 1 s (by omega) g1 (by omega)
  have f2 := fixed1_c t 2 kd (by omega) g2 (by omega)
  have f3 := fixed1_c t 3 ky (by omega) g3 (by omega)
  have f4 := folded_c t _ 4 a (by omega) ha d4
  have f5 := folded_c t _ _ b (by omega) hb d5
  have f6 := done0_c t _ (by omega) le
  have w0 : IntKind.i64.wrap (c : Int) = (c : Int) := by rw [wrap_i64] <;> omega
  have w1 : IntKind.i64.wrap (s : Int) = (s : Int) := by rw [wrap_i64] <;> omega
  have w2 : IntKind.i64.wrap (kd : Int) = (kd : Int) := by rw [wrap_i64] <;> omega
  have w3 : IntKind.i64.wrap (ky : Int) = (ky : Int) := by rw [wrap_i64] <;> omega
  simp only [Nat.zero_add, Nat.reduceAdd] at f0 f1 f2 f3
  generalize 4 + (packed (foldN a)).length + (packed (foldN b)).length = k6 at *
  generalize 4 + (packed (foldN a)).length = k5 at *
  generalize rdP t k6 = q6 at *
  generalize rdP t k5 = q5 at *
  generalize rdP t 4 = q4 at *
  generalize rdP t 3 = q3 at *
  generalize rdP t 2 = q2 at *
  generalize rdP t 1 = q1 at *
  generalize rdP t 0 = q0 at *
  simp [rqP]
  refine CallG.go n0 ?_
  simp
  refine LoopW.go irReqsTextL_L1.eq_1 (by simp) ?_
  simp
  refine CallG.go f0 ?_
  simp [w0]
  refine LoopW.go irReqsTextL_L1.eq_1 (by simp) ?_
  simp
  refine CallG.go f1 ?_
  simp [w1]
  refine LoopW.go irReqsTextL_L1.eq_1 (by simp) ?_
  simp
  refine CallG.go f2 ?_
  simp [w2]
  refine LoopW.go irReqsTextL_L1.eq_1 (by simp) ?_
  simp
  refine CallG.go f3 ?_
  simp [w3]
  refine LoopW.go irReqsTextL_L1.eq_1 (by simp) ?_
  simp
  refine LoopW.go irReqsTextL_L2.eq_1 (by simp) ?_
  simp
  refine CallG.go f4 ?_
  simp
  refine LoopW.go irReqsTextL_L2.eq_1 (by simp) ?_
  simp
  refine CallG.go f5 ?_
  simp
  refine LoopW.go irReqsTextL_L2.eq_1 (by simp) ?_
  simp
  refine CallG.go f6 ?_
  simp [krows]
theorem rget_c (r : Rq) (h : formedF r = true) (ha : I64 r.a) (hb : I64 r.b) : ACall Try.prog 11 [.pv (.sl 1 (krows .u8 (putR r)))] [] (.tup [.pagg (rqP r), .pv (.int .i64 0)]) [] [] := by
  refine ACall.fn (fn := Try.f11) rfl okReqsGet rfl (by simp) ?_
  simp only [argT, irReqsGet.eq_1]
  have hs := formed_small h
  have hlen := textR_len r ha hb
  have hp := packed_len64 (textR r).length (by omega)
  have hp2 := packed_len64 r.sig.length (by omega)
  have hl : (putR r).length = (txtR (textR r)).length + (txtR r.sig).length := by rw [putR, List.length_append]; rfl
  have hl1 : (txtR (textR r)).length ≤ 34 := by rw [txtR, List.length_append]; omega
  have hl2 : (txtR r.sig).length ≤ 1010 := by rw [txtR, List.length_append]; omega
  have n0 := newr_c (putR r) (by omega)
  have f0 := textAt_c (putR r) (txtR r.sig) (textR r) 0 100 (by omega) (by omega) (by omega) (Nat.zero_le _) rfl
  have d1 : (putR r).drop (0 + (txtR (textR r)).length) = txtR r.sig ++ [] := by
    rw [Nat.zero_add, List.append_nil]
    exact List.drop_left
  have f1 := textAt_c (putR r) [] r.sig _ 1000 (by omega) (by omega) (by omega) (by omega) d1
  have f2 := done0_c (putR r) (0 + (txtR (textR r)).length + (txtR r.sig).length) (by omega) (by omega)
  have c1 := textL_c r h ha hb
  have c2 := formed_c r
  rw [h] at c2
  generalize 0 + (txtR (textR r)).length + (txtR r.sig).length = k2 at *
  generalize 0 + (txtR (textR r)).length = k1 at *
  generalize putR r = b at *
  generalize textR r = t at *
  generalize rdP b k2 = q2 at *
  generalize rdP b k1 = q1 at *
  generalize rdP b 0 = q0 at *
  simp [rqP] at c1 c2 ⊢
  refine CallG.go n0 ?_
  simp
  refine CallG.go f0 ?_
  simp
  refine CallG.go c1 ?_
  simp
  refine CallG.go f1 ?_
  simp
  refine CallG.go f2 ?_
  simp
  refine CallG.go c2 ?_
  simp
end Go.Proofs.Ytgfmemjobpodkaa
