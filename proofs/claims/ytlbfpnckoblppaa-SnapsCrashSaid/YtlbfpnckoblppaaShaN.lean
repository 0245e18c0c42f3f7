/- consistoryref02.Sum's contract: the same digest. -/
import Derived.Test.YtlbfpnckoblppaaShaM
set_option linter.unusedVariables false
set_option linter.unusedSimpArgs false
namespace Go.Proofs.Ytlbfpnckoblppaa
open Go.Abs Go.RowKit Go.Ours

theorem krows_app' (k : IntKind) (l m : List Nat) : krows k l ++ krows k m = krows k (l ++ m) := by simp [krows]
theorem shaF_nats (t : List Nat) : ∃ S : List Nat, S.length = 8 ∧ (∀ n ∈ S, n < 4294967296) ∧ run ((pad t t.length).length / 64) s0W (pad t t.length) = S.map (fun n : Nat => (n : Int)) ∧ shaF t = S.flatMap (fx 4) := by
  obtain ⟨S, h1, h2⟩ := u32_nats (run_rng ((pad t t.length).length / 64) s0W (pad t t.length) s0_rng)
  have hl := run_len ((pad t t.length).length / 64) s0W (pad t t.length) rfl
  refine ⟨S, by rw [h1] at hl; simpa using hl, h2, h1, ?_⟩
  unfold shaF
  rw [h1, told_nat]
theorem shaF_len (t : List Nat) : (shaF t).length = 32 := by
  obtain ⟨S, h1, _, _, h4⟩ := shaF_nats t
  rw [h4, told_len, h1]
theorem shaF_lt (t : List Nat) : ∀ y ∈ shaF t, y < 256 := by
  obtain ⟨S, _, _, _, h4⟩ := shaF_nats t
  rw [h4]
  intro y hy
  obtain ⟨x, _, hx⟩ := List.mem_flatMap.1 hy
  exact fx_lt _ _ y hx
theorem refSum_c (t : List Nat) (ht : t.length < 1000000000) (hb : ∀ x ∈ t, x < 256) : ACall Try.prog 36 [.pv (.sl 1 (krows .u8 t))] [] (.pagg (kns .u8 (shaF t))) [] [] := by
  refine ACall.fn (fn := Try.f36) rfl okRef02Sum rfl (by simp) ?_
  simp only [argT, irRef02Sum.eq_1]
  obtain ⟨S, hS1, hS2, hS3, hS4⟩ := shaF_nats t
  have k0 : krows .u8 t ++ [[.int .u8 128]] = krows .u8 (t ++ [128]) := krows_one .u8 t 128
  have hplt := pad_lt t t.length hb
  have hpl := pad_len t t.length
  have hpl2 : (pad t t.length).length < 1000000000000 := by
    simp [pad, fx_len, padz]; omega
  have hpd : pad t t.length = (t ++ [128] ++ List.replicate (padz t.length) 0) ++ fx 8 (t.length * 8) := rfl
  have hLl : (t ++ [128] ++ List.replicate (padz t.length) 0).length ≤ 2000000000 := by simp [padz]; omega
  have hc := fixed_c (t.length * 8) 8 (by omega) (Or.inr rfl)
  have hfl := fx_len 8 (t.length * 8)
  have w1 : IntKind.u64.wrap (t.length : Int) = t.length := by rw [wrap_u64] <;> omega
  have w2 : IntKind.u64.wrap (8 * (t.length : Int)) = ((t.length * 8 : Nat) : Int) := by rw [wrap_u64] <;> omega
  simp [-List.reduceReplicate, krows_length, k0]
  refine ⟨by omega, by omega, ?_⟩
  refine qdl _ _ (padz t.length) (t ++ [128]) (by unfold padz; omega) (by unfold padz; simp; omega) (by unfold padz; simp; omega) _ fun a b => ?_
  generalize pad t t.length = p at *
  generalize t ++ [128] ++ List.replicate (padz t.length) 0 = L at *
  generalize fx 8 (t.length * 8) = F at *
  generalize t.length * 8 = N at *
  simp [-List.reduceReplicate, krows_length, w1, w2]
  refine CallG.go hc ?_
  simp [-List.reduceReplicate, krows_length, krows_app', ← hpd]
  refine ⟨by omega, ?_⟩
  refine ql2 _ p hplt hpl2 (p.length / 64) 0 s0W rfl (by omega) _ fun a b c d => ?_
  simp only [Nat.mul_zero, List.drop_zero, hS3, kirows_nat]
  have h0 : List.replicate 32 (PV.int .u8 0) = kns .u8 ((S.flatMap (fx 4)).take 0 ++ List.replicate 32 0) := by rw [kns_rep]; rfl
  simp [-List.reduceReplicate]
  rw [hS4]
  have hq := ql3 (.pagg (List.replicate 32 (.int .u8 0))) S hS1 hS2 32 0 rfl
  rw [← h0] at hq
  refine hq _ fun a b c => ?_
  have hl := told_len S
  simp [-List.reduceReplicate, kns_length, hl, hS1]
end Go.Proofs.Ytlbfpnckoblppaa
