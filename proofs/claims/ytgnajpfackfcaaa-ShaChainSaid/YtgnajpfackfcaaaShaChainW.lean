/- The law ShaChain. -/
import Derived.Test.YtgnajpfackfcaaaShaP
import Derived.Test.YtgnajpfackfcaaaShaR
set_option linter.unusedVariables false
set_option linter.unusedSimpArgs false
namespace Go.Proofs.Ytgnajpfackfcaaa
open Go.Abs Go.RowKit Go.Ours

theorem lawChain_c (h : List Nat) (n m : Int) (hn : -9223372036854775808 ≤ n ∧ n < 9223372036854775808) (hm : -9223372036854775808 ≤ m ∧ m < 9223372036854775808) (hl : h.length = 32) (hb : ∀ x ∈ h, x < 256) : ACall Try.prog 4 [.pagg (kns .u8 h), .pv (.int .i64 n), .pv (.int .i64 m)] [] (.pv (.bool true)) [] [] := by
  refine ACall.fn (fn := Try.f4) rfl okLaw02ShaChain rfl (by simp) ?_
  simp only [argT, irLaw02ShaChain.eq_1]
  simp [-List.reduceReplicate]
  refine CallG.go wakes_c ?_
  by_cases h1 : 200 < n
  · simp [-List.reduceReplicate, h1]
  · by_cases h2 : 200 < m
    · simp [-List.reduceReplicate, h1, h2]
    · obtain ⟨p, hp, hp2⟩ : ∃ p : Nat, (if n < 0 then (0 : Int) else n) = p ∧ p = n.toNat := ⟨n.toNat, by split <;> omega, rfl⟩
      obtain ⟨q, hq, hq2⟩ : ∃ q : Nat, (if m < 0 then (0 : Int) else m) = q ∧ q = m.toNat := ⟨m.toNat, by split <;> omega, rfl⟩
      have c1 := chain_c h n (by omega) hl hb
      have c2 := refChain_c h n (by omega) hl hb
      have hl1 := chF_len n.toNat h hl
      have c3 := chain_c (chF n.toNat h) m (by omega) hl1 (chF_lt _ _ hb)
      have c4 := chain_c h ((p : Int) + q) (by omega) hl hb
      have e4 : ((p : Int) + q).toNat = n.toNat + m.toNat := by omega
      rw [e4, chF_add] at c4
      have hl3 := chF_len m.toNat (chF n.toNat h) hl1
      generalize chF m.toNat (chF n.toNat h) = y at *
      generalize chF n.toNat h = x at *
      have w : IntKind.i64.wrap ((p : Int) + q) = (p : Int) + q := by rw [wrap_i64] <;> omega
      simp [-List.reduceReplicate, h1, h2, kns_length, hl]
      refine CallG.go c1 ?_
      simp [-List.reduceReplicate, kns_length, hl, hl1]
      refine CallG.go c2 ?_
      simp [-List.reduceReplicate, kns_length, hl, hl1]
      refine CallG.go c3 ?_
      simp [-List.reduceReplicate, kns_length, hl, hl1, hp, hq, w]
      refine CallG.go c4 ?_
      simp [-List.reduceReplicate, kns_length, hl3]
theorem walkShaChain (c0 : Array Value) (a1 : Int) (a2 : Int) (w : World) (k0 : Shp.Reads w (.arr 32 (.int .u8)) c0.toList) (w1 : (Lit.int .i64 a1).wf = true) (w2 : (Lit.int .i64 a2).wf = true) :
     Calls Try.prog 4 #[.agg c0, .int .i64 a1, .int .i64 a2] w fun e w' => e = .returned (.bool true) ∧ Below w.heap.size w w' := by
  obtain ⟨l0, a0, n0, b0⟩ := arg_arr8 k0
  refine lawCalls (lawChain_c l0 a1 a2 (wf_i64 w1) (wf_i64 w2) n0 b0) rfl fun i v av hv ha => ?_
  match i with
  | 0 => cases hv; cases ha; exact a0
  | 1 => cases hv; cases ha; exact arg_int _ _
  | 2 => cases hv; cases ha; exact arg_int _ _
  | n + 3 => simp at hv
end Go.Proofs.Ytgnajpfackfcaaa
