/- A request's text and bytes: contracts. -/
import Derived.Test.YtcceiicpploclaaReqsIr
import Derived.Test.YtcceiicpploclaaNumsIrA
import Derived.Test.YtcceiicpploclaaNumsIrQ
import Derived.Test.YtcceiicpploclaaNumsIrT
import Derived.Test.YtcceiicpploclaaNumsIrJ
import Derived.Test.YtcceiicpploclaaNumsIrS
set_option linter.unusedVariables false
set_option linter.unusedSimpArgs false
namespace Go.Proofs.Ytcceiicpploclaa
open Go.Abs Go.RowKit Go.Ours

theorem formed_small {r : Rq} (h : formedF r = true) : 0 ≤ r.client ∧ r.client < 6 ∧ 1 ≤ r.seq ∧ r.seq ≤ 8 ∧ 1 ≤ r.kd ∧ r.kd ≤ 6 ∧ 0 ≤ r.ky ∧ r.ky ≤ 15 ∧ r.sig.length ≤ 1000 := by
  simp [formedF] at h
  obtain ⟨⟨h1, h2⟩, h3⟩ := h
  unfold opOk at h2
  split at h2
  · simp at h2
    omega
  · simp at h2
    omega
def headR (r : Rq) : List Nat := [r.client.toNat, r.seq.toNat, r.kd.toNat, r.ky.toNat]
def textR (r : Rq) : List Nat := headR r ++ packed (foldN r.a) ++ packed (foldN r.b)
theorem textR_len (r : Rq) (ha : I64 r.a) (hb : I64 r.b) : (textR r).length ≤ 24 := by
  have h1 := packed_len64 (foldN r.a) (foldN_lt _ ha)
  have h2 := packed_len64 (foldN r.b) (foldN_lt _ hb)
  simp [textR, headR]
  omega
theorem text_c (r : Rq) (ha : I64 r.a) (hb : I64 r.b) : ACall Try.prog 30 [.pagg (rqP r)] [] (.os 5 1 (krows .u8 (if formedF r then textR r else []))) [] [] := by
  refine ACall.fn (fn := Try.f30) rfl okReqsText rfl (by simp) ?_
  simp only [argT, irReqsText.eq_1]
  have c1 := formed_c r
  cases h : formedF r
  · rw [h] at c1
    simp [rqP] at c1 ⊢
    refine CallG.go c1 ?_
    simp [krows]
  · rw [h] at c1
    have hs := formed_small h
    obtain ⟨c, s, kd, ky, a, b, sg⟩ := r
    simp only at hs ha hb
    obtain ⟨c, rfl⟩ : ∃ n : Nat, c = n := ⟨c.toNat, by omega⟩
    obtain ⟨s, rfl⟩ : ∃ n : Nat, s = n := ⟨s.toNat, by omega⟩
    obtain ⟨kd, rfl⟩ : ∃ n : Nat, kd = n := ⟨kd.toNat, by omega⟩
    obtain ⟨ky, rfl⟩ : ∃ n : Nat, ky = n := ⟨ky.toNat, by omega⟩
    have p0 := put1_c [] c (by simp)
    have p1 := put1_c [c] s (by simp)
    have p2 := put1_c [c, s] kd (by simp)
    have p3 := put1_c [c, s, kd] ky (by simp)
    rw [Nat.mod_eq_of_lt (by omega)] at p0 p1 p2 p3
    have hl := packed_len64 (foldN a) (foldN_lt a ha)
    have p4 := putFolded_c [c, s, kd, ky] a (by simp) ha
    have p5 := putFolded_c ([c, s, kd, ky] ++ packed (foldN a)) b (by simp; omega) hb
    simp only [List.nil_append, List.cons_append] at p0 p1 p2 p3
    have w0 : IntKind.u64.wrap (c : Int) = (c : Int) := by simp [IntKind.wrap, IntKind.bits, IntKind.signed]; omega
    have w1 : IntKind.u64.wrap (s : Int) = (s : Int) := by simp [IntKind.wrap, IntKind.bits, IntKind.signed]; omega
    have w2 : IntKind.u64.wrap (kd : Int) = (kd : Int) := by simp [IntKind.wrap, IntKind.bits, IntKind.signed]; omega
    have w3 : IntKind.u64.wrap (ky : Int) = (ky : Int) := by simp [IntKind.wrap, IntKind.bits, IntKind.signed]; omega
    simp only [textR, headR, Int.toNat_natCast]
    generalize hq : [c, s, kd, ky] ++ packed (foldN a) = q4 at *
    generalize hq' : [c, s, kd, ky] = q3 at *
    generalize [c, s, kd] = q2 at *
    generalize [c, s] = q1 at *
    generalize [c] = q0 at *
    generalize foldN b = fb at *
    generalize foldN a = fa at *
    have r4 : List.replicate 4 (PV.int .i64 0) = [.int .i64 0, .int .i64 0, .int .i64 0, .int .i64 0] := rfl
    simp [rqP] at c1 ⊢
    refine CallG.go c1 ?_
    simp
    refine LoopW.go irReqsText_L1.eq_1 (by simp) ?_
    simp [w0]
    refine CallG.go p0 ?_
    simp
    refine LoopW.go irReqsText_L1.eq_1 (by simp) ?_
    simp [w1]
    refine CallG.go p1 ?_
    simp
    refine LoopW.go irReqsText_L1.eq_1 (by simp) ?_
    simp [w2]
    refine CallG.go p2 ?_
    simp
    refine LoopW.go irReqsText_L1.eq_1 (by simp) ?_
    simp [w3]
    refine CallG.go p3 ?_
    simp
    refine LoopW.go irReqsText_L1.eq_1 (by simp) ?_
    simp
    refine CallG.go p4 ?_
    simp
    refine CallG.go p5 ?_
    simp
def putR (r : Rq) : List Nat := txt (textR r) ++ txt r.sig
theorem rput_c (r : Rq) (ha : I64 r.a) (hb : I64 r.b) : ACall Try.prog 24 [.pagg (rqP r)] [] (.tup [.os 5 1 (krows .u8 (if formedF r then putR r else [])), .pv (.int .i64 (if formedF r then 0 else 15))]) [] [] := by
  refine ACall.fn (fn := Try.f24) rfl okReqsPut rfl (by simp) ?_
  simp only [argT, irReqsPut.eq_1]
  have c1 := formed_c r
  have c2 := text_c r ha hb
  have hl := textR_len r ha hb
  cases h : formedF r
  · rw [h] at c1
    simp [rqP] at c1 ⊢
    refine CallG.go c1 ?_
    simp [krows]
  · rw [h] at c1 c2
    have hs := formed_small h
    rw [if_pos rfl] at c2
    have hp := packed_len64 (textR r).length (by omega)
    have c3 := putText_c [] (textR r) (by simp) (by omega)
    have c4 := putText_c (txt (textR r)) r.sig (by rw [txt, List.length_append]; omega) (by omega)
    rw [List.nil_append] at c3
    unfold putR
    generalize textR r = t at *
    generalize txt t = t2 at *
    simp [rqP] at c1 c2 ⊢
    refine CallG.go c1 ?_
    simp
    refine CallG.go c2 ?_
    simp
    refine CallG.go c3 ?_
    simp
    refine CallG.go c4 ?_
    simp
end Go.Proofs.Ytcceiicpploclaa
