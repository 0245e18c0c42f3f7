/- A request's text and bytes: contracts. -/
import Derived.Test.YtgfmemjobpodkaaReqsIr
import Derived.Test.YtgfmemjobpodkaaNumsIrA
import Derived.Test.YtgfmemjobpodkaaNumsIrQ
import Derived.Test.YtgfmemjobpodkaaNumsIrT
import Derived.Test.YtgfmemjobpodkaaNumsIrJ
import Derived.Test.YtgfmemjobpodkaaNumsIrS
set_option linter.unusedVariables false
set_option linter.unusedSimpArgs false
namespace Go.Proofs.Ytgfmemjobpodkaa
open Go.Abs Go.RowKit Go.Ours

theorem formed_small {r : Rq} (h : formedF r = true) : 0 ≤ r.client ∧ r.client < 6 ∧ 1 ≤ r.seq ∧ r.seq ≤ 8 ∧ 1 ≤ r.kd ∧ r.kd ≤ 6 ∧ 0 ≤ r.ky ∧ r.ky ≤ 15 ∧ r.sig.length ≤ 1000 := by
  simp [formedF] at h
  obtain ⟨⟨h1, h2⟩, h3⟩ := h
  unfold opOk at h2
  split at h2
  · simp at h2
    omega
  · simp at h2
    omega
def headR (r : Rq) : List Nat := [r.client.toNat, r.seq.toNat, r.kd.toNat, r.ky.toNat]
def textR (r : Rq) : List Nat := headR r ++ packed (foldN r.a) ++ packed (foldN r.b)
theorem textR_len (r : Rq) (ha : I64 r.a) (hb : I64 r.b) : (textR r).length ≤ 24 := by
  have h1 := packed_len64 (foldN r.a) (foldN_lt _ ha)
  have h2 := packed_len64 (foldN r.b) (foldN_lt _ hb)
  simp [textR, headR]
  omega
theorem text_c (r : Rq) (ha : I64 r.a) (hb : I64 r.b) : ACall Try.prog 7 [.pagg (rqP r)] [] (.os 5 1 (krows .u8 (if formedF r then textR r else []))) [] [] := by
  refine ACall.fn (fn := Try.f7) rfl okReqsText rfl (by simp) ?_
  simp only [argT, irReqsText.eq_1]
  have c1 := formed_c r
  cases h : formedF r
  · rw [h] at c1
    simp [rqP] at c1 ⊢
    refine CallG.go c1 ?_
    simp [krows]
  · rw [h] at c1
    have hs := formed_small h
    obtain ⟨c, s, kd, ky, a, b, sg⟩ := r
    simp only at hs ha hb
    obtain ⟨c, rfl⟩ : ∃ n : Nat, c = n := ⟨c.toNat, by omega⟩
    obtain ⟨s, rfl⟩ : ∃ n : Nat, s = n := ⟨s.toNat, by omega⟩
    obtain ⟨kd, rfl⟩ : ∃ n : Nat, kd = n := ⟨kd.toNat, by omega⟩
    obtain ⟨ky, rfl⟩ : ∃ n : Nat, ky = n := ⟨ky.toNat, by omega⟩
    have p0 := put1_c [] c (by simp)
    have p1 := put1_c [c] s (by simp)
    have p2 := put1_c [c, s] kd (by simp)
    have p3 := put1_c [c, s, kd] ky (by simp)
    rw [Nat.mod_eq_of_lt (by omega)] at p0 p1 p2 p3
    have hl := packed_len64 (foldN a) (foldN_lt a ha)
    have p4 := putFolded_c [c, s, kd, ky] a (by simp) ha
    have p5 := putFolded_c ([c, s, kd, ky] ++ packed (foldN a)) b (by simp; omega) hb
    simp only [List.nil_append, List.cons_append] at p0 p1 p2 p3
    have w0 : IntKind.u64.wrap (c : Int) = (c : Int) := by simp [IntKind.wrap, IntKind.bits, IntKind.signed]; omega
    have w1 : IntKind.u64.wrap (s : Int) = (s : Int) := by simp [IntKind.wrap, IntKind.bits, IntKind.signed]; omega
    have w2 : IntKind.u64.wrap (kd : Int) = (kd : Int) := by simp [IntKind.wrap, IntKind.bits, IntKind.signed]; omega
    have w3 : IntKind.u64.wrap (ky : Int) = (ky : Int) := by simp [IntKind.wrap, IntKind.bits, IntKind.signed]; omega
    simp only [textR, headR, Int.toNat_natCast]
    generalize hq : [c, s, kd, ky] ++ packed (foldN a) = q4 at *
    generalize hq' : [c, s, kd, ky] = q3 at *
    generalize [c, s, kd] = q2 at *
    generalize [c, s] = q1 at *
    generalize [c] = q0 at *
    generalize foldN b = fb at *
    generalize foldN a = fa at *
    have r4 : List.replicate 4 (PV.int .i64 0) = [.int .i64 0, .int .i64 0, .int .i64 0, .int .i64 0] := rfl
    simp [rqP] at c1 ⊢
    refine CallG.go c1 ?_
    simp
    refine LoopW.go irReqsText_L1.eq_1 (by simp) ?_
    simp [w0]
    refine CallG.go p0 ?_
    simp
    refine LoopW.go irReqsText_L1.eq_1 (by simp) ?_
    simp [w1]
    refine CallG.go p1 ?_
    simp
    refine LoopW.go irReqsText_L1.eq_1 (by simp) ?_
    simp [w2]
    refine CallG.go p2 ?_
    simp
    refine LoopW.go irReqsText_L1.eq_1 (by simp) ?_
    simp [w3]
    refine CallG.go p3 ?_
    simp
    refine LoopW.go irReqsText_L1.eq_1 (by simp) ?_
    simp
    refine CallG.go p4 ?_
    simp
    refine CallG.go p5 ?_
    simp
def putR (r : Rq) : List Nat := txt (textR r) ++ txt r.sig
theorem rput_c (r : Rq) (ha : I64 r.a) (hb : I64 r.b) : ACall Try.prog 6 [.pagg (rqP r)] [] (.tup [.os 5 1 (krows .u8 (if formedF r then putR r else [])), .pv (.int .i64 (if formedF r then 0 else 15))]) [] [] := by
  refine ACall.fn (fn := Try.f6) rfl okReqsPut rfl (by simp) ?_
  simp only [argT, irReqsPut.eq_1]
  have c1 := formed_c r
  have c2 := text_c r ha hb
  have hl := textR_len r ha hb
  cases h : formedF r
  · rw [h] at c1
    simp [rqP] at c1 ⊢
    refine CallG.go c1 ?_
    simp [krows]
  · rw [h] at c1 c2
    have hs := formed_small h
    rw [if_pos rfl] at c2
    have hp := packed_len64 (textR r).length (by omega)
    have c3 := putText_c [] (textR r) (by simp) (by omega)
    have c4 := putText_c (txt (textR r)) r.sig (by rw [txt, List.length_append]; omega) (by omega)
    rw [List.nil_append] at c3
    unfold putR
    generalize textR r = t at *
    generalize txt t = t2 at *
    simp [rqP] at c1 c2 ⊢
    refine CallG.go c1 ?_
    simp
    refine CallG.go c2 ?_
    simp
    refine CallG.go c3 ?_
    simp
    refine CallG.go c4 ?_
    simp
theorem refText07_c (r : Rq) (h : formedF r = true) (ha : I64 r.a) (hb : I64 r.b) : ACall Try.prog 14 [.pagg (rqP r)] [] (.os 5 1 (krows .u8 (textR r))) [] [] := by
  refine ACall.fn (fn := Try.f14) rfl okRef07Text rfl (by simp) ?_
  simp only [argT, irRef07Text.eq_1]
  have hs := formed_small h
  obtain ⟨c, s, kd, ky, a, b, sg⟩ := r
  simp only at hs ha hb
  obtain ⟨c, rfl⟩ : ∃ n : Nat, c = n := ⟨c.toNat, by omega⟩
  obtain ⟨s, rfl⟩ : ∃ n : Nat, s = n := ⟨s.toNat, by omega⟩
  obtain ⟨kd, rfl⟩ : ∃ n : Nat, kd = n := ⟨kd.toNat, by omega⟩
  obtain ⟨ky, rfl⟩ : ∃ n : Nat, ky = n := ⟨ky.toNat, by omega⟩
  have hl := packed_len64 (foldN a) (foldN_lt a ha)
  have hl2 := packed_len64 (foldN b) (foldN_lt b hb)
  have p1 := refFold_c a ha
  have p2 := refPacked_c (foldN a) (foldN_lt a ha)
  have p3 := refFold_c b hb
  have p4 := refPacked_c (foldN b) (foldN_lt b hb)
  have w0 : IntKind.u8.wrap (c : Int) = (c : Int) := by simp [IntKind.wrap, IntKind.bits, IntKind.signed]; omega
  have w1 : IntKind.u8.wrap (s : Int) = (s : Int) := by simp [IntKind.wrap, IntKind.bits, IntKind.signed]; omega
  have w2 : IntKind.u8.wrap (kd : Int) = (kd : Int) := by simp [IntKind.wrap, IntKind.bits, IntKind.signed]; omega
  have w3 : IntKind.u8.wrap (ky : Int) = (ky : Int) := by simp [IntKind.wrap, IntKind.bits, IntKind.signed]; omega
  simp only [textR, headR, Int.toNat_natCast]
  have k4 : ([[.int .u8 (c : Int)], [.int .u8 (s : Int)], [.int .u8 (kd : Int)], [.int .u8 (ky : Int)]] : List (List PV)) = krows .u8 [c, s, kd, ky] := rfl
  have q4 : [c, s, kd, ky].length = 4 := rfl
  generalize [c, s, kd, ky] = q at *
  generalize foldN b = fb at *
  generalize foldN a = fa at *
  generalize packed fb = pb at *
  generalize packed fa = pa at *
  simp [rqP, w0, w1, w2, w3, k4, krows_length, q4]
  refine CallG.go p1 ?_
  simp
  refine CallG.go p2 ?_
  simp [krows_length, krows_app, q4]
  refine ⟨by omega, ?_⟩
  refine CallG.go p3 ?_
  simp
  refine CallG.go p4 ?_
  simp [krows_length, krows_app, q4]
  omega
theorem refPut07_c (r : Rq) (h : formedF r = true) (ha : I64 r.a) (hb : I64 r.b) : ACall Try.prog 13 [.pagg (rqP r)] [] (.os 5 1 (krows .u8 (putR r))) [] [] := by
  refine ACall.fn (fn := Try.f13) rfl okRef07Put rfl (by simp) ?_
  simp only [argT, irRef07Put.eq_1]
  have c2 := refText07_c r h ha hb
  have hl := textR_len r ha hb
  have hs := formed_small h
  have c3 := refText_c (textR r) (by omega)
  have c4 := refText_c r.sig (by omega)
  have hp := packed_len64 (textR r).length (by omega)
  have hp2 := packed_len64 r.sig.length (by omega)
  have c5 := join_c (txt (textR r)) (txt r.sig) (by rw [txt, List.length_append]; omega) (by rw [txt, List.length_append]; omega)
  unfold putR
  generalize textR r = t at *
  generalize txt t = t2 at *
  generalize txt r.sig = t3 at *
  simp [rqP] at c2 ⊢
  refine CallG.go c2 ?_
  simp
  refine CallG.go c3 ?_
  simp
  refine CallG.go c4 ?_
  simp
  refine CallG.go c5 ?_
  simp
end Go.Proofs.Ytgfmemjobpodkaa
