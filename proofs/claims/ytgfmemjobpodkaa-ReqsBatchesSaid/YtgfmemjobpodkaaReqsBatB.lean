/- A batch's bytes: contracts. -/
import Derived.Test.YtgfmemjobpodkaaReqsBatA
import Derived.Test.YtgfmemjobpodkaaReqsGet
import Derived.Test.YtgfmemjobpodkaaArgTxt
set_option linter.unusedVariables false
set_option linter.unusedSimpArgs false
namespace Go.Proofs.Ytgfmemjobpodkaa
open Go.Abs Go.RowKit Go.Ours

/-- The bytes of requests, each ahead of its length. -/
def reqsBy : List Rq → List Nat
  | [] => []
  | r :: l => txt (putR r) ++ reqsBy l
theorem reqsBy_app (l m : List Rq) : reqsBy (l ++ m) = reqsBy l ++ reqsBy m := by
  induction l with
  | nil => rfl
  | cons r l ih => simp [reqsBy, ih]
def OkR (r : Rq) : Prop := formedF r = true ∧ I64 r.a ∧ I64 r.b
theorem putR_len {r : Rq} (h : OkR r) : (putR r).length ≤ 1100 ∧ (txt (putR r)).length ≤ 1110 := by
  have hs := formed_small h.1
  have hl := textR_len r h.2.1 h.2.2
  have hp := packed_len64 (textR r).length (by omega)
  have hp2 := packed_len64 r.sig.length (by omega)
  have e : (putR r).length ≤ 1100 := by rw [putR, List.length_append, txt, txt, List.length_append, List.length_append]; omega
  have hp3 := packed_len64 (putR r).length (by omega)
  refine ⟨e, ?_⟩
  rw [txt, List.length_append]
  omega
theorem reqsBy_len : ∀ {l : List Rq}, (∀ r ∈ l, OkR r) → (reqsBy l).length ≤ 1110 * l.length
  | [], _ => Nat.le_refl _
  | r :: l, h => by
    have h1 := (putR_len (h r (by simp))).2
    have h2 := reqsBy_len (l := l) fun q hq => h q (by simp [hq])
    simp only [reqsBy, List.length_append, List.length_cons]
    omega
theorem okFrom_mem : ∀ {l pre : List Rq}, okFrom pre l = true → ∀ r ∈ l, formedF r = true
  | [], _, _, r, hr => by simp at hr
  | q :: l, pre, h, r, hr => by
    simp only [okFrom, Bool.and_eq_true] at h
    rcases List.mem_cons.1 hr with rfl | hr
    · have := h.1
      simp only [okAt, Bool.and_eq_true] at this
      exact this.1
    · exact okFrom_mem h.2 r hr
theorem putl (l : List Rq) (ll : l.length ≤ 4) (h : ∀ r ∈ l, OkR r) (b0 : List Nat) (hb : b0.length ≤ 100) : ∀ (n k : Nat), k + n = l.length → ∀ (Q : Exit → S → Prop),
    (∀ a b c d e, Q (.exit 0) (mk [(4, .os 5 1 (krows .u8 (b0 ++ reqsBy l))), (16, a), (17, b), (18, c), (19, d)] e)) →
    LoopW Try.prog [4, 16, 17, 18] [] irReqsPutBatch_L1 (mk [(4, .os 5 1 (krows .u8 (b0 ++ reqsBy (l.take k)))), (16, .pv (.sl 7 (qrows l))), (17, .pv (.int .i64 (l.length : Nat))), (18, .pv (.int .i64 (k : Nat)))] []) Q := by
  intro n
  induction n with
  | zero =>
    intro k hk Q h1
    obtain rfl : k = l.length := by omega
    refine LoopW.go irReqsPutBatch_L1.eq_1 (by simp) ?_
    simp
    exact h1 _ _ _ _ _
  | succ n ih =>
    intro k hk Q h1
    have i1 : k < l.length := by omega
    obtain ⟨r, hr⟩ : ∃ r, l[k]? = some r := ⟨_, List.getElem?_eq_getElem (by omega)⟩
    have w : IntKind.i64.wrap ((k : Int) + 1) = (k + 1 : Nat) := by rw [wrap_i64] <;> omega
    have ho := h r (List.mem_of_getElem? hr)
    have hq := putR_len ho
    have hlen := reqsBy_len (l := l.take k) fun q hq => h q (List.mem_of_mem_take hq)
    have hkl : (l.take k).length ≤ 4 := by simp; omega
    have c1 := rput_c r ho.2.1 ho.2.2
    rw [if_pos ho.1, if_pos ho.1] at c1
    have c2 := putText_c (b0 ++ reqsBy (l.take k)) (putR r) (by rw [List.length_append]; omega) (by omega)
    have ht : reqsBy (l.take (k + 1)) = reqsBy (l.take k) ++ txt (putR r) := by
      rw [List.take_add_one, hr, reqsBy_app]
      simp [reqsBy]
    have ih' := ih (k + 1) (by omega) Q h1
    rw [ht, ← List.append_assoc] at ih'
    generalize b0 ++ reqsBy (l.take k) = b at *
    generalize putR r = p at *
    refine LoopW.go irReqsPutBatch_L1.eq_1 (by simp) ?_
    simp [-getElem?_pos, qrows_get, i1, hr, rqP] at c1 ⊢
    refine CallG.go c1 ?_
    simp
    refine CallG.go c2 ?_
    simp [w]
    exact ih'
def batR (l : List Rq) : List Nat := packed l.length ++ reqsBy l
theorem rputBatch_c (l : List Rq) (ll : l.length ≤ 10000000000) (h : ∀ r ∈ l, I64 r.a ∧ I64 r.b) : ACall Try.prog 16 [.pv (.sl 7 (qrows l))] [] (.tup [.os 5 1 (krows .u8 (if batchF l then batR l else [])), .pv (.int .i64 (if batchF l then 0 else 15))]) [] [] := by
  refine ACall.fn (fn := Try.f16) rfl okReqsPutBatch rfl (by simp) ?_
  simp only [argT, irReqsPutBatch.eq_1]
  have c1 := formedBatch_c l ll
  cases hf : batchF l
  · rw [hf] at c1
    simp
    refine CallG.go c1 ?_
    simp [krows]
  · rw [hf] at c1
    have hf' := hf
    simp only [batchF, Bool.and_eq_true, decide_eq_true_eq] at hf'
    obtain ⟨⟨l1, l2⟩, hf'⟩ := hf'
    have hok : ∀ r ∈ l, OkR r := fun r hr => ⟨okFrom_mem hf' r hr, h r hr⟩
    have w : IntKind.u64.wrap (l.length : Int) = (l.length : Int) := by rw [wrap_u64] <;> omega
    have c2 := putPacked_c [] l.length (by simp) (by omega)
    have hp := packed_len64 l.length (by omega)
    rw [List.nil_append] at c2
    have lp := putl l l2 hok (packed l.length) (by omega) l.length 0 (by omega)
    simp only [List.take_zero, reqsBy, List.append_nil] at lp
    have hb : batR l = packed l.length ++ reqsBy l := rfl
    rw [← hb] at lp
    generalize batR l = b at *
    generalize packed l.length = p at *
    simp [krows] at c2
    simp
    refine CallG.go c1 ?_
    simp [qrows_length, w]
    refine CallG.go c2 ?_
    simp [qrows_length]
    refine lp _ fun a b c d e => ?_
    simp
theorem rfputl (l : List Rq) (ll : l.length ≤ 4) (h : ∀ r ∈ l, OkR r) (b0 : List Nat) (hb : b0.length ≤ 100) : ∀ (n k : Nat), k + n = l.length → ∀ (Q : Exit → S → Prop),
    (∀ a b c d e f g, Q (.exit 0) (mk [(0, a), (4, .os 5 1 (krows .u8 (b0 ++ reqsBy l))), (5, b), (13, c), (14, d), (15, e), (16, f)] g)) →
    LoopW Try.prog [0, 4, 5] [] irRef07PutBatch_L1 (mk [(0, .pv (.sl 7 (qrows l))), (4, .os 5 1 (krows .u8 (b0 ++ reqsBy (l.take k)))), (5, .pv (.int .i64 (k : Nat)))] []) Q := by
  intro n
  induction n with
  | zero =>
    intro k hk Q h1
    obtain rfl : k = l.length := by omega
    refine LoopW.go irRef07PutBatch_L1.eq_1 (by simp) ?_
    simp [qrows_length]
    exact h1 _ _ _ _ _ _ _
  | succ n ih =>
    intro k hk Q h1
    have i1 : k < l.length := by omega
    obtain ⟨r, hr⟩ : ∃ r, l[k]? = some r := ⟨_, List.getElem?_eq_getElem (by omega)⟩
    have w : IntKind.i64.wrap ((k : Int) + 1) = (k + 1 : Nat) := by rw [wrap_i64] <;> omega
    have ho := h r (List.mem_of_getElem? hr)
    have hq := putR_len ho
    have hlen := reqsBy_len (l := l.take k) fun q hq => h q (List.mem_of_mem_take hq)
    have hkl : (l.take k).length ≤ 4 := by simp; omega
    have c1 := refPut07_c r ho.1 ho.2.1 ho.2.2
    have c2 := refText_c (putR r) (by omega)
    have ht : reqsBy (l.take (k + 1)) = reqsBy (l.take k) ++ txt (putR r) := by
      rw [List.take_add_one, hr, reqsBy_app]
      simp [reqsBy]
    have ih' := ih (k + 1) (by omega) Q h1
    have hbl : (b0 ++ reqsBy (l.take k)).length ≤ 5000 := by rw [List.length_append]; omega
    rw [ht, ← List.append_assoc, ← krows_app] at ih'
    generalize b0 ++ reqsBy (l.take k) = b at *
    have hq2 := hq.2
    generalize txt (putR r) = tp at *
    generalize putR r = p at *
    have hsum : b.length + tp.length ≤ 100000000000 := by omega
    refine LoopW.go irRef07PutBatch_L1.eq_1 (by simp) ?_
    simp [-getElem?_pos, qrows_get, qrows_length, i1, hr, rqP] at c1 ⊢
    refine CallG.go c1 ?_
    simp
    refine CallG.go c2 ?_
    simp [w, krows_length, hsum]
    exact ih'
theorem refPutBatch_c (l : List Rq) (ll : l.length ≤ 10000000000) (h : ∀ r ∈ l, I64 r.a ∧ I64 r.b) : ACall Try.prog 17 [.pv (.sl 7 (qrows l))] [] (.tup [.os 5 1 (krows .u8 (if batchF l then batR l else [])), .pv (.int .i64 (if batchF l then 0 else 15))]) [] [] := by
  refine ACall.fn (fn := Try.f17) rfl okRef07PutBatch rfl (by simp) ?_
  simp only [argT, irRef07PutBatch.eq_1]
  have c1 := refFormedBatch_c l ll
  cases hf : batchF l
  · rw [hf] at c1
    simp
    refine CallG.go c1 ?_
    simp [krows]
  · rw [hf] at c1
    have hf' := hf
    simp only [batchF, Bool.and_eq_true, decide_eq_true_eq] at hf'
    obtain ⟨⟨l1, l2⟩, hf'⟩ := hf'
    have hok : ∀ r ∈ l, OkR r := fun r hr => ⟨okFrom_mem hf' r hr, h r hr⟩
    have w : IntKind.u64.wrap (l.length : Int) = (l.length : Int) := by rw [wrap_u64] <;> omega
    have c2 := refPacked_c l.length (by omega)
    have hp := packed_len64 l.length (by omega)
    have lp := rfputl l l2 hok (packed l.length) (by omega) l.length 0 (by omega)
    simp only [List.take_zero, reqsBy, List.append_nil] at lp
    have hb : batR l = packed l.length ++ reqsBy l := rfl
    rw [← hb] at lp
    generalize batR l = b at *
    generalize packed l.length = p at *
    simp
    refine CallG.go c1 ?_
    simp [qrows_length, w]
    refine CallG.go c2 ?_
    simp [qrows_length]
    refine lp _ fun a b c d e f g => ?_
    simp
end Go.Proofs.Ytgfmemjobpodkaa
