/- Which batches are formed: contracts. -/
import Derived.Test.YtcceiicpploclaaPlainMap
import Derived.Test.YtcceiicpploclaaIrBat
set_option linter.unusedVariables false
set_option linter.unusedSimpArgs false
namespace Go.Proofs.Ytcceiicpploclaa
open Go.Abs Go.RowKit Go.Ours


theorem okAt_split (pre : List Rq) (r : Rq) (hf : formedF r = true) (k : Nat) : (pre.drop k).all (fun q => !(decide (q.client = r.client) && decide (r.seq ≤ q.seq))) = true → (pre.take k).all (fun q => !(decide (q.client = r.client) && decide (r.seq ≤ q.seq))) = true → okAt pre r = true := by
  intro h1 h2
  unfold okAt
  rw [hf, Bool.true_and, ← List.take_append_drop k pre, List.all_append, h1, h2]
  rfl
/-- The inner loop: those ahead of request j. -/
theorem rfb2 (l : List Rq) (ll : l.length ≤ 10000000000) (j : Nat) (r : Rq) (hr : l[j]? = some r) : ∀ (n k : Nat), k + n = j → ∀ (Q : Exit → S → Prop),
    (((l.take j).drop k).all (fun q => !(decide (q.client = r.client) && decide (r.seq ≤ q.seq))) = true → ∀ a b c d, Q (.exit 2) (mk [(0, .pv (.sl 7 (qrows l))), (3, .pv (.int .i64 (j : Nat))), (4, a), (25, b), (26, c), (27, d)] [])) →
    (((l.take j).drop k).all (fun q => !(decide (q.client = r.client) && decide (r.seq ≤ q.seq))) = false → Q .ret (mk [(2, .pv (.bool false))] [])) →
    LoopW Try.prog [0, 3, 4] [] irRef07FormedBatch_L2 (mk [(0, .pv (.sl 7 (qrows l))), (3, .pv (.int .i64 (j : Nat))), (4, .pv (.int .i64 (k : Nat)))] []) Q := by
  have hj := (List.getElem?_eq_some_iff.1 hr).1
  intro n
  induction n with
  | zero =>
    intro k hk Q h1 h2
    obtain rfl : k = j := by omega
    refine LoopW.go irRef07FormedBatch_L2.eq_1 (by simp) ?_
    simp
    exact h1 (by rw [List.drop_of_length_le (by simp; omega)]; rfl) _ _ _ _
  | succ n ih =>
    intro k hk Q h1 h2
    have i1 : k < j := by omega
    have i2 : k < l.length := by omega
    obtain ⟨q, hq⟩ : ∃ q, l[k]? = some q := ⟨_, List.getElem?_eq_getElem (by omega)⟩
    have w : IntKind.i64.wrap ((k : Int) + 1) = (k + 1 : Nat) := by rw [wrap_i64] <;> omega
    have hq' : (l.take j)[k]? = some q := by rw [List.getElem?_take, if_pos i1, hq]
    have hd : (l.take j).drop k = q :: (l.take j).drop (k + 1) := by
      have hkl := (List.getElem?_eq_some_iff.1 hq').1
      rw [List.drop_eq_getElem_cons hkl]
      rw [List.getElem?_eq_getElem hkl] at hq'
      simp only [Option.some.injEq] at hq'
      rw [hq']
    rw [hd, List.all_cons] at h1 h2
    refine LoopW.go irRef07FormedBatch_L2.eq_1 (by simp) ?_
    by_cases hc : q.client = r.client
    · by_cases hs : r.seq ≤ q.seq
      · simp [-getElem?_pos, qrows_get, i1, i2, hj, hq, hr, rqP, hc, hs]
        exact h2 (by simp [hc, hs])
      · simp [-getElem?_pos, qrows_get, i1, i2, hj, hq, hr, rqP, hc, hs, w]
        exact ih (k + 1) (by omega) Q (fun h => h1 (by rw [h]; simp [hs])) (fun h => h2 (by rw [h]; simp))
    · simp [-getElem?_pos, qrows_get, i1, i2, hj, hq, hr, rqP, hc, w]
      exact ih (k + 1) (by omega) Q (fun h => h1 (by rw [h]; simp [hc])) (fun h => h2 (by rw [h]; simp))
theorem rfb1 (l : List Rq) (ll : l.length ≤ 10000000000) : ∀ (n k : Nat), k + n = l.length → ∀ (Q : Exit → S → Prop),
    (okFrom (l.take k) (l.drop k) = true → ∀ a b c d e f, Q (.exit 0) (mk [(0, a), (3, b), (13, c), (14, d), (15, e), (16, f)] [])) →
    (okFrom (l.take k) (l.drop k) = false → Q .ret (mk [(2, .pv (.bool false))] [])) →
    LoopW Try.prog [0, 3] [] irRef07FormedBatch_L1 (mk [(0, .pv (.sl 7 (qrows l))), (3, .pv (.int .i64 (k : Nat)))] []) Q := by
  intro n
  induction n with
  | zero =>
    intro k hk Q h1 h2
    obtain rfl : k = l.length := by omega
    refine LoopW.go irRef07FormedBatch_L1.eq_1 (by simp) ?_
    simp [qrows_length]
    exact h1 (by simp [okFrom]) _ _ _ _ _ _
  | succ n ih =>
    intro k hk Q h1 h2
    have i1 : k < l.length := by omega
    obtain ⟨r, hr⟩ : ∃ r, l[k]? = some r := ⟨_, List.getElem?_eq_getElem (by omega)⟩
    have w : IntKind.i64.wrap ((k : Int) + 1) = (k + 1 : Nat) := by rw [wrap_i64] <;> omega
    have c := refFormed_c r
    have hd : l.drop k = r :: l.drop (k + 1) := by
      rw [List.drop_eq_getElem_cons i1]
      rw [List.getElem?_eq_getElem i1] at hr
      simp only [Option.some.injEq] at hr
      rw [hr]
    have ht : l.take (k + 1) = l.take k ++ [r] := by rw [List.take_add_one, hr]; rfl
    have hof : okFrom (l.take k) (l.drop k) = (okAt (l.take k) r && okFrom (l.take (k + 1)) (l.drop (k + 1))) := by rw [hd, okFrom, ht]
    refine LoopW.go irRef07FormedBatch_L1.eq_1 (by simp) ?_
    cases hf : formedF r
    · rw [hf] at c
      simp [-getElem?_pos, qrows_get, qrows_length, i1, hr, rqP] at c ⊢
      refine CallG.go c ?_
      simp
      exact h2 (by rw [hof]; simp [okAt, hf])
    · rw [hf] at c
      simp [-getElem?_pos, qrows_get, qrows_length, i1, hr, rqP] at c ⊢
      refine CallG.go c ?_
      simp
      refine rfb2 l ll k r hr k 0 (by omega) _ (fun h a b c d => ?_) fun h => ?_
      · rw [List.drop_zero] at h
        have ha : okAt (l.take k) r = true := by unfold okAt; rw [hf, h]; rfl
        simp [w]
        exact ih (k + 1) (by omega) Q (fun h => h1 (by rw [hof, ha, h]; rfl)) (fun h => h2 (by rw [hof, h]; simp))
      · rw [List.drop_zero] at h
        simp
        exact h2 (by rw [hof]; unfold okAt; rw [hf, h]; rfl)
theorem refFormedBatch_c (l : List Rq) (ll : l.length ≤ 10000000000) : ACall Try.prog 14 [.pv (.sl 7 (qrows l))] [] (.pv (.bool (batchF l))) [] [] := by
  refine ACall.fn (fn := Try.f14) rfl okRef07FormedBatch rfl (by simp) ?_
  simp only [argT, irRef07FormedBatch.eq_1]
  by_cases h1 : l.length < 1
  · have h1' : (l.length : Int) < 1 := by omega
    have h1'' : ¬ 1 ≤ l.length := by omega
    simp [qrows_length, h1', batchF, h1'']
  · have h1' : ¬ (l.length : Int) < 1 := by omega
    have h1'' : 1 ≤ l.length := by omega
    by_cases h2 : 4 < l.length
    · have h2' : (4 : Int) < (l.length : Int) := by omega
      have h2'' : ¬ l.length ≤ 4 := by omega
      simp [qrows_length, h1', h2', batchF, h2'']
    · have h2' : ¬ (4 : Int) < (l.length : Int) := by omega
      have h2'' : l.length ≤ 4 := by omega
      simp [qrows_length, h1', h2']
      refine rfb1 l ll l.length 0 (by omega) _ (fun h a b c d e f => ?_) fun h => ?_
      · simp only [List.take_zero, List.drop_zero] at h
        simp [batchF, h, h1'', h2'']
      · simp only [List.take_zero, List.drop_zero] at h
        simp [batchF, h]
end Go.Proofs.Ytcceiicpploclaa
