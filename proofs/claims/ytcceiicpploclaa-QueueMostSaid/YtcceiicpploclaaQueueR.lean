/- A queue's reference: contracts of the document's Add, Batch, Drop, Same, SameAll. -/
import Derived.Test.YtcceiicpploclaaQueueP
import Derived.Test.YtcceiicpploclaaNumsIrS
set_option linter.unusedVariables false
set_option linter.unusedSimpArgs false
namespace Go.Proofs.Ytcceiicpploclaa
open Go.Abs Go.RowKit Go.Ours

theorem same07_c (r : Rq) (hl : r.sig.length ≤ 1000) : ACall Try.prog 16 [.pagg (rqP r), .pagg (rqP r)] [] (.pv (.bool true)) [] [] := by
  refine ACall.fn (fn := Try.f16) rfl okRef07Same rfl (by simp) ?_
  simp only [argT, irRef07Same.eq_1]
  have c := same_c r.sig r.sig (by omega)
  rw [decide_eq_true rfl] at c
  simp [rqP, ckAll, ckOne, eqPVs, eqPV]
  refine CallG.go c ?_
  simp
theorem salll (l : List Rq) (ll : l.length ≤ 100) (h : ∀ r ∈ l, r.sig.length ≤ 1000) : ∀ (n k : Nat), k + n = l.length → ∀ (Q : Exit → S → Prop),
    (∀ a b c d e f g, Q (.exit 0) (mk [(0, a), (1, b), (5, c), (11, d), (12, e), (13, f), (14, g)] [])) →
    LoopW Try.prog [0, 1, 5] [] irRef07SameAll_L1 (mk [(0, .pv (.sl 7 (qrows l))), (1, .pv (.sl 7 (qrows l))), (5, .pv (.int .i64 (k : Nat)))] []) Q := by
  intro n
  induction n with
  | zero =>
    intro k hk Q h1
    obtain rfl : k = l.length := by omega
    refine LoopW.go irRef07SameAll_L1.eq_1 (by simp) ?_
    simp [qrows_length]
    exact h1 _ _ _ _ _ _ _
  | succ n ih =>
    intro k hk Q h1
    have i1 : k < l.length := by omega
    obtain ⟨r, hr⟩ : ∃ r, l[k]? = some r := ⟨_, List.getElem?_eq_getElem (by omega)⟩
    have w : IntKind.i64.wrap ((k : Int) + 1) = (k + 1 : Nat) := by rw [wrap_i64] <;> omega
    have c := same07_c r (h r (List.mem_of_getElem? hr))
    refine LoopW.go irRef07SameAll_L1.eq_1 (by simp) ?_
    simp [-getElem?_pos, qrows_get, qrows_length, i1, hr, rqP] at c ⊢
    refine CallG.go c ?_
    simp [w]
    exact ih (k + 1) (by omega) Q h1
theorem sameAll_c (l : List Rq) (ll : l.length ≤ 100) (h : ∀ r ∈ l, r.sig.length ≤ 1000) : ACall Try.prog 18 [.pv (.sl 7 (qrows l)), .pv (.sl 7 (qrows l))] [] (.pv (.bool true)) [] [] := by
  refine ACall.fn (fn := Try.f18) rfl okRef07SameAll rfl (by simp) ?_
  simp only [argT, irRef07SameAll.eq_1]
  simp
  refine salll l ll h l.length 0 (by omega) _ fun a b c d e f g => ?_
  simp

theorem ral (x : List Rq) (r : Rq) (hx : x.length ≤ 12) : ∀ (n k : Nat), k + n = x.length → ∀ (Q : Exit → S → Prop),
    (rid r ∉ (x.drop k).map rid → ∀ a b c d e, Q (.exit 0) (mk [(0, .pv (.sl 7 (qrows x))), (3, .ptr 3 0), (6, a), (12, b), (13, c), (14, d), (15, e)] [(3, .pagg (rqP r))])) →
    (rid r ∈ (x.drop k).map rid → Q .ret (mk [(0, .pv (.sl 7 (qrows x))), (4, .pv (.sl 7 (qrows x))), (5, .pv (.int .i64 7)), (36, .pv (.sl 7 (qrows x)))] [])) →
    LoopW Try.prog [0, 3, 6] [3] irRef16Add_L1 (mk [(0, .pv (.sl 7 (qrows x))), (3, .ptr 3 0), (6, .pv (.int .i64 (k : Nat)))] [(3, .pagg (rqP r))]) Q := by
  intro n
  induction n with
  | zero =>
    intro k hk Q h1 h2
    obtain rfl : k = x.length := by omega
    refine LoopW.go irRef16Add_L1.eq_1 (by simp) ?_
    simp [qrows_length]
    exact h1 (by simp) _ _ _ _ _
  | succ n ih =>
    intro k hk Q h1 h2
    have i1 : k < x.length := by omega
    obtain ⟨q, hq⟩ : ∃ q, x[k]? = some q := ⟨_, List.getElem?_eq_getElem (by omega)⟩
    have w : IntKind.i64.wrap ((k : Int) + 1) = (k + 1 : Nat) := by rw [wrap_i64] <;> omega
    have hd : x.drop k = q :: x.drop (k + 1) := by
      rw [List.drop_eq_getElem_cons i1]
      rw [List.getElem?_eq_getElem i1] at hq
      simp only [Option.some.injEq] at hq
      rw [hq]
    rw [hd, List.map_cons] at h1 h2
    refine LoopW.go irRef16Add_L1.eq_1 (by simp) ?_
    by_cases hc : q.client = r.client
    · by_cases hs : q.seq = r.seq
      · simp [-getElem?_pos, qrows_get, qrows_length, i1, hq, rqP, hc, hs]
        exact h2 (by simp [rid, hc, hs])
      · have hne : ¬ rid r = rid q := fun e => hs (by simp only [rid, Prod.mk.injEq] at e; exact e.2.symm)
        simp [-getElem?_pos, qrows_get, qrows_length, i1, hq, rqP, hc, hs, w]
        exact ih (k + 1) (by omega) Q (fun h => h1 fun hm => by rcases List.mem_cons.1 hm with e | e; exact hne e; exact h e) (fun h => h2 (List.mem_cons_of_mem _ h))
    · have hne : ¬ rid r = rid q := fun e => hc (by simp only [rid, Prod.mk.injEq] at e; exact e.1.symm)
      simp [-getElem?_pos, qrows_get, qrows_length, i1, hq, rqP, hc, w]
      exact ih (k + 1) (by omega) Q (fun h => h1 fun hm => by rcases List.mem_cons.1 hm with e | e; exact hne e; exact h e) (fun h => h2 (List.mem_cons_of_mem _ h))
def refAddA (x : List Rq) (r : Rq) : AV := if addE x r = 0 then .os 36 7 (qrows (x ++ [r])) else .pv (.sl 7 (qrows x))
theorem refAddA_dem (x : List Rq) (r : Rq) : (refAddA x r).dem1 = .pv (.sl 7 (qrows (addL x r))) := by
  unfold refAddA addL
  split <;> rfl
theorem refAdd_c (x : List Rq) (r : Rq) (hx : x.length ≤ 12) : ACall Try.prog 17 [.pv (.sl 7 (qrows x)), .pagg (rqP r)] [] (.tup [refAddA x r, .pv (.int .i64 (addE x r))]) [] [] := by
  refine ACall.fn (fn := Try.f17) rfl okRef16Add rfl (by simp) ?_
  simp only [argT, irRef16Add.eq_1]
  have c1 := refFormed_c r
  cases hf : formedF r
  · rw [hf] at c1
    have e : addE x r = 15 := by simp [addE, hf]
    rw [refAddA, e]
    simp [rqP] at c1 ⊢
    refine CallG.go c1 ?_
    simp
  · rw [hf] at c1
    have lp := ral x r hx x.length 0 (by omega)
    rw [List.drop_zero] at lp
    simp only [rqP] at c1 lp
    simp [rqP]
    refine CallG.go c1 ?_
    simp
    refine lp _ (fun hn a b c d e => ?_) fun hm => ?_
    · by_cases h12 : 12 ≤ x.length
      · have h12' : (12 : Int) ≤ (x.length : Int) := by omega
        have e : addE x r = 4 := by simp only [addE, hf, Bool.true_eq_false, if_false, hn, h12, if_true]
        rw [refAddA, e]
        simp [qrows_length, h12, h12']
      · have h12' : ¬ (12 : Int) ≤ (x.length : Int) := by omega
        have e : addE x r = 0 := by simp only [addE, hf, Bool.true_eq_false, if_false, hn, h12]
        have l1 : x.length ≤ 100000000000 := by omega
        have l2 : x.length + 1 ≤ 100000000000 := by omega
        rw [refAddA, e]
        simp [qrows_length, h12, h12', l1, l2]
        simp [qrows, rqP]
    · have e : addE x r = 7 := by simp only [addE, hf, Bool.true_eq_false, if_false, hm, if_true]
      rw [refAddA, e]
      simp
theorem rb2 (x : List Rq) (ls : List Int) (out : List Rq) (ho : out.length < 4) (j : Nat) (r : Rq) (hr : x[j]? = some r) (ps : List PV) : ∀ (n k : Nat) (t : Bool), k + n = out.length → ∀ (Q : Exit → S → Prop),
    (∀ a b c d, Q (.exit 2) (mk [(0, .pv (.sl 7 (qrows x))), (3, .ptr 3 0), (5, .os 36 7 (qrows out)), (6, .pv (.int .i64 (j : Nat))), (7, .pv (.bool (t && (out.drop k).all fun q => !(decide (q.client = r.client) && decide (r.seq ≤ q.seq))))), (8, a), (34, b), (35, c), (36, d), (37, .pv (.bool false))] [(3, .pagg ps)])) →
    LoopW Try.prog [0, 3, 5, 6, 7, 8] [3] irRef16Batch_L2 (mk [(0, .pv (.sl 7 (qrows x))), (3, .ptr 3 0), (5, .os 36 7 (qrows out)), (6, .pv (.int .i64 (j : Nat))), (7, .pv (.bool t)), (8, .pv (.int .i64 (k : Nat)))] [(3, .pagg ps)]) Q := by
  have hj := (List.getElem?_eq_some_iff.1 hr).1
  intro n
  induction n with
  | zero =>
    intro k t hk Q h1
    obtain rfl : k = out.length := by omega
    rw [List.drop_length, List.all_nil, Bool.and_true] at h1
    refine LoopW.go irRef16Batch_L2.eq_1 (by simp) ?_
    simp [qrows_length]
    exact h1 _ _ _ _
  | succ n ih =>
    intro k t hk Q h1
    have i1 : k < out.length := by omega
    obtain ⟨q, hq⟩ : ∃ q, out[k]? = some q := ⟨_, List.getElem?_eq_getElem (by omega)⟩
    have w : IntKind.i64.wrap ((k : Int) + 1) = (k + 1 : Nat) := by rw [wrap_i64] <;> omega
    have hd : out.drop k = q :: out.drop (k + 1) := by
      rw [List.drop_eq_getElem_cons i1]
      rw [List.getElem?_eq_getElem i1] at hq
      simp only [Option.some.injEq] at hq
      rw [hq]
    rw [hd, List.all_cons] at h1
    refine LoopW.go irRef16Batch_L2.eq_1 (by simp) ?_
    by_cases hc : q.client = r.client
    · by_cases hs : r.seq ≤ q.seq
      · have ih' := ih (k + 1) false (by omega) Q (by simpa [hc, hs] using h1)
        simp [-getElem?_pos, qrows_get, qrows_length, i1, hj, hq, hr, rqP, hc, hs, w]
        exact ih'
      · have ih' := ih (k + 1) t (by omega) Q (by simpa [hc, hs] using h1)
        simp [-getElem?_pos, qrows_get, qrows_length, i1, hj, hq, hr, rqP, hc, hs, w]
        exact ih'
    · have ih' := ih (k + 1) t (by omega) Q (by simpa [hc] using h1)
      simp [-getElem?_pos, qrows_get, qrows_length, i1, hj, hq, hr, rqP, hc, w]
      exact ih'
theorem rb1 (x : List Rq) (hx : x.length ≤ 12) (hf : ∀ r ∈ x, formedF r = true) (ps : List PV) (ls : List Int) (hp : LastP ps ls) : ∀ (n k : Nat) (out : List Rq), k + n = x.length → out.length ≤ 4 → ∀ (Q : Exit → S → Prop),
    (∀ a b c d e f g i j l o, Q (.exit 0) (mk [(0, a), (3, b), (5, .os 36 7 (qrows (rgo ls (x.drop k) out))), (6, c), (9, d), (10, e), (11, f), (12, g), (13, i), (14, .none), (15, .none), (16, .none), (17, j)] [(3, l)]) ∧ Q (.exit 0) (mk [(0, a), (3, b), (5, .os 36 7 (qrows (rgo ls (x.drop k) out))), (6, c), (9, d), (10, e), (11, f), (12, g), (13, i), (14, .pv (.sl 7 o)), (15, .pv (.int .i64 4)), (16, .pv (.bool false)), (17, j)] [(3, l)])) →
    LoopW Try.prog [0, 3, 5, 6] [3] irRef16Batch_L1 (mk [(0, .pv (.sl 7 (qrows x))), (3, .ptr 3 0), (5, .os 36 7 (qrows out)), (6, .pv (.int .i64 (k : Nat)))] [(3, .pagg ps)]) Q := by
  intro n
  induction n with
  | zero =>
    intro k out hk ho Q h1
    obtain rfl : k = x.length := by omega
    rw [List.drop_length, rgo] at h1
    refine LoopW.go irRef16Batch_L1.eq_1 (by simp) ?_
    simp [qrows_length]
    exact (h1 _ _ _ _ _ _ _ _ _ _ []).1
  | succ n ih =>
    intro k out hk ho Q h1
    have i1 : k < x.length := by omega
    obtain ⟨r, hr⟩ : ∃ r, x[k]? = some r := ⟨_, List.getElem?_eq_getElem (by omega)⟩
    have w : IntKind.i64.wrap ((k : Int) + 1) = (k + 1 : Nat) := by rw [wrap_i64] <;> omega
    have hs := formed_small (hf r (List.mem_of_getElem? hr))
    have hd : x.drop k = r :: x.drop (k + 1) := by
      rw [List.drop_eq_getElem_cons i1]
      rw [List.getElem?_eq_getElem i1] at hr
      simp only [Option.some.injEq] at hr
      rw [hr]
    rw [hd, rgo] at h1
    refine LoopW.go irRef16Batch_L1.eq_1 (by simp) ?_
    by_cases h4 : out.length < 4
    · have h4' : (out.length : Int) < 4 := by omega
      rw [if_pos h4] at h1
      obtain ⟨cn, hc⟩ : ∃ n : Nat, r.client = (n : Int) := ⟨r.client.toNat, by omega⟩
      have hcn : cn < 6 := by omega
      have hcn' : (cn : Int) < 6 := by omega
      have hg := hp.get hcn
      have e1 : okB ls out r = (decide (lsq ls (cn : Int) < r.seq) && (out.drop 0).all fun q => !(decide (q.client = r.client) && decide (r.seq ≤ q.seq))) := by rw [okB, hc]; rfl
      have lp := rb2 x ls out h4 k r hr ps out.length 0 (decide (lsq ls (cn : Int) < r.seq)) (by omega)
      rw [← e1] at lp
      have hl : out.length + 1 ≤ 100000000000 := by omega
      cases hok : okB ls out r
      · rw [hok] at lp h1
        have ih' := ih (k + 1) out (by omega) ho Q (by simpa using h1)
        simp [-getElem?_pos, qrows_get, qrows_length, i1, hr, rqP, h4, h4', hc, hg, hcn, hcn']
        refine lp _ fun a b c d => ?_
        simp [w]
        exact ih'
      · rw [hok] at lp h1
        have ih' := ih (k + 1) (out ++ [r]) (by omega) (by simp; omega) Q (by simpa using h1)
        have er : qrows (out ++ [r]) = qrows out ++ [rqP r] := by simp [qrows]
        rw [er] at ih'
        simp only [rqP, hc] at ih'
        simp [-getElem?_pos, qrows_get, qrows_length, i1, hr, rqP, h4, h4', hc, hg, hcn, hcn']
        refine lp _ fun a b c d => ?_
        simp [-getElem?_pos, qrows_get, qrows_length, i1, hr, rqP, hc, w, hl]
        exact ih'
    · have h4' : ¬ (out.length : Int) < 4 := by omega
      have h5 : out.length = 4 := by omega
      rw [if_neg h4] at h1
      simp [qrows_length, i1, h4, h4', h5]
      exact (h1 _ _ _ _ _ _ _ _ _ _ _).2
theorem refBatch_c (x : List Rq) (hx : x.length ≤ 12) (hf : ∀ r ∈ x, formedF r = true) (ps : List PV) (ls : List Int) (hp : LastP ps ls) : ACall Try.prog 19 [.pv (.sl 7 (qrows x)), .pagg ps] [] (.os 36 7 (qrows (batchQ x ls))) [] [] := by
  refine ACall.fn (fn := Try.f19) rfl okRef16Batch rfl (by simp) ?_
  simp only [argT, irRef16Batch.eq_1]
  have lp := rb1 x hx hf ps ls hp x.length 0 [] (by omega) (by simp)
  have e0 : qrows ([] : List Rq) = [] := rfl
  rw [List.drop_zero, e0] at lp
  unfold batchQ
  simp
  refine lp _ fun a b c d e f g i j l o => ⟨?_, ?_⟩
  · simp
  · simp
theorem rdl (x : List Rq) (hx : x.length ≤ 12) (hf : ∀ r ∈ x, formedF r = true) (ps : List PV) (ls : List Int) (hp : LastP ps ls) : ∀ (n k : Nat), k + n = x.length → ∀ (Q : Exit → S → Prop),
    (∀ a b c d e f g i, Q (.exit 0) (mk [(0, a), (3, b), (5, .os 36 7 (qrows (dropL x ls))), (6, c), (7, d), (8, e), (9, f), (10, g)] [(3, i)])) →
    LoopW Try.prog [0, 3, 5, 6] [3] irRef16Drop_L1 (mk [(0, .pv (.sl 7 (qrows x))), (3, .ptr 3 0), (5, .os 36 7 (qrows (dropL (x.take k) ls))), (6, .pv (.int .i64 (k : Nat)))] [(3, .pagg ps)]) Q := by
  intro n
  induction n with
  | zero =>
    intro k hk Q h1
    obtain rfl : k = x.length := by omega
    rw [List.take_length]
    refine LoopW.go irRef16Drop_L1.eq_1 (by simp) ?_
    simp [qrows_length]
    exact h1 _ _ _ _ _ _ _ _
  | succ n ih =>
    intro k hk Q h1
    have i1 : k < x.length := by omega
    obtain ⟨r, hr⟩ : ∃ r, x[k]? = some r := ⟨_, List.getElem?_eq_getElem (by omega)⟩
    have w : IntKind.i64.wrap ((k : Int) + 1) = (k + 1 : Nat) := by rw [wrap_i64] <;> omega
    have hs := formed_small (hf r (List.mem_of_getElem? hr))
    have ht : x.take (k + 1) = x.take k ++ [r] := by rw [List.take_add_one, hr]; rfl
    obtain ⟨cn, hc⟩ : ∃ n : Nat, r.client = (n : Int) := ⟨r.client.toNat, by omega⟩
    have hcn : cn < 6 := by omega
    have hcn' : (cn : Int) < 6 := by omega
    have hg := hp.get hcn
    have hll : (dropL (x.take k) ls).length + 1 ≤ 100000000000 := by
      have := List.length_filter_le (keepB ls) (x.take k)
      have e : (x.take k).length ≤ 12 := by simp; omega
      show (List.filter (keepB ls) (x.take k)).length + 1 ≤ _
      omega
    have ih' := ih (k + 1) (by omega) Q h1
    rw [ht] at ih'
    refine LoopW.go irRef16Drop_L1.eq_1 (by simp) ?_
    by_cases hlt : lsq ls (cn : Int) < r.seq
    · have hk : keepB ls r = true := by simp [keepB, hc, hlt]
      have e1 : dropL (x.take k ++ [r]) ls = dropL (x.take k) ls ++ [r] := by simp [dropL, hk]
      have er : ∀ l, qrows (l ++ [r]) = qrows l ++ [rqP r] := fun l => by simp [qrows]
      rw [e1, er] at ih'
      generalize dropL (x.take k) ls = dl at *
      simp only [rqP, hc] at ih'
      simp [-getElem?_pos, qrows_get, qrows_length, i1, hr, rqP, hc, hg, hcn, hcn', hlt, hll, w]
      exact ih'
    · have hk : keepB ls r = false := by simp [keepB, hc, hlt]
      have e1 : dropL (x.take k ++ [r]) ls = dropL (x.take k) ls := by simp [dropL, hk]
      rw [e1] at ih'
      have hle : r.seq ≤ lsq ls (cn : Int) := by omega
      generalize dropL (x.take k) ls = dl at *
      simp [-getElem?_pos, qrows_get, qrows_length, i1, hr, rqP, hc, hg, hcn, hcn', hlt, hle, w]
      exact ih'
theorem refDrop_c (x : List Rq) (hx : x.length ≤ 12) (hf : ∀ r ∈ x, formedF r = true) (ps : List PV) (ls : List Int) (hp : LastP ps ls) : ACall Try.prog 21 [.pv (.sl 7 (qrows x)), .pagg ps] [] (.os 36 7 (qrows (dropL x ls))) [] [] := by
  refine ACall.fn (fn := Try.f21) rfl okRef16Drop rfl (by simp) ?_
  simp only [argT, irRef16Drop.eq_1]
  have lp := rdl x hx hf ps ls hp x.length 0 (by omega)
  have e0 : qrows (dropL ([] : List Rq) ls) = [] := rfl
  simp only [List.take_zero, e0] at lp
  simp
  refine lp _ fun a b c d e f g i => ?_
  simp
end Go.Proofs.Ytcceiicpploclaa
