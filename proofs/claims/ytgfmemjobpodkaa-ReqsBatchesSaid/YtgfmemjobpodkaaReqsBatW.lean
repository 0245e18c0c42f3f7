/- The law ReqsBatches. -/
import Derived.Test.YtgfmemjobpodkaaReqsBatB
set_option linter.unusedVariables false
set_option linter.unusedSimpArgs false
namespace Go.Proofs.Ytgfmemjobpodkaa
open Go.Abs Go.RowKit Go.Ours

theorem getl (l : List Rq) (ll : l.length ≤ 4) (h : ∀ r ∈ l, OkR r) : ∀ (n k : Nat), k + n = l.length → ∀ (Q : Exit → S → Prop),
    (∀ a b c d, Q (.exit 0) (mk [(4, a), (7, .os 26 7 (qrows l)), (21, b), (22, c), (23, d)] [(12, .pagg (rdP (batR l) (batR l).length))]) → Q (.exit 0) (mk [(4, a), (7, .os 26 7 (qrows l)), (21, b), (22, c), (23, d)] [(12, .pagg (rdP (batR l) (batR l).length))])) →
    (∀ d, Q (.exit 0) (mk [(4, .ptr 12 0), (7, .os 26 7 (qrows l)), (21, .pv (.int .i64 (l.length : Nat))), (22, .pv (.int .i64 (l.length : Nat))), (23, d)] [(12, .pagg (rdP (batR l) (batR l).length))])) →
    LoopW Try.prog [4, 7, 21, 22] [12] irReqsGetBatch_L1 (mk [(4, .ptr 12 0), (7, .os 26 7 (qrows (l.take k))), (21, .pv (.int .i64 (l.length : Nat))), (22, .pv (.int .i64 (k : Nat)))] [(12, .pagg (rdP (batR l) ((packed l.length).length + (reqsBy (l.take k)).length)))]) Q := by
  have hpl := packed_len64 l.length (by omega)
  have hrl := reqsBy_len h
  have hbl : (batR l).length = (packed l.length).length + (reqsBy l).length := by rw [batR, List.length_append]
  intro n
  induction n with
  | zero =>
    intro k hk Q _ h1
    obtain rfl : k = l.length := by omega
    rw [List.take_length, ← hbl]
    refine LoopW.go irReqsGetBatch_L1.eq_1 (by simp) ?_
    generalize rdP (batR l) (batR l).length = q at *
    simp
    exact h1 _
  | succ n ih =>
    intro k hk Q h0 h1
    have i1 : k < l.length := by omega
    obtain ⟨r, hr⟩ : ∃ r, l[k]? = some r := ⟨_, List.getElem?_eq_getElem (by omega)⟩
    have w : IntKind.i64.wrap ((k : Int) + 1) = (k + 1 : Nat) := by rw [wrap_i64] <;> omega
    have ho := h r (List.mem_of_getElem? hr)
    have hq := putR_len ho
    have hd : l.drop k = r :: l.drop (k + 1) := by
      rw [List.drop_eq_getElem_cons i1]
      rw [List.getElem?_eq_getElem i1] at hr
      simp only [Option.some.injEq] at hr
      rw [hr]
    have ht : l.take (k + 1) = l.take k ++ [r] := by rw [List.take_add_one, hr]; rfl
    have hby : reqsBy (l.take (k + 1)) = reqsBy (l.take k) ++ txt (putR r) := by rw [ht, reqsBy_app]; simp [reqsBy]
    have hall : reqsBy l = reqsBy (l.take k) ++ (txt (putR r) ++ reqsBy (l.drop (k + 1))) := by
      conv => lhs; rw [← List.take_append_drop k l, reqsBy_app, hd]
      rfl
    have hdrop : (batR l).drop ((packed l.length).length + (reqsBy (l.take k)).length) = txtR (putR r) ++ reqsBy (l.drop (k + 1)) := by
      rw [batR, ← List.drop_drop, List.drop_left, hall, List.drop_left]
      rfl
    have hle : (reqsBy (l.take k)).length ≤ (reqsBy l).length := by rw [hall, List.length_append]; omega
    have hkl : (qrows (l.take k)).length ≤ 4 := by rw [qrows_length]; simp; omega
    have c1 := textAt_c (batR l) (reqsBy (l.drop (k + 1))) (putR r) ((packed l.length).length + (reqsBy (l.take k)).length) 2000 (by omega) (by omega) (by omega) (by omega) hdrop
    have c2 := rget_c r ho.1 ho.2.1 ho.2.2
    have ih' := ih (k + 1) (by omega) Q h0 h1
    have e1 : (packed l.length).length + (reqsBy (l.take (k + 1))).length = (packed l.length).length + (reqsBy (l.take k)).length + (txtR (putR r)).length := by
      rw [hby, List.length_append, Nat.add_assoc]
      rfl
    rw [e1, ht] at ih'
    have e2 : qrows (l.take k ++ [r]) = qrows (l.take k) ++ [rqP r] := by simp [qrows]
    rw [e2] at ih'
    generalize rdP (batR l) ((packed l.length).length + (reqsBy (l.take k)).length + (txtR (putR r)).length) = q1 at *
    generalize rdP (batR l) ((packed l.length).length + (reqsBy (l.take k)).length) = q0 at *
    generalize putR r = p at *
    generalize qrows (l.take k) = rows at *
    have hkl' : rows.length + 1 ≤ 100000000000 := by omega
    simp only [rqP] at c2 ih'
    refine LoopW.go irReqsGetBatch_L1.eq_1 (by simp) ?_
    simp [i1]
    refine CallG.go c1 ?_
    simp
    refine CallG.go c2 ?_
    simp [w, hkl']
    exact ih'
theorem rgetBatch_c (l : List Rq) (hf : batchF l = true) (h : ∀ r ∈ l, I64 r.a ∧ I64 r.b) : ACall Try.prog 18 [.pv (.sl 1 (krows .u8 (batR l)))] [] (.tup [.os 26 7 (qrows l), .pv (.int .i64 0)]) [] [] := by
  refine ACall.fn (fn := Try.f18) rfl okReqsGetBatch rfl (by simp) ?_
  simp only [argT, irReqsGetBatch.eq_1]
  have hf' := hf
  simp only [batchF, Bool.and_eq_true, decide_eq_true_eq] at hf'
  obtain ⟨⟨l1, l2⟩, hf'⟩ := hf'
  have hok : ∀ r ∈ l, OkR r := fun r hr => ⟨okFrom_mem hf' r hr, h r hr⟩
  have hpl := packed_len64 l.length (by omega)
  have hrl := reqsBy_len hok
  have hbl : (batR l).length = (packed l.length).length + (reqsBy l).length := by rw [batR, List.length_append]
  have n0 := newr_c (batR l) (by omega)
  have c1 := countAt_c (batR l) (reqsBy l) 0 l.length 4 (by omega) (by omega) l2 rfl
  rw [Nat.zero_add] at c1
  have lp := getl l l2 hok l.length 0 (by omega)
  simp only [List.take_zero, reqsBy, List.length_nil, Nat.add_zero] at lp
  have c2 := done0_c (batR l) (batR l).length (by omega) rfl
  have c3 := formedBatch_c l (by omega)
  rw [hf] at c3
  generalize rdP (batR l) (batR l).length = q2 at *
  generalize rdP (batR l) (packed l.length).length = q1 at *
  generalize rdP (batR l) 0 = q0 at *
  generalize batR l = b at *
  have e0 : qrows ([] : List Rq) = [] := rfl
  rw [e0] at lp
  simp
  refine CallG.go n0 ?_
  simp
  refine CallG.go c1 ?_
  simp
  refine lp _ (fun _ _ _ _ h => h) fun d => ?_
  simp
  refine CallG.go c2 ?_
  simp
  refine CallG.go c3 ?_
  simp
theorem same07_c (r : Rq) (hl : r.sig.length ≤ 1000) : ACall Try.prog 15 [.pagg (rqP r), .pagg (rqP r)] [] (.pv (.bool true)) [] [] := by
  refine ACall.fn (fn := Try.f15) rfl okRef07Same rfl (by simp) ?_
  simp only [argT, irRef07Same.eq_1]
  have c := same_c r.sig r.sig (by omega)
  rw [decide_eq_true rfl] at c
  simp [rqP, ckAll, ckOne, eqPVs, eqPV]
  refine CallG.go c ?_
  simp
theorem salll (l : List Rq) (ll : l.length ≤ 4) (h : ∀ r ∈ l, OkR r) : ∀ (n k : Nat), k + n = l.length → ∀ (Q : Exit → S → Prop),
    (∀ a b c d e f g, Q (.exit 0) (mk [(0, a), (1, b), (5, c), (11, d), (12, e), (13, f), (14, g)] [])) →
    LoopW Try.prog [0, 1, 5] [] irRef07SameAll_L1 (mk [(0, .pv (.sl 7 (qrows l))), (1, .pv (.sl 7 (qrows l))), (5, .pv (.int .i64 (k : Nat)))] []) Q := by
  intro n
  induction n with
  | zero =>
    intro k hk Q h1
    obtain rfl : k = l.length := by omega
    refine LoopW.go irRef07SameAll_L1.eq_1 (by simp) ?_
    simp [qrows_length]
    exact h1 _ _ _ _ _ _ _
  | succ n ih =>
    intro k hk Q h1
    have i1 : k < l.length := by omega
    obtain ⟨r, hr⟩ : ∃ r, l[k]? = some r := ⟨_, List.getElem?_eq_getElem (by omega)⟩
    have w : IntKind.i64.wrap ((k : Int) + 1) = (k + 1 : Nat) := by rw [wrap_i64] <;> omega
    have ho := h r (List.mem_of_getElem? hr)
    have hs := formed_small ho.1
    have c := same07_c r hs.2.2.2.2.2.2.2.2
    refine LoopW.go irRef07SameAll_L1.eq_1 (by simp) ?_
    simp [-getElem?_pos, qrows_get, qrows_length, i1, hr, rqP] at c ⊢
    refine CallG.go c ?_
    simp [w]
    exact ih (k + 1) (by omega) Q h1
theorem sameAll_c (l : List Rq) (ll : l.length ≤ 4) (h : ∀ r ∈ l, OkR r) : ACall Try.prog 19 [.pv (.sl 7 (qrows l)), .pv (.sl 7 (qrows l))] [] (.pv (.bool true)) [] [] := by
  refine ACall.fn (fn := Try.f19) rfl okRef07SameAll rfl (by simp) ?_
  simp only [argT, irRef07SameAll.eq_1]
  simp
  refine salll l ll h l.length 0 (by omega) _ fun a b c d e f g => ?_
  simp
def r0 : Rq := ⟨1, 2, 2, 3, 5, 0, []⟩
theorem textR0 : (if formedF r0 then textR r0 else []) = [1, 2, 2, 3, 10, 0] := by
  have e : formedF r0 = true := by decide
  rw [if_pos e]
  show [1, 2, 2, 3] ++ packed 10 ++ packed 0 = _
  rw [packed_small (by decide), packed_small (by decide)]
  rfl
theorem wakes_c : ACall Try.prog 5 [] [] (.pv (.bool true)) [] [] := by
  refine ACall.fn (fn := Try.f5) rfl okLaw07Wakes rfl (by simp) ?_
  simp only [argT, irLaw07Wakes.eq_1]
  have c := text_c r0 ⟨by decide, by decide⟩ ⟨by decide, by decide⟩
  rw [textR0] at c
  have c2 : ACall Try.prog 12 [.pv (.sl 1 (krows .u8 [1, 2, 2, 3, 10, 0])), .pv (.sl 1 [[.int .u8 1], [.int .u8 2], [.int .u8 2], [.int .u8 3], [.int .u8 10], [.int .u8 0]])] [] (.pv (.bool true)) [] [] := by
    have h := same_c [1, 2, 2, 3, 10, 0] [1, 2, 2, 3, 10, 0] (by decide)
    rw [decide_eq_true rfl] at h
    exact h
  have e : rqP r0 = [.int .i64 1, .int .i64 2, .int .i64 2, .int .i64 3, .int .i64 5, .int .i64 0, .sl 1 []] := rfl
  rw [e] at c
  generalize [1, 2, 2, 3, 10, 0] = q at *
  simp
  refine CallG.go c ?_
  simp
  refine CallG.go c2 ?_
  simp
/-- Long signatures are passed by. -/
theorem longl (l : List Rq) (ll : l.length ≤ 10) : ∀ (n k : Nat), k + n = l.length → ∀ (Q : Exit → S → Prop),
    (∀ a b c d, Q (.exit 0) (mk [(0, .pv (.sl 7 (qrows l))), (16, a), (17, b), (18, c)] d)) →
    Q .ret (mk [(2, .pv (.bool true))] []) →
    LoopW Try.prog [0, 16, 17] [] irLaw07ReqsBatches_L1 (mk [(0, .pv (.sl 7 (qrows l))), (16, .pv (.int .i64 (l.length : Nat))), (17, .pv (.int .i64 (k : Nat)))] []) Q := by
  intro n
  induction n with
  | zero =>
    intro k hk Q h1 h2
    obtain rfl : k = l.length := by omega
    refine LoopW.go irLaw07ReqsBatches_L1.eq_1 (by simp) ?_
    simp
    exact h1 _ _ _ _
  | succ n ih =>
    intro k hk Q h1 h2
    have i1 : k < l.length := by omega
    obtain ⟨r, hr⟩ : ∃ r, l[k]? = some r := ⟨_, List.getElem?_eq_getElem (by omega)⟩
    have w : IntKind.i64.wrap ((k : Int) + 1) = (k + 1 : Nat) := by rw [wrap_i64] <;> omega
    refine LoopW.go irLaw07ReqsBatches_L1.eq_1 (by simp) ?_
    by_cases hs : 2000 < r.sig.length
    · have hs' : (2000 : Int) < (r.sig.length : Int) := by omega
      simp [-getElem?_pos, qrows_get, i1, hr, rqP, krows_length, hs, hs']
      exact h2
    · have hs' : ¬ (2000 : Int) < (r.sig.length : Int) := by omega
      simp [-getElem?_pos, qrows_get, i1, hr, rqP, krows_length, hs, hs', w]
      exact ih (k + 1) (by omega) Q h1 h2
theorem lawBat_c (l : List Rq) (lm : l.length ≤ maxLen) (h : ∀ r ∈ l, I64 r.a ∧ I64 r.b) : ACall Try.prog 4 [.pv (.sl 7 (qrows l))] [] (.pv (.bool true)) [] [] := by
  refine ACall.fn (fn := Try.f4) rfl okLaw07ReqsBatches rfl (by simp) ?_
  simp only [argT, irLaw07ReqsBatches.eq_1]
  by_cases h1 : 10 < l.length
  · have h1' : (10 : Int) < (l.length : Int) := by omega
    simp
    refine CallG.go wakes_c ?_
    simp [qrows_length, h1, h1']
  · have h1' : ¬ (10 : Int) < (l.length : Int) := by omega
    have c1 := rputBatch_c l (by omega) h
    have c2 := refPutBatch_c l (by omega) h
    have lp := longl l (by omega) l.length 0 (by omega)
    cases hf : batchF l
    · rw [hf] at c1 c2
      have c3 := same_c [] [] (by decide)
      rw [decide_eq_true rfl] at c3
      simp [krows] at c1 c2 c3
      simp
      refine CallG.go wakes_c ?_
      simp [qrows_length, h1, h1']
      refine lp _ (fun a b c d => ?_) (by simp)
      simp
      refine CallG.go c1 ?_
      simp
      refine CallG.go c2 ?_
      simp
      refine CallG.go c3 ?_
      simp
    · rw [hf, if_pos rfl, if_pos rfl] at c1 c2
      have hf' := hf
      simp only [batchF, Bool.and_eq_true, decide_eq_true_eq] at hf'
      obtain ⟨⟨l1, l2⟩, hf'⟩ := hf'
      have hok : ∀ r ∈ l, OkR r := fun r hr => ⟨okFrom_mem hf' r hr, h r hr⟩
      have hpl := packed_len64 l.length (by omega)
      have hrl := reqsBy_len hok
      have hbl : (batR l).length = (packed l.length).length + (reqsBy l).length := by rw [batR, List.length_append]
      have c3 := same_c (batR l) (batR l) (by omega)
      rw [decide_eq_true rfl] at c3
      have c4 := rgetBatch_c l hf h
      have c5 := sameAll_c l l2 hok
      generalize batR l = b at *
      simp
      refine CallG.go wakes_c ?_
      simp [qrows_length, h1, h1']
      refine lp _ (fun a b c d => ?_) (by simp)
      simp
      refine CallG.go c1 ?_
      simp
      refine CallG.go c2 ?_
      simp
      refine CallG.go c3 ?_
      simp
      refine CallG.go c4 ?_
      simp
      refine CallG.go c5 ?_
      simp
theorem ok_pair {a b : Shp} {ps : List PV} (h : OKs (.pair a b) ps) : ∃ p q, ps = p ++ q ∧ OKs a p ∧ OKs b q := ⟨_, _, (List.take_append_drop _ _).symm, h.1, h.2⟩
theorem ok_i {ps : List PV} (h : OKs (.int .i64) ps) : ∃ n, ps = [.int .i64 n] ∧ I64 n := ok_i64 h
theorem ok_unit {ps : List PV} (h : OKs .unit ps) : ps = [] := h
def shQ : Shp := .pair (.int .i64) (.pair (.int .i64) (.pair (.pair (.int .i64) (.pair (.int .i64) (.pair (.int .i64) (.pair (.int .i64) .unit)))) (.pair (.slice (.int .u8)) .unit)))
theorem ok_q {ps : List PV} (h : OKs shQ ps) : ∃ x : Rq, (I64 x.a ∧ I64 x.b ∧ x.sig.length ≤ maxLen) ∧ ps = rqP x := by
  obtain ⟨p, q, rfl, h1, h⟩ := ok_pair h
  obtain ⟨q, r, rfl, h2, h⟩ := ok_pair h
  obtain ⟨r, t, rfl, h3, h⟩ := ok_pair h
  obtain ⟨t, u, rfl, h4, h5⟩ := ok_pair h
  obtain ⟨a, rfl, _⟩ := ok_i h1
  obtain ⟨b, rfl, _⟩ := ok_i h2
  obtain ⟨p1, q1, rfl, e1, k1⟩ := ok_pair h3
  obtain ⟨q2, r2, rfl, e2, k2⟩ := ok_pair k1
  obtain ⟨r3, v3, rfl, e3, k3⟩ := ok_pair k2
  obtain ⟨v4, x4, rfl, e4, k4⟩ := ok_pair k3
  obtain ⟨c, rfl, _⟩ := ok_i e1
  obtain ⟨d, rfl, _⟩ := ok_i e2
  obtain ⟨e', rfl, he⟩ := ok_i e3
  obtain ⟨f, rfl, hf⟩ := ok_i e4
  rw [ok_unit k4]
  obtain ⟨l, rfl, hl, _⟩ := ok_sln rfl h4
  rw [ok_unit h5]
  exact ⟨⟨a, b, c, d, e', f, l⟩, ⟨he, hf, hl⟩, rfl⟩
theorem ok_qs : ∀ {es : List (List PV)}, (∀ e ∈ es, OKs shQ e) → ∃ l : List Rq, es = qrows l ∧ ∀ r ∈ l, I64 r.a ∧ I64 r.b
  | [], _ => ⟨[], rfl, by simp⟩
  | e :: es, h => by
    obtain ⟨r, hr, rfl⟩ := ok_q (h e (by simp))
    obtain ⟨l, rfl, hl⟩ := ok_qs (es := es) fun x hx => h x (by simp [hx])
    exact ⟨r :: l, rfl, fun q hq => by
      rcases List.mem_cons.1 hq with rfl | hq
      · exact ⟨hr.1, hr.2.1⟩
      · exact hl q hq⟩
theorem arg_reqs {w : World} {a : Option Addr} {n c : Nat} (h : Shp.Reads w (.slice shQ) [.slice a n c]) : ∃ l : List Rq, ArgR w (.slice a n c) (.pv (.sl 7 (qrows l))) ∧ l.length ≤ maxLen ∧ ∀ r ∈ l, I64 r.a ∧ I64 r.b := by
  obtain ⟨ps, h1, h2, h3⟩ := pvs_of_reads rfl h
  obtain ⟨es, rfl, hl, he⟩ := h2
  obtain ⟨l, rfl, hr⟩ := ok_qs he
  rw [qrows_length] at hl
  exact ⟨l, ArgR.pv (h1.2 0 _ _ rfl rfl), hl, hr⟩
theorem walkReqsBatches (a0 : Option Addr) (n0 : Nat) (cp0 : Nat) (w : World) (k0 : Shp.Reads w (.slice shQ) [.slice a0 n0 cp0]) :
     Calls Try.prog 4 #[.slice a0 n0 cp0] w fun e w' => e = .returned (.bool true) ∧ Below w.heap.size w w' := by
  obtain ⟨l, q0, hl, hr⟩ := arg_reqs k0
  refine lawCalls (lawBat_c l hl hr) rfl fun i v av hv ha => ?_
  match i with
  | 0 => cases hv; cases ha; exact q0
  | n + 1 => simp at hv
end Go.Proofs.Ytgfmemjobpodkaa
