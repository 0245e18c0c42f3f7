/- A queue's functions: contracts of Add, Batch, Drop, the program's and the document's. -/
import Derived.Test.YtcceiicpploclaaQueueP
import Derived.Test.YtcceiicpploclaaNumsIrS
set_option linter.unusedVariables false
set_option linter.unusedSimpArgs false
namespace Go.Proofs.Ytcceiicpploclaa
open Go.Abs Go.RowKit Go.Ours

set_option maxHeartbeats 2000000 in
theorem add_c (x : List Rq) (m : List (Int × Int)) (h : QI x m) (r : Rq) (ha : I64 r.a) (hb : I64 r.b) : ACall Try.prog 12 [.ptr 1000 0, .pagg (rqP r)] [qcont x, qmap m] (.pv (.int .i64 (addE x r))) [qcont (addL x r), qmap (addM m x r)] [] := by
  refine ACall.fn (fn := Try.f12) rfl okQueueQueueAdd rfl (by simp) ?_
  simp only [argT, irQueueQueueAdd.eq_1]
  have c1 := rput_c r ha hb
  have hle := h.le
  cases hf : formedF r
  · rw [hf] at c1
    have e : addE x r = 15 := by simp [addE, hf]
    have e1 : addL x r = x := by simp [addL, e]
    have e2 : addM m x r = m := by simp [addM, e]
    rw [e, e1, e2]
    simp [rqP, krows] at c1
    simp [rqP, qcont, qmap]
    refine CallG.go c1 ?_
    simp [range2]
  · rw [hf, if_pos rfl, if_pos rfl] at c1
    have hs := formed_small hf
    generalize putR r = p at *
    by_cases hm : rid r ∈ x.map rid
    · have e : addE x r = 7 := by simp only [addE, hf, Bool.true_eq_false, if_false, hm, if_true]
      have e1 : addL x r = x := by simp [addL, e]
      have e2 : addM m x r = m := by simp [addM, e]
      rw [e, e1, e2]
      have hm' : (r.client, r.seq) ∈ m := (h.iff _).2 hm
      simp [rqP] at c1
      simp [rqP, qcont, qmap]
      refine CallG.go c1 ?_
      simp [ckAll, ckOne, ids_get, hm', range2]
    · have hm' : ¬ (r.client, r.seq) ∈ m := fun hh => hm ((h.iff _).1 hh)
      by_cases h12 : 12 ≤ x.length
      · have e : addE x r = 4 := by simp only [addE, hf, Bool.true_eq_false, if_false, hm, h12, if_true]
        have e1 : addL x r = x := by simp [addL, e]
        have e2 : addM m x r = m := by simp [addM, e]
        rw [e, e1, e2]
        have h12' : (12 : Int) ≤ (x.length : Int) := by omega
        simp [rqP] at c1
        simp [rqP, qcont, qmap]
        refine CallG.go c1 ?_
        simp [ckAll, ckOne, ids_get, hm', qrows_length, h12, h12', range2]
      · have e : addE x r = 0 := by simp only [addE, hf, Bool.true_eq_false, if_false, hm, h12]
        have e1 : addL x r = x ++ [r] := by simp [addL, e]
        have e2 : addM m x r = m ++ [rid r] := by simp [addM, e]
        rw [e, e1, e2]
        have h12' : ¬ (12 : Int) ≤ (x.length : Int) := by omega
        have c2 := own_c r (by omega)
        have hl : x.length + 1 ≤ 100000000000 := by omega
        have er : qrows (x ++ [r]) = qrows x ++ [rqP r] := by simp [qrows]
        simp [rqP] at c1 c2
        simp [rqP, qcont, qmap, er]
        refine CallG.go c1 ?_
        simp [ckAll, ckOne, ids_get, hm', qrows_length, h12, h12']
        refine CallG.go c2 ?_
        simp [qrows_length, hl, ckAll, ckOne, ids_set, hm', range2, rid]
theorem rbl (x : List Rq) (m : List (Int × Int)) (h : QI x m) : ∀ (n k : Nat) (ps : List PV) (ls : List Int) (out : List Rq), k + n = x.length → LastP ps ls → out.length ≤ 4 → ∀ (Q : Exit → S → Prop),
    (∀ a b c d e f g, Q (.exit 0) (mk [(0, a), (3, b), (5, .os 36 7 (qrows (bgo (x.drop k) ls out))), (13, c), (14, d), (15, e), (16, f)] [(3, g), (1000, qcont x), (1001, qmap m)])) →
    (∀ a b c d e f g i j l o, Q (.exit 0) (mk [(0, a), (3, b), (5, .os 36 7 (qrows (bgo (x.drop k) ls out))), (7, o), (13, c), (14, d), (15, e), (19, f), (20, g), (21, i)] [(3, j), (7, l), (1000, qcont x), (1001, qmap m)])) →
    LoopW Try.prog [0, 3, 5, 13, 14, 15] [3, 1000, 1001] irQueueQueueBatch_L1 (mk [(0, .ptr 1000 0), (3, .ptr 3 0), (5, .os 36 7 (qrows out)), (13, .pv (.sl 7 (qrows x))), (14, .pv (.int .i64 (x.length : Nat))), (15, .pv (.int .i64 (k : Nat)))] [(3, .pagg ps), (1000, qcont x), (1001, qmap m)]) Q := by
  intro n
  induction n with
  | zero =>
    intro k ps ls out hk hp ho Q h1 h2
    obtain rfl : k = x.length := by omega
    have e : bgo (x.drop x.length) ls out = out := by rw [List.drop_length]; rfl
    rw [e] at h1
    refine LoopW.go irQueueQueueBatch_L1.eq_1 (by simp [qcont, qmap]) ?_
    simp [qcont, qmap] at h1 ⊢
    exact h1 _ _ _ _ _ _ _
  | succ n ih =>
    intro k ps ls out hk hp ho Q h1 h2
    have i1 : k < x.length := by omega
    have i2 := h.le
    obtain ⟨r, hr⟩ : ∃ r, x[k]? = some r := ⟨_, List.getElem?_eq_getElem (by omega)⟩
    have w : IntKind.i64.wrap ((k : Int) + 1) = (k + 1 : Nat) := by rw [wrap_i64] <;> omega
    have hf := h.fm r (List.mem_of_getElem? hr)
    have hs := formed_small hf
    have hd : x.drop k = r :: x.drop (k + 1) := by
      rw [List.drop_eq_getElem_cons i1]
      rw [List.getElem?_eq_getElem i1] at hr
      simp only [Option.some.injEq] at hr
      rw [hr]
    rw [hd] at h1 h2
    refine LoopW.go irQueueQueueBatch_L1.eq_1 (by simp [qcont, qmap]) ?_
    by_cases h4 : out.length = 4
    · have e : bgo (r :: x.drop (k + 1)) ls out = out := by unfold bgo; rw [if_pos h4]
      rw [e] at h1 h2
      simp [-getElem?_pos, qcont, qmap, qrows_get, qrows_length, i1, hr, rqP, h4] at h2 ⊢
      exact h2 _ _ _ _ _ _ _ _ _ _ _
    · have h4' : ¬ (out.length : Int) = 4 := by omega
      obtain ⟨cn, hc⟩ : ∃ n : Nat, r.client = (n : Int) := ⟨r.client.toNat, by omega⟩
      have hcn : cn < 6 := by omega
      have hcn' : (cn : Int) < 6 := by omega
      have hg := hp.get hcn
      have hlen := hp.len
      have hb5 : cn * 5 + 1 < 30 := by omega
      by_cases hlt : lsq ls (cn : Int) < r.seq
      · have e : bgo (r :: x.drop (k + 1)) ls out = bgo (x.drop (k + 1)) (ls.set cn r.seq) (out ++ [r]) := by
          conv => lhs; unfold bgo
          rw [if_neg h4, if_pos (by rw [hc]; exact hlt), hc, Int.toNat_natCast]
        rw [e] at h1 h2
        have ih' := ih (k + 1) _ _ (out ++ [r]) (by omega) (hp.set hcn r.seq) (by simp; omega) Q h1 h2
        have er : qrows (out ++ [r]) = qrows out ++ [rqP r] := by simp [qrows]
        rw [er] at ih'
        have c := own_c r (by omega)
        have hl : out.length + 1 ≤ 100000000000 := by omega
        simp [-getElem?_pos, qcont, qmap, rqP, hc] at c ih'
        simp [-getElem?_pos, qcont, qmap, qrows_get, qrows_length, i1, hr, rqP, h4, h4', hc, hg, hcn, hcn', hlt, hlen, hb5]
        refine CallG.go c ?_
        simp [qrows_length, hl, w]
        exact ih'
      · have e : bgo (r :: x.drop (k + 1)) ls out = bgo (x.drop (k + 1)) ls out := by
          conv => lhs; unfold bgo
          rw [if_neg h4, if_neg (by rw [hc]; exact hlt)]
        rw [e] at h1 h2
        have ih' := ih (k + 1) _ _ out (by omega) hp ho Q h1 h2
        have hle : r.seq ≤ lsq ls (cn : Int) := by omega
        simp [-getElem?_pos, qcont, qmap] at ih'
        simp [-getElem?_pos, qcont, qmap, qrows_get, qrows_length, i1, hr, rqP, h4, h4', hc, hg, hcn, hcn', hlt, hle, w]
        exact ih'
theorem batch_c (x : List Rq) (m : List (Int × Int)) (h : QI x m) (ps : List PV) (ls : List Int) (hp : LastP ps ls) : ACall Try.prog 13 [.ptr 1000 0, .pagg ps] [qcont x, qmap m] (.os 36 7 (qrows (batchQ x ls))) [qcont x, qmap m] [] := by
  refine ACall.fn (fn := Try.f13) rfl okQueueQueueBatch rfl (by simp) ?_
  simp only [argT, irQueueQueueBatch.eq_1]
  have lp := rbl x m h x.length 0 ps ls [] (by omega) hp (by simp)
  rw [List.drop_zero, bgo_batch h.fm hp.ll] at lp
  have e0 : qrows ([] : List Rq) = [] := rfl
  simp only [e0, qcont, qmap] at lp
  simp [qcont, qmap, qrows_length]
  refine lp _ (fun a b c d e f g => ?_) fun a b c d e f g i j l o => ?_
  · simp [range2]
  · simp [range2]
theorem dpl (x : List Rq) (m : List (Int × Int)) (h : QI x m) (ps : List PV) (ls : List Int) (hp : LastP ps ls) : ∀ (n k : Nat), k + n = x.length → ∀ (Q : Exit → S → Prop),
    (∀ b c d e f g, Q (.exit 0) (mk [(0, .ptr 1000 0), (3, b), (4, .os 36 7 (qrows (dropL x ls))), (12, c), (13, d), (14, e), (15, f)] [(3, g), (1000, qcont x), (1001, qmap (dropM ls x m))])) →
    LoopW Try.prog [0, 3, 4, 12, 13, 14] [3, 1000, 1001] irQueueQueueDrop_L1 (mk [(0, .ptr 1000 0), (3, .ptr 3 0), (4, .os 36 7 (qrows (dropL (x.take k) ls))), (12, .pv (.sl 7 (qrows x))), (13, .pv (.int .i64 (x.length : Nat))), (14, .pv (.int .i64 (k : Nat)))] [(3, .pagg ps), (1000, qcont x), (1001, qmap (dropM ls (x.take k) m))]) Q := by
  intro n
  induction n with
  | zero =>
    intro k hk Q h1
    obtain rfl : k = x.length := by omega
    rw [List.take_length]
    refine LoopW.go irQueueQueueDrop_L1.eq_1 (by simp [qcont, qmap]) ?_
    simp [qcont, qmap] at h1 ⊢
    exact h1 _ _ _ _ _ _
  | succ n ih =>
    intro k hk Q h1
    have i1 : k < x.length := by omega
    have i2 := h.le
    obtain ⟨r, hr⟩ : ∃ r, x[k]? = some r := ⟨_, List.getElem?_eq_getElem (by omega)⟩
    have w : IntKind.i64.wrap ((k : Int) + 1) = (k + 1 : Nat) := by rw [wrap_i64] <;> omega
    have hs := formed_small (h.fm r (List.mem_of_getElem? hr))
    have ht : x.take (k + 1) = x.take k ++ [r] := by rw [List.take_add_one, hr]; rfl
    obtain ⟨cn, hc⟩ : ∃ n : Nat, r.client = (n : Int) := ⟨r.client.toNat, by omega⟩
    have hcn : cn < 6 := by omega
    have hcn' : (cn : Int) < 6 := by omega
    have hg := hp.get hcn
    have hll : (dropL (x.take k) ls).length + 1 ≤ 100000000000 := by
      have := List.length_filter_le (keepB ls) (x.take k)
      have e : (x.take k).length ≤ 12 := by simp; omega
      show (List.filter (keepB ls) (x.take k)).length + 1 ≤ _
      omega
    have ih' := ih (k + 1) (by omega) Q h1
    rw [ht, dropM_app] at ih'
    refine LoopW.go irQueueQueueDrop_L1.eq_1 (by simp [qcont, qmap]) ?_
    by_cases hlt : lsq ls (cn : Int) < r.seq
    · have hk : keepB ls r = true := by simp [keepB, hc, hlt]
      have e1 : dropL (x.take k ++ [r]) ls = dropL (x.take k) ls ++ [r] := by simp [dropL, hk]
      have e2 : ∀ m', dropM ls [r] m' = m' := fun m' => by simp [dropM, hk]
      have er : ∀ l, qrows (l ++ [r]) = qrows l ++ [rqP r] := fun l => by simp [qrows]
      rw [e1, e2, er] at ih'
      generalize dropM ls (x.take k) m = m' at *
      generalize dropL (x.take k) ls = dl at *
      simp [-getElem?_pos, qcont, qmap, rqP, hc] at ih'
      simp [-getElem?_pos, qcont, qmap, qrows_get, qrows_length, i1, hr, rqP, hc, hg, hcn, hcn', hlt, hll, w]
      exact ih'
    · have hk : keepB ls r = false := by simp [keepB, hc, hlt]
      have e1 : dropL (x.take k ++ [r]) ls = dropL (x.take k) ls := by simp [dropL, hk]
      have e2 : ∀ m', dropM ls [r] m' = idel (rid r) m' := fun m' => by simp [dropM, hk]
      rw [e1, e2] at ih'
      have hle : r.seq ≤ lsq ls (cn : Int) := by omega
      have hrid : rid r = ((cn : Int), r.seq) := by simp [rid, hc]
      generalize dropM ls (x.take k) m = m' at *
      generalize dropL (x.take k) ls = dl at *
      simp [-getElem?_pos, qcont, qmap, hrid] at ih'
      simp [-getElem?_pos, qcont, qmap, qrows_get, qrows_length, i1, hr, rqP, hc, hg, hcn, hcn', hlt, hle, w, ckAll, ckOne, ids_del]
      exact ih'
theorem drop_c (x : List Rq) (m : List (Int × Int)) (h : QI x m) (ps : List PV) (ls : List Int) (hp : LastP ps ls) : ACall Try.prog 20 [.ptr 1000 0, .pagg ps] [qcont x, qmap m] (.tup []) [qcont (dropL x ls), qmap (dropM ls x m)] [] := by
  refine ACall.fn (fn := Try.f20) rfl okQueueQueueDrop rfl (by simp) ?_
  simp only [argT, irQueueQueueDrop.eq_1]
  have lp := dpl x m h ps ls hp x.length 0 (by omega)
  have e0 : qrows (dropL ([] : List Rq) ls) = [] := rfl
  have e1 : dropM ls [] m = m := rfl
  simp only [List.take_zero, e0, e1, qcont, qmap] at lp
  simp [qcont, qmap, qrows_length]
  refine lp _ fun b c d e f g => ?_
  simp [range2]
end Go.Proofs.Ytcceiicpploclaa
