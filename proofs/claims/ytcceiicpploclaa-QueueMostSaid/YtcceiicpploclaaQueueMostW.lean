/- The law QueueMost. -/
import Derived.Test.YtcceiicpploclaaQueueC
set_option linter.unusedVariables false
set_option linter.unusedSimpArgs false
namespace Go.Proofs.Ytcceiicpploclaa
open Go.Abs Go.RowKit Go.Ours

theorem mol3 (x : List Rq) (m : List (Int × Int)) (hq : QI x m) (A : AV) (p1 p2 p3 : AV) (j : Nat) (hj : j < x.length) (X : AV) (hX : X = .agg [.os 36 7 (qrows x), .mp 514]) : ∀ (n k : Nat), k + n = j → ∀ (Q : Exit → S → Prop),
    (∀ a b c d, Q (.exit 4) (mk [(3, .ptr 14 0), (7, A), (8, a), (15, p1), (16, p2), (17, p3), (48, .pv (.int .i64 (x.length : Nat))), (49, .pv (.int .i64 (j : Nat))), (52, b), (53, c), (54, d)] [(14, X), (514, qmap m)])) →
    A = .os 36 7 (qrows x) →
    LoopW Try.prog [3, 7, 8, 15, 16, 17, 48, 49, 52, 53] [14, 514] irLaw16QueueMost_L3 (mk [(3, .ptr 14 0), (7, A), (8, .pv (.int .i64 (j : Nat))), (15, p1), (16, p2), (17, p3), (48, .pv (.int .i64 (x.length : Nat))), (49, .pv (.int .i64 (j : Nat))), (52, .pv (.int .i64 (j : Nat))), (53, .pv (.int .i64 (k : Nat)))] [(14, X), (514, qmap m)]) Q := by
  intro n
  induction n with
  | zero =>
    intro k hk Q h1 hA
    obtain rfl : k = j := by omega
    refine LoopW.go irLaw16QueueMost_L3.eq_1 (by simp [qmap]) ?_
    simp [qmap] at h1 ⊢
    exact h1 _ _ _ _
  | succ n ih =>
    intro k hk Q h1 hA
    have i1 : k < j := by omega
    have i2 : k < x.length := by omega
    have hle := hq.le
    obtain ⟨r, hr⟩ : ∃ r, x[k]? = some r := ⟨_, List.getElem?_eq_getElem (by omega)⟩
    obtain ⟨q, hqj⟩ : ∃ q, x[j]? = some q := ⟨_, List.getElem?_eq_getElem hj⟩
    have w : IntKind.i64.wrap ((k : Int) + 1) = (k + 1 : Nat) := by rw [wrap_i64] <;> omega
    have hne : ¬ (q.client = r.client ∧ q.seq = r.seq) := fun h => by
      have := nodup_getP hq.un (i := k) (j := j) (x := rid r) (by rw [List.getElem?_map, hr]; rfl) (by rw [List.getElem?_map, hqj]; simp [rid, h.1, h.2])
      omega
    have ih' := ih (k + 1) (by omega) Q h1 hA
    subst hA hX
    refine LoopW.go irLaw16QueueMost_L3.eq_1 (by simp [qmap]) ?_
    simp [qmap] at ih'
    by_cases hc : q.client = r.client
    · have hs : ¬ q.seq = r.seq := fun h => hne ⟨hc, h⟩
      simp [-getElem?_pos, qmap, qrows_get, qrows_length, i1, i2, hj, hr, hqj, rqP, hc, hs, w]
      exact ih'
    · simp [-getElem?_pos, qmap, qrows_get, qrows_length, i1, i2, hj, hr, hqj, rqP, hc, w]
      exact ih'
theorem mol2 (x : List Rq) (m : List (Int × Int)) (hq : QI x m) (p1 p2 p3 : AV) : ∀ (n k : Nat), k + n = x.length → ∀ (Q : Exit → S → Prop),
    (∀ a b c d, Q (.exit 2) (mk [(3, .ptr 14 0), (7, a), (15, p1), (16, p2), (17, p3), (48, b), (49, c), (50, d)] [(14, .agg [.os 36 7 (qrows x), .mp 514]), (514, qmap m)])) →
    LoopW Try.prog [3, 7, 15, 16, 17, 48, 49] [14, 514] irLaw16QueueMost_L2 (mk [(3, .ptr 14 0), (7, .os 36 7 (qrows x)), (15, p1), (16, p2), (17, p3), (48, .pv (.int .i64 (x.length : Nat))), (49, .pv (.int .i64 (k : Nat)))] [(14, .agg [.os 36 7 (qrows x), .mp 514]), (514, qmap m)]) Q := by
  intro n
  induction n with
  | zero =>
    intro k hk Q h1
    obtain rfl : k = x.length := by omega
    refine LoopW.go irLaw16QueueMost_L2.eq_1 (by simp [qmap]) ?_
    simp [qmap] at h1 ⊢
    exact h1 _ _ _ _
  | succ n ih =>
    intro k hk Q h1
    have i1 : k < x.length := by omega
    have hle := hq.le
    have w : IntKind.i64.wrap ((k : Int) + 1) = (k + 1 : Nat) := by rw [wrap_i64] <;> omega
    have ih' := ih (k + 1) (by omega) Q h1
    have lp := mol3 x m hq (.os 36 7 (qrows x)) p1 p2 p3 k i1 (.agg [.os 36 7 (qrows x), .mp 514]) rfl k 0 (by omega)
    simp [qmap] at ih' lp
    refine LoopW.go irLaw16QueueMost_L2.eq_1 (by simp [qmap]) ?_
    simp [qmap, i1]
    refine lp _ fun a b c d => ?_
    simp [w]
    exact ih'
theorem mol1 (l : List Act) (ll : l.length ≤ 60) (hl : ∀ a ∈ l, AOk a) : ∀ (n k : Nat) (x : List Rq) (m : List (Int × Int)), k + n = l.length → QI x m → ∀ (Q : Exit → S → Prop),
    (∀ a b c d e f g, Q (.exit 0) (mk [(3, a), (15, b), (16, c), (17, d), (18, e)] [(14, f), (514, g)])) →
    LoopW Try.prog [3, 15, 16, 17] [14, 514] irLaw16QueueMost_L1 (mk [(3, .ptr 14 0), (15, .pv (.sl 38 (arows l))), (16, .pv (.int .i64 (l.length : Nat))), (17, .pv (.int .i64 (k : Nat)))] [(14, .agg [.os 36 7 (qrows x), .mp 514]), (514, qmap m)]) Q := by
  intro n
  induction n with
  | zero =>
    intro k x m hk hq Q h1
    obtain rfl : k = l.length := by omega
    refine LoopW.go irLaw16QueueMost_L1.eq_1 (by simp [qmap]) ?_
    simp [qmap]
    exact h1 _ _ _ _ _ _ _
  | succ n ih =>
    intro k x m hk hq Q h1
    have i1 : k < l.length := by omega
    obtain ⟨a, ha⟩ : ∃ a, l[k]? = some a := ⟨_, List.getElem?_eq_getElem (by omega)⟩
    have w : IntKind.i64.wrap ((k : Int) + 1) = (k + 1 : Nat) := by rw [wrap_i64] <;> omega
    have ho := hl a (List.mem_of_getElem? ha)
    obtain ⟨ls, hp⟩ := ho.lp
    have hpl := hp.len
    have hp30 : a.ps.take 30 = a.ps := List.take_of_length_le (by omega)
    have c1 := all_c x m hq
    have hxle := hq.le
    have fin : ∀ (y : List Rq) (my : List (Int × Int)), QI y my → ∀ (Q : Exit → S → Prop), (∀ a b c d e f g, Q (.exit 0) (mk [(3, a), (15, b), (16, c), (17, d), (18, e)] [(14, f), (514, g)])) →
        LoopW Try.prog [3, 15, 16, 17] [14, 514] irLaw16QueueMost_L1 (mk [(3, .ptr 14 0), (15, .pv (.sl 38 (arows l))), (16, .pv (.int .i64 (l.length : Nat))), (17, .pv (.int .i64 ((k : Int) + 1)))] [(14, .agg [.os 36 7 (qrows y), .mp 514]), (514, .mc true [.i .i64, .i .i64] (ids my))]) Q := fun y my hy Q h => by
      have := ih (k + 1) y my (by omega) hy Q h
      simp [qmap] at this
      exact this
    refine LoopW.go irLaw16QueueMost_L1.eq_1 (by simp [qmap]) ?_
    by_cases hk2 : a.kd = 2
    · have c2 := drop_c x m hq a.ps ls hp
      have hy := hq.drop ls
      have c3 := all_c _ _ hy
      have hyle := hy.le
      have lp := mol2 (dropL x ls) (dropM ls x m) hy (.pv (.sl 38 (arows l))) (.pv (.int .i64 (l.length : Nat))) (.pv (.int .i64 (k : Nat))) (dropL x ls).length 0 (by omega)
      have ih' := fin _ _ hy Q h1
      generalize dropL x ls = y at *
      generalize dropM ls x m = my at *
      have h12 : ¬ (12 : Int) < (y.length : Int) := by omega
      have h12' : ¬ 12 < y.length := by omega
      simp [qcont, qmap] at c1 c2 c3 lp
      simp [-getElem?_pos, qmap, arows_get, i1, ha, actP, rqP, hpl, List.idxOf?_cons]
      refine CallG.go c1 ?_
      simp [hk2, hpl, hp30, List.idxOf?_cons]
      refine CallG.go c2 ?_
      simp [List.idxOf?_cons]
      refine CallG.go c3 ?_
      simp [qrows_length, h12, h12']
      refine lp _ fun a b c d => ?_
      simp [w]
      exact ih'
    · have c2 := add_c x m hq a.r ho.na ho.nb
      have hy := hq.add (r := a.r) ho.na ho.nb
      have c3 := all_c _ _ hy
      have hyle := hy.le
      have lp := mol2 (addL x a.r) (addM m x a.r) hy (.pv (.sl 38 (arows l))) (.pv (.int .i64 (l.length : Nat))) (.pv (.int .i64 (k : Nat))) (addL x a.r).length 0 (by omega)
      have ih' := fin _ _ hy Q h1
      by_cases he : addE x a.r = 0
      · rw [he] at c2
        generalize addL x a.r = y at *
        generalize addM m x a.r = my at *
        have h12 : ¬ (12 : Int) < (y.length : Int) := by omega
        have h12' : ¬ 12 < y.length := by omega
        simp [qcont, qmap, rqP] at c1 c2 c3 lp
        simp [-getElem?_pos, qmap, arows_get, i1, ha, actP, rqP, hpl, List.idxOf?_cons]
        refine CallG.go c1 ?_
        simp [hk2, hpl, hp30, List.idxOf?_cons]
        refine CallG.go c2 ?_
        simp [List.idxOf?_cons]
        refine CallG.go c3 ?_
        simp [qrows_length, h12, h12']
        refine lp _ fun a b c d => ?_
        simp [w]
        exact ih'
      · have ex : addL x a.r = x := by simp [addL, he]
        rw [ex] at c2 c3 lp ih' hyle hy
        have c4 := sameAll_c x (by omega) (fun r hr => (formed_small (hq.fm r hr)).2.2.2.2.2.2.2.2)
        generalize addM m x a.r = my at *
        generalize addE x a.r = e at *
        have h12 : ¬ (12 : Int) < (x.length : Int) := by omega
        have h12' : ¬ 12 < x.length := by omega
        simp [qcont, qmap, rqP] at c1 c2 c3 lp
        simp [-getElem?_pos, qmap, arows_get, i1, ha, actP, rqP, hpl, List.idxOf?_cons]
        refine CallG.go c1 ?_
        simp [hk2, hpl, hp30, List.idxOf?_cons]
        refine CallG.go c2 ?_
        simp [he, List.idxOf?_cons]
        refine CallG.go c3 ?_
        simp
        refine CallG.go c4 ?_
        simp [List.idxOf?_cons]
        refine CallG.go c3 ?_
        simp [qrows_length, h12, h12']
        refine lp _ fun a b c d => ?_
        simp [w]
        exact ih'
theorem lawMost_c (l : List Act) (hl : ∀ a ∈ l, AOk a) : ACall Try.prog 8 [.pv (.sl 38 (arows l))] [] (.pv (.bool true)) [] [] := by
  refine ACall.fn (fn := Try.f8) rfl okLaw16QueueMost rfl (by simp) ?_
  simp only [argT, irLaw16QueueMost.eq_1]
  obtain ⟨b, c1, hb⟩ := long_c l
  cases b
  · have ll := hb rfl
    have n0 := qnew_c
    have lp := mol1 l ll hl l.length 0 [] [] (by omega) QI.new
    simp only [qmap] at n0 lp
    simp
    refine CallG.go wakes_c ?_
    simp
    refine CallG.go c1 ?_
    simp
    refine CallG.go n0 ?_
    simp [arows_length]
    refine lp _ fun a b c d e f g => ?_
    simp
  · simp
    refine CallG.go wakes_c ?_
    simp
    refine CallG.go c1 ?_
    simp
theorem walkQueueMost (a0 : Option Addr) (n0 : Nat) (cp0 : Nat) (w : World) (k0 : Shp.Reads w (.slice shA) [.slice a0 n0 cp0]) :
     Calls Try.prog 8 #[.slice a0 n0 cp0] w fun e w' => e = .returned (.bool true) ∧ Below w.heap.size w w' := by
  obtain ⟨l, q0, hl, hr⟩ := arg_acts k0
  refine lawCalls (lawMost_c l hr) rfl fun i v av hv ha => ?_
  match i with
  | 0 => cases hv; cases ha; exact q0
  | n + 1 => simp at hv
end Go.Proofs.Ytcceiicpploclaa
