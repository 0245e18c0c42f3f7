/- The law QueueActs. -/
import Derived.Test.YtcceiicpploclaaQueueC
set_option linter.unusedVariables false
set_option linter.unusedSimpArgs false
namespace Go.Proofs.Ytcceiicpploclaa
open Go.Abs Go.RowKit Go.Ours

set_option maxHeartbeats 2000000 in
theorem acl (l : List Act) (ll : l.length ≤ 60) (hl : ∀ a ∈ l, AOk a) : ∀ (n k : Nat) (x : List Rq) (m : List (Int × Int)), k + n = l.length → QI x m → ∀ (Q : Exit → S → Prop),
    (∀ a b c d e f g i, Q (.exit 0) (mk [(3, a), (4, b), (15, c), (16, d), (17, e), (18, f)] [(14, g), (514, i)])) →
    LoopW Try.prog [3, 4, 15, 16, 17] [14, 514] irLaw16QueueActs_L1 (mk [(3, .ptr 14 0), (4, .pv (.sl 7 (qrows x))), (15, .pv (.sl 38 (arows l))), (16, .pv (.int .i64 (l.length : Nat))), (17, .pv (.int .i64 (k : Nat)))] [(14, .agg [.os 36 7 (qrows x), .mp 514]), (514, qmap m)]) Q := by
  intro n
  induction n with
  | zero =>
    intro k x m hk hq Q h1
    obtain rfl : k = l.length := by omega
    refine LoopW.go irLaw16QueueActs_L1.eq_1 (by simp [qmap]) ?_
    simp [qmap]
    exact h1 _ _ _ _ _ _ _ _
  | succ n ih =>
    intro k x m hk hq Q h1
    have i1 : k < l.length := by omega
    obtain ⟨a, ha⟩ : ∃ a, l[k]? = some a := ⟨_, List.getElem?_eq_getElem (by omega)⟩
    have w : IntKind.i64.wrap ((k : Int) + 1) = (k + 1 : Nat) := by rw [wrap_i64] <;> omega
    have ho := hl a (List.mem_of_getElem? ha)
    obtain ⟨ls, hp⟩ := ho.lp
    have hpl := hp.len
    have hp30 : a.ps.take 30 = a.ps := List.take_of_length_le (by omega)
    have hxle := hq.le
    have fin : ∀ (y : List Rq) (my : List (Int × Int)), QI y my → ∀ (Q : Exit → S → Prop), (∀ a b c d e f g i, Q (.exit 0) (mk [(3, a), (4, b), (15, c), (16, d), (17, e), (18, f)] [(14, g), (514, i)])) →
        LoopW Try.prog [3, 4, 15, 16, 17] [14, 514] irLaw16QueueActs_L1 (mk [(3, .ptr 14 0), (4, .pv (.sl 7 (qrows y))), (15, .pv (.sl 38 (arows l))), (16, .pv (.int .i64 (l.length : Nat))), (17, .pv (.int .i64 ((k : Int) + 1)))] [(14, .agg [.os 36 7 (qrows y), .mp 514]), (514, .mc true [.i .i64, .i .i64] (ids my))]) Q := fun y my hy Q h => by
      have := ih (k + 1) y my (by omega) hy Q h
      simp [qmap] at this
      exact this
    refine LoopW.go irLaw16QueueActs_L1.eq_1 (by simp [qmap]) ?_
    by_cases k0 : a.kd = 0
    · have c2 := add_c x m hq a.r ho.na ho.nb
      have c3 := refAdd_c x a.r hxle
      have hd := refAddA_dem x a.r
      have hy := hq.add (r := a.r) ho.na ho.nb
      have c4 := all_c _ _ hy
      have hyle := hy.le
      have c5 := sameAll_c (addL x a.r) (by omega) (fun r hr => (formed_small (hy.fm r hr)).2.2.2.2.2.2.2.2)
      have c6 := len_c (addL x a.r) (addM m x a.r)
      have ih' := fin _ _ hy Q h1
      have hdd : refAddA x a.r = .os 36 7 (qrows (addL x a.r)) ∨ refAddA x a.r = .pv (.sl 7 (qrows (addL x a.r))) := by
        unfold refAddA addL
        split
        · exact Or.inl rfl
        · exact Or.inr rfl
      clear hd
      generalize addL x a.r = y at *
      generalize addM m x a.r = my at *
      generalize addE x a.r = e at *
      generalize refAddA x a.r = ra at *
      simp [qcont, qmap, rqP] at c2 c3 c4 c6
      simp [-getElem?_pos, qmap, arows_get, i1, ha, actP, rqP, hpl, k0, List.idxOf?_cons]
      refine CallG.go c2 ?_
      rcases hdd with rfl | rfl
      · simp
        refine CallG.go c3 ?_
        simp [List.idxOf?_cons]
        refine CallG.go c4 ?_
        simp
        refine CallG.go c5 ?_
        simp [List.idxOf?_cons]
        refine CallG.go c6 ?_
        simp [qrows_length, w]
        exact ih'
      · simp
        refine CallG.go c3 ?_
        simp [List.idxOf?_cons]
        refine CallG.go c4 ?_
        simp
        refine CallG.go c5 ?_
        simp [List.idxOf?_cons]
        refine CallG.go c6 ?_
        simp [qrows_length, w]
        exact ih'
    · by_cases k1 : a.kd = 1
      · have c2 := batch_c x m hq a.ps ls hp
        have c3 := refBatch_c x hxle hq.fm a.ps ls hp
        have hbl : (batchQ x ls).length ≤ 4 := rgo_len ls x [] (by simp)
        have c4 := sameAll_c (batchQ x ls) (by omega) (fun r hr => by
          rcases rgo_mem ls x [] r hr with g | g
          · simp at g
          · exact (formed_small (hq.fm r g.1)).2.2.2.2.2.2.2.2)
        have c5 := all_c x m hq
        have c6 := sameAll_c x (by omega) (fun r hr => (formed_small (hq.fm r hr)).2.2.2.2.2.2.2.2)
        have c7 := len_c x m
        have ih' := fin _ _ hq Q h1
        generalize batchQ x ls = bq at *
        simp [qcont, qmap] at c2 c5 c7
        simp [-getElem?_pos, qmap, arows_get, i1, ha, actP, rqP, hpl, hp30, k0, k1, List.idxOf?_cons]
        refine CallG.go c2 ?_
        simp [hpl, hp30]
        refine CallG.go c3 ?_
        simp
        refine CallG.go c4 ?_
        simp [List.idxOf?_cons]
        refine CallG.go c5 ?_
        simp
        refine CallG.go c6 ?_
        simp [List.idxOf?_cons]
        refine CallG.go c7 ?_
        simp [qrows_length, w]
        exact ih'
      · by_cases k2 : a.kd = 2
        · have c2 := drop_c x m hq a.ps ls hp
          have c3 := refDrop_c x hxle hq.fm a.ps ls hp
          have hy := hq.drop ls
          have c4 := all_c _ _ hy
          have hyle := hy.le
          have c5 := sameAll_c (dropL x ls) (by omega) (fun r hr => (formed_small (hy.fm r hr)).2.2.2.2.2.2.2.2)
          have c6 := len_c (dropL x ls) (dropM ls x m)
          have ih' := fin _ _ hy Q h1
          generalize dropL x ls = y at *
          generalize dropM ls x m = my at *
          simp [qcont, qmap] at c2 c4 c6
          simp [-getElem?_pos, qmap, arows_get, i1, ha, actP, rqP, hpl, hp30, k0, k1, k2, List.idxOf?_cons]
          refine CallG.go c2 ?_
          simp [hpl, hp30]
          refine CallG.go c3 ?_
          simp [List.idxOf?_cons]
          refine CallG.go c4 ?_
          simp
          refine CallG.go c5 ?_
          simp [List.idxOf?_cons]
          refine CallG.go c6 ?_
          simp [qrows_length, w]
          exact ih'
        · have c5 := all_c x m hq
          have c6 := sameAll_c x (by omega) (fun r hr => (formed_small (hq.fm r hr)).2.2.2.2.2.2.2.2)
          have c7 := len_c x m
          have ih' := fin _ _ hq Q h1
          simp [qcont, qmap] at c5 c7
          simp [-getElem?_pos, qmap, arows_get, i1, ha, actP, rqP, hpl, k0, k1, k2, List.idxOf?_cons]
          refine CallG.go c5 ?_
          simp
          refine CallG.go c6 ?_
          simp [List.idxOf?_cons]
          refine CallG.go c7 ?_
          simp [qrows_length, w]
          exact ih'
theorem lawActs_c (l : List Act) (hl : ∀ a ∈ l, AOk a) : ACall Try.prog 5 [.pv (.sl 38 (arows l))] [] (.pv (.bool true)) [] [] := by
  refine ACall.fn (fn := Try.f5) rfl okLaw16QueueActs rfl (by simp) ?_
  simp only [argT, irLaw16QueueActs.eq_1]
  obtain ⟨b, c1, hb⟩ := long_c l
  cases b
  · have ll := hb rfl
    have n0 := qnew_c
    have lp := acl l ll hl l.length 0 [] [] (by omega) QI.new
    have e0 : qrows ([] : List Rq) = [] := rfl
    simp only [qmap, e0] at n0 lp
    simp
    refine CallG.go wakes_c ?_
    simp
    refine CallG.go c1 ?_
    simp
    refine CallG.go n0 ?_
    simp [arows_length]
    refine lp _ fun a b c d e f g i => ?_
    simp
  · simp
    refine CallG.go wakes_c ?_
    simp
    refine CallG.go c1 ?_
    simp
theorem walkQueueActs (a0 : Option Addr) (n0 : Nat) (cp0 : Nat) (w : World) (k0 : Shp.Reads w (.slice shA) [.slice a0 n0 cp0]) :
     Calls Try.prog 5 #[.slice a0 n0 cp0] w fun e w' => e = .returned (.bool true) ∧ Below w.heap.size w w' := by
  obtain ⟨l, q0, hl, hr⟩ := arg_acts k0
  refine lawCalls (lawActs_c l hr) rfl fun i v av hv ha => ?_
  match i with
  | 0 => cases hv; cases ha; exact q0
  | n + 1 => simp at hv
end Go.Proofs.Ytcceiicpploclaa
