/- The law QueueLeast. -/
import Derived.Test.YtcceiicpploclaaQueueC
set_option linter.unusedVariables false
set_option linter.unusedSimpArgs false
namespace Go.Proofs.Ytcceiicpploclaa
open Go.Abs Go.RowKit Go.Ours

theorem addlQueueLeast (l : List Act) (ll : l.length ≤ 60) (hl : ∀ a ∈ l, AOk a) (P : List PV) : ∀ (n k : Nat) (x : List Rq) (m : List (Int × Int)), k + n = l.length → QI x m → ∀ (Q : Exit → S → Prop),
    (∀ a b c d x' m', QI x' m' → Q (.exit 0) (mk [(3, .ptr 3 0), (5, .ptr 15 0), (16, a), (17, b), (18, c), (19, d)] [(3, .pagg P), (15, .agg [.os 36 7 (qrows x'), .mp 515]), (515, qmap m')])) →
    LoopW Try.prog [3, 5, 16, 17, 18] [3, 15, 515] irLaw16QueueLeast_L1 (mk [(3, .ptr 3 0), (5, .ptr 15 0), (16, .pv (.sl 38 (arows l))), (17, .pv (.int .i64 (l.length : Nat))), (18, .pv (.int .i64 (k : Nat)))] [(3, .pagg P), (15, .agg [.os 36 7 (qrows x), .mp 515]), (515, qmap m)]) Q := by
  intro n
  induction n with
  | zero =>
    intro k x m hk hq Q h1
    obtain rfl : k = l.length := by omega
    refine LoopW.go irLaw16QueueLeast_L1.eq_1 (by simp [qmap]) ?_
    have h1' := h1 (.pv (.sl 38 (arows l))) (.pv (.int .i64 (l.length : Nat))) (.pv (.int .i64 (l.length : Nat))) (.pv (.bool false)) x m hq
    simp [qmap] at h1' ⊢
    exact h1'
  | succ n ih =>
    intro k x m hk hq Q h1
    have i1 : k < l.length := by omega
    obtain ⟨a, ha⟩ : ∃ a, l[k]? = some a := ⟨_, List.getElem?_eq_getElem (by omega)⟩
    have w : IntKind.i64.wrap ((k : Int) + 1) = (k + 1 : Nat) := by rw [wrap_i64] <;> omega
    have ho := hl a (List.mem_of_getElem? ha)
    obtain ⟨ls, hp⟩ := ho.lp
    have hpl := hp.len
    have c := add_c x m hq a.r ho.na ho.nb
    have ih' := ih (k + 1) _ _ (by omega) (hq.add ho.na ho.nb) Q h1
    refine LoopW.go irLaw16QueueLeast_L1.eq_1 (by simp [qmap]) ?_
    simp [-getElem?_pos, qcont, qmap, rqP] at c ih'
    simp [-getElem?_pos, qmap, arows_get, i1, ha, actP, rqP, hpl, List.idxOf?_cons]
    refine CallG.go c ?_
    simp [w]
    exact ih'

theorem rgo_app (ls : List Int) : ∀ (l out : List Rq), ∃ t, rgo ls l out = out ++ t
  | [], out => ⟨[], by simp [rgo]⟩
  | r :: l, out => by
    unfold rgo
    split
    · split
      · obtain ⟨t, ht⟩ := rgo_app ls l (out ++ [r])
        exact ⟨r :: t, by rw [ht]; simp⟩
      · exact rgo_app ls l out
    · exact ⟨[], by simp⟩
theorem rgo_first (ls : List Int) : ∀ (l : List Rq), (rgo ls l [])[0]? = l.find? (keepB ls)
  | [] => rfl
  | r :: l => by
    unfold rgo
    rw [if_pos (by simp)]
    by_cases hk : keepB ls r = true
    · have ho : okB ls [] r = true := by simpa [okB, keepB] using hk
      rw [if_pos ho]
      obtain ⟨t, ht⟩ := rgo_app ls l ([] ++ [r])
      rw [ht, List.find?_cons_of_pos hk]
      rfl
    · have ho : ¬ okB ls [] r = true := by simpa [okB, keepB] using hk
      rw [if_neg ho, rgo_first ls l, List.find?_cons_of_neg hk]
theorem lel (x : List Rq) (hx : x.length ≤ 12) (bq : List Rq) (hbq : bq.length ≤ 4) (ps : List PV) (ls : List Int) (hp : LastP ps ls) (h : ∀ r ∈ x, formedF r = true) (hb : bq[0]? = x.find? (keepB ls)) : ∀ (n k : Nat), k + n = x.length → (∀ r ∈ x.take k, keepB ls r = false) → ∀ (Q : Exit → S → Prop),
    ((∀ r ∈ x, keepB ls r = false) → ∀ a b c d e f, Q (.exit 2) (mk [(3, a), (8, .os 36 7 (qrows bq)), (31, b), (32, c), (33, d), (34, e)] f)) →
    (∀ a b c, Q .ret (mk (a ++ b) c) → Q .ret (mk (a ++ b) c)) →
    (∀ a b c d e f g i j o p q r, Q .ret (mk [(4, .pv (.bool true)), (8, a), (10, b), (45, c), (46, d), (47, e), (48, f), (49, g), (50, i), (51, j), (52, o), (53, p), (54, q)] r)) →
    LoopW Try.prog [3, 8, 31, 32, 33] [3] irLaw16QueueLeast_L2 (mk [(3, .ptr 3 0), (8, .os 36 7 (qrows bq)), (31, .os 36 7 (qrows x)), (32, .pv (.int .i64 (x.length : Nat))), (33, .pv (.int .i64 (k : Nat)))] [(3, .pagg ps)]) Q := by
  intro n
  induction n with
  | zero =>
    intro k hk hno Q h1 _ h2
    obtain rfl : k = x.length := by omega
    rw [List.take_length] at hno
    refine LoopW.go irLaw16QueueLeast_L2.eq_1 (by simp) ?_
    simp
    exact h1 hno _ _ _ _ _ _
  | succ n ih =>
    intro k hk hno Q h1 h0 h2
    have i1 : k < x.length := by omega
    obtain ⟨r, hr⟩ : ∃ r, x[k]? = some r := ⟨_, List.getElem?_eq_getElem (by omega)⟩
    have w : IntKind.i64.wrap ((k : Int) + 1) = (k + 1 : Nat) := by rw [wrap_i64] <;> omega
    have hs := formed_small (h r (List.mem_of_getElem? hr))
    have ht : x.take (k + 1) = x.take k ++ [r] := by rw [List.take_add_one, hr]; rfl
    have hd : x = x.take k ++ r :: x.drop (k + 1) := by
      conv => lhs; rw [← List.take_append_drop k x, List.drop_eq_getElem_cons i1]
      rw [List.getElem?_eq_getElem i1] at hr
      simp only [Option.some.injEq] at hr
      rw [hr]
    obtain ⟨cn, hc⟩ : ∃ n : Nat, r.client = (n : Int) := ⟨r.client.toNat, by omega⟩
    have hcn : cn < 6 := by omega
    have hcn' : (cn : Int) < 6 := by omega
    have hg := hp.get hcn
    refine LoopW.go irLaw16QueueLeast_L2.eq_1 (by simp) ?_
    by_cases hlt : lsq ls (cn : Int) < r.seq
    · have hk : keepB ls r = true := by simp [keepB, hc, hlt]
      have hfind : x.find? (keepB ls) = some r := by
        rw [hd, List.find?_append]
        have : (x.take k).find? (keepB ls) = none := List.find?_eq_none.2 fun q hq => by rw [hno q hq]; simp
        rw [this, Option.none_or, List.find?_cons_of_pos hk]
      rw [hfind] at hb
      have hb0 : 0 < bq.length := (List.getElem?_eq_some_iff.1 hb).1
      have hb0' : (0 : Int) < (bq.length : Int) := by omega
      have c := same07_c r (by omega)
      simp only [rqP, hc] at c
      simp [-getElem?_pos, qrows_get, qrows_length, i1, hr, rqP, hc, hg, hcn, hcn', hlt, hb, hb0, hb0']
      refine CallG.go c ?_
      simp
      exact h2 _ _ _ _ _ _ _ _ _ _ _ _ _
    · have hk : keepB ls r = false := by simp [keepB, hc, hlt]
      have hle : r.seq ≤ lsq ls (cn : Int) := by omega
      simp [-getElem?_pos, qrows_get, qrows_length, i1, hr, rqP, hc, hg, hcn, hcn', hlt, hle, w]
      refine ih (k + 1) (by omega) (fun q hq => ?_) Q h1 h0 h2
      rw [ht] at hq
      rcases List.mem_append.1 hq with hq | hq
      · exact hno q hq
      · simp at hq; subst hq; exact hk
theorem lawLeast_c (l : List Act) (hl : ∀ a ∈ l, AOk a) (ps : List PV) (ls : List Int) (hp : LastP ps ls) : ACall Try.prog 4 [.pv (.sl 38 (arows l)), .pagg ps] [] (.pv (.bool true)) [] [] := by
  refine ACall.fn (fn := Try.f4) rfl okLaw16QueueLeast rfl (by simp) ?_
  simp only [argT, irLaw16QueueLeast.eq_1]
  obtain ⟨b, c1, hb⟩ := long_c l
  cases b
  · have ll := hb rfl
    have n0 := qnew_c
    have lp := addlQueueLeast l ll hl ps l.length 0 [] [] (by omega) QI.new
    have hpl := hp.len
    simp only [qmap] at n0 lp
    simp
    refine CallG.go wakes_c ?_
    simp
    refine CallG.go c1 ?_
    simp
    refine CallG.go n0 ?_
    simp [arows_length]
    refine lp _ fun a b c d x m hq => ?_
    have c2 := batch_c x m hq ps ls hp
    have c3 := all_c x m hq
    have hbl : (batchQ x ls).length ≤ 4 := rgo_len ls x [] (by simp)
    have hb0 := rgo_first ls x
    have lp2 := lel x hq.le (batchQ x ls) hbl ps ls hp hq.fm hb0 x.length 0 (by omega) (by simp)
    have hz : (∀ r ∈ x, keepB ls r = false) → (batchQ x ls).length = 0 := fun hz => by
      have : x.find? (keepB ls) = none := List.find?_eq_none.2 fun q hq => by rw [hz q hq]; simp
      rw [this] at hb0
      rw [List.getElem?_eq_none_iff] at hb0
      exact Nat.le_zero.1 hb0
    generalize batchQ x ls = bq at *
    simp [qcont, qmap] at c2 c3
    simp [qmap, hpl, List.idxOf?_cons]
    refine CallG.go c2 ?_
    simp [qrows_length, List.idxOf?_cons]
    refine CallG.go c3 ?_
    simp [qrows_length]
    refine lp2 _ (fun hn a b c d e f => ?_) (fun _ _ _ h => h) (fun a b c d e f g i j o p q r => ?_)
    · have := hz hn
      simp [qrows_length, this]
    · simp
  · simp
    refine CallG.go wakes_c ?_
    simp
    refine CallG.go c1 ?_
    simp
theorem walkQueueLeast (a0 : Option Addr) (n0 : Nat) (cp0 : Nat) (c1 : Array Value) (w : World) (k0 : Shp.Reads w (.slice shA) [.slice a0 n0 cp0]) (k1 : Shp.Reads w (.arr 6 shR) c1.toList) :
     Calls Try.prog 4 #[.slice a0 n0 cp0, .agg c1] w fun e w' => e = .returned (.bool true) ∧ Below w.heap.size w w' := by
  obtain ⟨l, q0, hl, hr⟩ := arg_acts k0
  obtain ⟨ps, ls, q1, hp⟩ := arg_last k1
  refine lawCalls (lawLeast_c l hr ps ls hp) rfl fun i v av hv ha => ?_
  match i with
  | 0 => cases hv; cases ha; exact q0
  | 1 => cases hv; cases ha; exact q1
  | n + 2 => simp at hv
end Go.Proofs.Ytcceiicpploclaa
