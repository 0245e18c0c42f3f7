/- The law QueueFormed. -/
import Derived.Test.YtcceiicpploclaaQueueC
set_option linter.unusedVariables false
set_option linter.unusedSimpArgs false
namespace Go.Proofs.Ytcceiicpploclaa
open Go.Abs Go.RowKit Go.Ours

theorem addlQueueFormed (l : List Act) (ll : l.length ≤ 60) (hl : ∀ a ∈ l, AOk a) (P : List PV) : ∀ (n k : Nat) (x : List Rq) (m : List (Int × Int)), k + n = l.length → QI x m → ∀ (Q : Exit → S → Prop),
    (∀ a b c d x' m', QI x' m' → Q (.exit 0) (mk [(3, .ptr 3 0), (5, .ptr 15 0), (16, a), (17, b), (18, c), (19, d)] [(3, .pagg P), (15, .agg [.os 36 7 (qrows x'), .mp 515]), (515, qmap m')])) →
    LoopW Try.prog [3, 5, 16, 17, 18] [3, 15, 515] irLaw16QueueFormed_L1 (mk [(3, .ptr 3 0), (5, .ptr 15 0), (16, .pv (.sl 38 (arows l))), (17, .pv (.int .i64 (l.length : Nat))), (18, .pv (.int .i64 (k : Nat)))] [(3, .pagg P), (15, .agg [.os 36 7 (qrows x), .mp 515]), (515, qmap m)]) Q := by
  intro n
  induction n with
  | zero =>
    intro k x m hk hq Q h1
    obtain rfl : k = l.length := by omega
    refine LoopW.go irLaw16QueueFormed_L1.eq_1 (by simp [qmap]) ?_
    have h1' := h1 (.pv (.sl 38 (arows l))) (.pv (.int .i64 (l.length : Nat))) (.pv (.int .i64 (l.length : Nat))) (.pv (.bool false)) x m hq
    simp [qmap] at h1' ⊢
    exact h1'
  | succ n ih =>
    intro k x m hk hq Q h1
    have i1 : k < l.length := by omega
    obtain ⟨a, ha⟩ : ∃ a, l[k]? = some a := ⟨_, List.getElem?_eq_getElem (by omega)⟩
    have w : IntKind.i64.wrap ((k : Int) + 1) = (k + 1 : Nat) := by rw [wrap_i64] <;> omega
    have ho := hl a (List.mem_of_getElem? ha)
    obtain ⟨ls, hp⟩ := ho.lp
    have hpl := hp.len
    have c := add_c x m hq a.r ho.na ho.nb
    have ih' := ih (k + 1) _ _ (by omega) (hq.add ho.na ho.nb) Q h1
    refine LoopW.go irLaw16QueueFormed_L1.eq_1 (by simp [qmap]) ?_
    simp [-getElem?_pos, qcont, qmap, rqP] at c ih'
    simp [-getElem?_pos, qmap, arows_get, i1, ha, actP, rqP, hpl, List.idxOf?_cons]
    refine CallG.go c ?_
    simp [w]
    exact ih'

theorem fml (l : List Rq) (ll : l.length ≤ 4) (ps : List PV) (ls : List Int) (hp : LastP ps ls) (h : ∀ r ∈ l, formedF r = true ∧ lsq ls r.client < r.seq) : ∀ (n k : Nat), k + n = l.length → ∀ (Q : Exit → S → Prop),
    (∀ a b c d e, Q (.exit 2) (mk [(3, a), (8, .os 36 7 (qrows l)), (30, b), (31, c), (32, d), (33, e)] [(3, .pagg ps)])) →
    LoopW Try.prog [3, 8, 30, 31, 32] [3] irLaw16QueueFormed_L2 (mk [(3, .ptr 3 0), (8, .os 36 7 (qrows l)), (30, .pv (.sl 7 (qrows l))), (31, .pv (.int .i64 (l.length : Nat))), (32, .pv (.int .i64 (k : Nat)))] [(3, .pagg ps)]) Q := by
  intro n
  induction n with
  | zero =>
    intro k hk Q h1
    obtain rfl : k = l.length := by omega
    refine LoopW.go irLaw16QueueFormed_L2.eq_1 (by simp) ?_
    simp
    exact h1 _ _ _ _ _
  | succ n ih =>
    intro k hk Q h1
    have i1 : k < l.length := by omega
    obtain ⟨r, hr⟩ : ∃ r, l[k]? = some r := ⟨_, List.getElem?_eq_getElem (by omega)⟩
    have w : IntKind.i64.wrap ((k : Int) + 1) = (k + 1 : Nat) := by rw [wrap_i64] <;> omega
    obtain ⟨hf, hlt⟩ := h r (List.mem_of_getElem? hr)
    have hs := formed_small hf
    obtain ⟨cn, hc⟩ : ∃ n : Nat, r.client = (n : Int) := ⟨r.client.toNat, by omega⟩
    have hcn : cn < 6 := by omega
    have hcn' : (cn : Int) < 6 := by omega
    have hg := hp.get hcn
    rw [hc] at hlt
    have hnl : ¬ r.seq ≤ lsq ls (cn : Int) := by omega
    refine LoopW.go irLaw16QueueFormed_L2.eq_1 (by simp) ?_
    simp [-getElem?_pos, qrows_get, qrows_length, i1, hr, rqP, hc, hg, hcn, hcn', hlt, hnl, w]
    exact ih (k + 1) (by omega) Q h1
theorem rgo_ok (ls : List Int) : ∀ (l out : List Rq), (∀ r ∈ l, formedF r = true) → okFrom [] out = true → okFrom [] (rgo ls l out) = true
  | [], _, _, h => h
  | r :: l, out, hf, h => by
    unfold rgo
    split
    · split
      · rename_i hok
        refine rgo_ok ls l _ (fun q hq => hf q (by simp [hq])) ?_
        have app : ∀ (a b : List Rq), okFrom a b = true → okAt (a ++ b) r = true → okFrom a (b ++ [r]) = true := by
          intro a b
          induction b generalizing a with
          | nil => intro _ h2; simpa [okFrom] using h2
          | cons q b ih =>
            intro h1 h2
            simp only [List.cons_append, okFrom, Bool.and_eq_true] at h1 ⊢
            exact ⟨h1.1, ih _ h1.2 (by simpa using h2)⟩
        refine app [] out h ?_
        simp only [okB, Bool.and_eq_true] at hok
        simp only [List.nil_append, okAt, hf r (by simp), Bool.true_and]
        exact hok.2
      · exact rgo_ok ls l _ (fun q hq => hf q (by simp [hq])) h
    · exact h
theorem lawFormed_c (l : List Act) (hl : ∀ a ∈ l, AOk a) (ps : List PV) (ls : List Int) (hp : LastP ps ls) : ACall Try.prog 3 [.pv (.sl 38 (arows l)), .pagg ps] [] (.pv (.bool true)) [] [] := by
  refine ACall.fn (fn := Try.f3) rfl okLaw16QueueFormed rfl (by simp) ?_
  simp only [argT, irLaw16QueueFormed.eq_1]
  obtain ⟨b, c1, hb⟩ := long_c l
  cases b
  · have ll := hb rfl
    have n0 := qnew_c
    have lp := addlQueueFormed l ll hl ps l.length 0 [] [] (by omega) QI.new
    have hpl := hp.len
    simp only [qmap] at n0 lp
    simp
    refine CallG.go wakes_c ?_
    simp
    refine CallG.go c1 ?_
    simp
    refine CallG.go n0 ?_
    simp [arows_length]
    refine lp _ fun a b c d x m hq => ?_
    have c2 := batch_c x m hq ps ls hp
    have hbl : (batchQ x ls).length ≤ 4 := rgo_len ls x [] (by simp)
    have hbm : ∀ r ∈ batchQ x ls, formedF r = true ∧ lsq ls r.client < r.seq := fun r hr => by
      rcases rgo_mem ls x [] r hr with g | g
      · simp at g
      · exact ⟨hq.fm r g.1, g.2⟩
    have lp2 := fml (batchQ x ls) hbl ps ls hp hbm (batchQ x ls).length 0 (by omega)
    have c3 := refFormedBatch_c (batchQ x ls) (by omega)
    have hbf : (batchQ x ls).length = 0 ∨ batchF (batchQ x ls) = true := by
      by_cases h0 : (batchQ x ls).length = 0
      · exact Or.inl h0
      · right
        unfold batchF
        rw [decide_eq_true ⟨by omega, hbl⟩, Bool.true_and]
        exact rgo_ok ls x [] hq.fm rfl
    generalize batchQ x ls = bq at *
    simp [qcont, qmap] at c2
    simp [qmap, hpl, List.idxOf?_cons]
    refine CallG.go c2 ?_
    simp [qrows_length]
    refine lp2 _ fun a b c d e => ?_
    rcases hbf with h0 | hbf
    · simp [qrows_length, h0]
    · rw [hbf] at c3
      by_cases h0 : bq.length = 0
      · simp [qrows_length, h0]
      · have h0' : ¬ (bq.length : Int) = 0 := by omega
        simp [qrows_length, h0, h0']
        first
          | (refine CallG.go c3 ?_; simp)
          | (intro _; refine CallG.go c3 ?_; simp)
  · simp
    refine CallG.go wakes_c ?_
    simp
    refine CallG.go c1 ?_
    simp
theorem walkQueueFormed (a0 : Option Addr) (n0 : Nat) (cp0 : Nat) (c1 : Array Value) (w : World) (k0 : Shp.Reads w (.slice shA) [.slice a0 n0 cp0]) (k1 : Shp.Reads w (.arr 6 shR) c1.toList) :
     Calls Try.prog 3 #[.slice a0 n0 cp0, .agg c1] w fun e w' => e = .returned (.bool true) ∧ Below w.heap.size w w' := by
  obtain ⟨l, q0, hl, hr⟩ := arg_acts k0
  obtain ⟨ps, ls, q1, hp⟩ := arg_last k1
  refine lawCalls (lawFormed_c l hr ps ls hp) rfl fun i v av hv ha => ?_
  match i with
  | 0 => cases hv; cases ha; exact q0
  | 1 => cases hv; cases ha; exact q1
  | n + 2 => simp at hv
end Go.Proofs.Ytcceiicpploclaa
