/- What a batch replies: plain laws. -/
import Derived.Test.YtdbbbaaopngbcaaExecsF
set_option linter.unusedVariables false
set_option linter.unusedSimpArgs false
namespace Go.Proofs.Ytdbbbaaopngbcaa
open Go.Abs Go.RowKit Go.Ours

def keyR (r : Rp) : Int × Int := (r.client, r.seq)
def keyQ (r : Rq) : Int × Int := (r.client, r.seq)
theorem runF_acc : ∀ (l : List Rq) (w : Wd) (nx : Int × Nat) (out : List Rp), runF l w nx out = ((runF l w nx []).1, (runF l w nx []).2.1, out ++ (runF l w nx []).2.2)
  | [], _, _, out => by simp [runF]
  | r :: l, w, nx, out => by
    rw [runF, runF]
    split
    · rw [runF_acc l w nx out]
    · rw [runF_acc l _ _ (out ++ [repF w nx r]), runF_acc l _ _ ([] ++ [repF w nx r])]
      simp
theorem run_step (r : Rq) (l : List Rq) (w : Wd) (nx : Int × Nat) (h : ¬ skipF w r = true) : runF (r :: l) w nx [] = ((runF l (doneF w nx r) (actF w nx r).2.1 []).1, (runF l (doneF w nx r) (actF w nx r).2.1 []).2.1, repF w nx r :: (runF l (doneF w nx r) (actF w nx r).2.1 []).2.2) := by
  rw [runF, if_neg h, runF_acc]
  rfl
theorem run_keep (c : Nat) : ∀ (l : List Rq) (w : Wd) (nx : Int × Nat), (∀ q ∈ (runF l w nx []).2.2, q.client ≠ (c : Int)) → (∀ q ∈ (runF l w nx []).2.2, 0 ≤ q.client) → (runF l w nx []).1.last[c]? = w.last[c]?
  | [], _, _, _, _ => rfl
  | r :: l, w, nx, h, h2 => by
    by_cases hs : skipF w r = true
    · rw [runF, if_pos hs] at h h2 ⊢
      exact run_keep c l w nx h h2
    · rw [run_step r l w nx hs] at h h2 ⊢
      simp only at h h2 ⊢
      rw [run_keep c l _ _ (fun q hq => h q (by simp [hq])) (fun q hq => h2 q (by simp [hq]))]
      have h0 := h (repF w nx r) (by simp)
      have h3 := h2 (repF w nx r) (by simp)
      simp only [repF] at h0 h3
      simp only [doneF]
      rw [List.getElem?_set_ne (by omega)]
theorem run_out : ∀ (l : List Rq) (w : Wd) (nx : Int × Nat), w.last.length = 6 →
    ((runF l w nx []).2.2.map keyR).Sublist (l.map keyQ) ∧ (∀ q ∈ (runF l w nx []).2.2, q.slot = w.slot ∧ lastSeq w q.client < q.seq ∧ 0 ≤ q.client ∧ q.client < 6) ∧
    ∀ A q B, (runF l w nx []).2.2 = A ++ q :: B → (∀ s ∈ B, s.client ≠ q.client) → (runF l w nx []).1.last[q.client.toNat]? = some q
  | [], w, nx, h => ⟨by simp [runF], by simp [runF], fun A q B e => by simp [runF] at e⟩
  | r :: l, w, nx, h => by
    by_cases hs : skipF w r = true
    · rw [runF, if_pos hs]
      obtain ⟨h1, h2, h3⟩ := run_out l w nx h
      exact ⟨h1.cons _, h2, h3⟩
    · have hs' : skipF w r = false := by simpa using hs
      have hk : knownF r = true := by
        simp only [skipF, Bool.or_eq_false_iff, Bool.not_eq_false'] at hs'
        exact hs'.1
      obtain ⟨k, hk1, hk2⟩ := known_lt hk
      rw [run_step r l w nx hs]
      simp only
      obtain ⟨h1, h2, h3⟩ := run_out l (doneF w nx r) (actF w nx r).2.1 (by simp [doneF, h])
      refine ⟨?_, fun q hq => ?_, fun A q B e hB => ?_⟩
      · rw [List.map_cons, List.map_cons]
        exact h1.cons_cons _
      · rcases List.mem_cons.1 hq with rfl | hq
        · simp only [skipF, hk, Bool.not_true, Bool.false_or, decide_eq_false_iff_not] at hs'
          refine ⟨rfl, ?_, ?_, ?_⟩
          · show lastSeq w r.client < r.seq
            omega
          · show 0 ≤ r.client
            omega
          · show r.client < 6
            omega
        · obtain ⟨a1, a2, a3, a4⟩ := h2 q hq
          have := (lastSeq_done h nx r hk hs' q.client a3).1
          exact ⟨a1, by omega, a3, a4⟩
      · cases A with
        | nil =>
          simp only [List.nil_append, List.cons.injEq] at e
          obtain ⟨rfl, rfl⟩ := e
          have e1 : (repF w nx r).client = (k : Int) := hk1
          rw [e1, Int.toNat_natCast]
          rw [run_keep k l _ _ (fun q hq => by rw [← e1]; exact hB q hq) (fun q hq => (h2 q hq).2.2.1)]
          simp [doneF, hk1, h, hk2]
        | cons a A =>
          simp only [List.cons_append, List.cons.injEq] at e
          exact h3 A q B e.2 hB
theorem exec_out (w : Wd) (l : List Rq) (h : w.last.length = 6) :
    ((execF w l).2.map keyR).Sublist (l.map keyQ) ∧ (∀ q ∈ (execF w l).2, q.slot = (execF w l).1.slot ∧ lastSeq w q.client < q.seq ∧ 0 ≤ q.client ∧ q.client < 6) ∧
    ∀ A q B, (execF w l).2 = A ++ q :: B → (∀ s ∈ B, s.client ≠ q.client) → (execF w l).1.last[q.client.toNat]? = some q := by
  obtain ⟨h1, h2, h3⟩ := run_out l (begF w) w.view h
  refine ⟨h1, fun q hq => ?_, fun A q B e hB => ?_⟩
  · obtain ⟨a1, a2, a3⟩ := h2 q hq
    rw [execF_slot]
    exact ⟨a1, a2, a3⟩
  · unfold execF
    simp only [endF_last]
    exact h3 A q B e hB
end Go.Proofs.Ytdbbbaaopngbcaa
