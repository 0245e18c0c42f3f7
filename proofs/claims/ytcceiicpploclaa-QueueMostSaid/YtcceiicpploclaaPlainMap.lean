/- Maps of whole numbers, as the abstract machine tells them; batches of requests in plain words. No condition. -/
import Derived.Test.YtcceiicpploclaaReqsIr
set_option linter.unusedVariables false
set_option linter.unusedSimpArgs false
namespace Go.Proofs.Ytcceiicpploclaa
open Go.Abs Go.RowKit Go.Ours

@[simp] theorem kp_none : ∀ (ms : List (Nat × AV)), kp [] ms = []
  | [] => rfl
  | (m, u) :: r => by rw [kp_cons]; simp [kp_none r]
/-- A map from whole numbers to whole numbers. -/
def mis (m : List (Int × Int)) : List (List PV × PV) := m.map fun p => ([.int .i64 p.1], .int .i64 p.2)
def iget (m : List (Int × Int)) (c : Int) : Int := match m with
  | [] => 0
  | (k, v) :: r => if c = k then v else iget r c
def iset (m : List (Int × Int)) (c x : Int) : List (Int × Int) := match m with
  | [] => [(c, x)]
  | (k, v) :: r => if c = k then (c, x) :: r else (k, v) :: iset r c x
theorem mis_nil : ([] : List (List PV × PV)) = mis [] := rfl
theorem mis_get (m : List (Int × Int)) (c : Int) : (mfind [.int .i64 c] (mis m)).getD (.int .i64 0) = .int .i64 (iget m c) := by
  induction m with
  | nil => rfl
  | cons p r ih =>
    obtain ⟨k, v⟩ := p
    by_cases h : c = k
    · subst h; simp [mis, mfind, eqPVs, eqPV, iget]
    · have e : mfind [.int .i64 c] (mis ((k, v) :: r)) = mfind [.int .i64 c] (mis r) := by simp [mis, mfind, eqPVs, eqPV, h]
      rw [e, ih]
      simp [iget, h]
theorem mis_set (m : List (Int × Int)) (c x : Int) : mset [.int .i64 c] (.int .i64 x) (mis m) = mis (iset m c x) := by
  induction m with
  | nil => rfl
  | cons p r ih =>
    obtain ⟨k, v⟩ := p
    by_cases h : c = k
    · subst h; simp [mis, mset, eqPVs, eqPV, iset]
    · have e : mset [.int .i64 c] (.int .i64 x) (mis ((k, v) :: r)) = ([.int .i64 k], .int .i64 v) :: mset [.int .i64 c] (.int .i64 x) (mis r) := by simp [mis, mset, eqPVs, eqPV, h]
      rw [e, ih]
      simp [iset, h, mis]
theorem iget_set (m : List (Int × Int)) (c x d : Int) : iget (iset m c x) d = if d = c then x else iget m d := by
  induction m with
  | nil => simp [iset, iget]
  | cons p r ih =>
    obtain ⟨k, v⟩ := p
    by_cases h : c = k
    · subst h
      by_cases h2 : d = c <;> simp [iset, iget, h2]
    · by_cases h2 : d = k
      · subst h2
        simp [iset, iget, h, show ¬ d = c from fun e => h e.symm]
      · simp [iset, iget, h, h2, ih]

/-- A request may follow others in a batch. -/
def okAt (pre : List Rq) (r : Rq) : Bool := formedF r && pre.all fun q => !(decide (q.client = r.client) && decide (r.seq ≤ q.seq))
def okFrom (pre : List Rq) : List Rq → Bool
  | [] => true
  | r :: l => okAt pre r && okFrom (pre ++ [r]) l
def batchF (l : List Rq) : Bool := decide (1 ≤ l.length ∧ l.length ≤ 4) && okFrom [] l
/-- The map tells each client's last number. -/
def LastM (pre : List Rq) (m : List (Int × Int)) : Prop := ∀ c, 0 ≤ iget m c ∧ (∀ q ∈ pre, q.client = c → q.seq ≤ iget m c) ∧ (iget m c = 0 ∨ ∃ q ∈ pre, q.client = c ∧ q.seq = iget m c)
theorem LastM.nil : LastM [] [] := fun c => ⟨Int.le_refl _, by simp, Or.inl rfl⟩
theorem formed_seq {r : Rq} (h : formedF r = true) : 1 ≤ r.seq := by
  simp [formedF] at h
  exact h.1.1.2.2.1
theorem LastM.ok {pre : List Rq} {m : List (Int × Int)} (h : LastM pre m) (r : Rq) (hf : formedF r = true) : okAt pre r = decide (iget m r.client < r.seq) := by
  obtain ⟨h0, h1, h2⟩ := h r.client
  have hs := formed_seq hf
  unfold okAt
  rw [hf, Bool.true_and]
  by_cases hlt : iget m r.client < r.seq
  · rw [decide_eq_true hlt, List.all_eq_true]
    intro q hq
    by_cases hc : q.client = r.client
    · have := h1 q hq hc
      simp [hc]
      omega
    · simp [hc]
  · rw [decide_eq_false hlt]
    rcases h2 with h2 | ⟨q, hq, hc, he⟩
    · omega
    · rw [List.all_eq_false]
      refine ⟨q, hq, ?_⟩
      simp [hc]
      omega
theorem LastM.step {pre : List Rq} {m : List (Int × Int)} (h : LastM pre m) (r : Rq) (hf : formedF r = true) (hlt : iget m r.client < r.seq) : LastM (pre ++ [r]) (iset m r.client r.seq) := by
  intro c
  have hs := formed_seq hf
  rw [iget_set]
  by_cases hc : c = r.client
  · subst hc
    rw [if_pos rfl]
    obtain ⟨h0, h1, h2⟩ := h r.client
    refine ⟨by omega, fun q hq hc => ?_, Or.inr ⟨r, by simp, rfl, rfl⟩⟩
    rcases List.mem_append.1 hq with hq | hq
    · have := h1 q hq hc
      omega
    · simp at hq
      subst hq
      omega
  · rw [if_neg hc]
    obtain ⟨h0, h1, h2⟩ := h c
    refine ⟨h0, fun q hq hqc => ?_, ?_⟩
    · rcases List.mem_append.1 hq with hq | hq
      · exact h1 q hq hqc
      · simp at hq
        subst hq
        exact absurd hqc.symm hc
    · rcases h2 with h2 | ⟨q, hq, e1, e2⟩
      · exact Or.inl h2
      · exact Or.inr ⟨q, List.mem_append_left _ hq, e1, e2⟩
def qrows (l : List Rq) : List (List PV) := l.map rqP
theorem qrows_get (l : List Rq) (i : Nat) : (qrows l)[i]? = l[i]?.map rqP := by simp [qrows]
theorem qrows_length (l : List Rq) : (qrows l).length = l.length := by simp [qrows]
theorem qrows_one (l : List Rq) (r : Rq) : qrows l ++ [rqP r] = qrows (l ++ [r]) := by simp [qrows]
end Go.Proofs.Ytcceiicpploclaa
