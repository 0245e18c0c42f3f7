/- What batches leave alone: plain laws. -/
import Derived.Test.YtdbbbaaopngbcaaExecsE
set_option linter.unusedVariables false
set_option linter.unusedSimpArgs false
namespace Go.Proofs.Ytdbbbaaopngbcaa
open Go.Abs Go.RowKit Go.Ours

theorem lastSeq_done {w : Wd} (hl : w.last.length = 6) (nx : Int × Nat) (r : Rq) (hk : knownF r = true) (hs : skipF w r = false) (c : Int) (hc : 0 ≤ c) : lastSeq w c ≤ lastSeq (doneF w nx r) c ∧ lastSeq (doneF w nx r) r.client = r.seq := by
  obtain ⟨k, hk1, hk2⟩ := known_lt hk
  simp only [skipF, hk, Bool.not_true, Bool.false_or, decide_eq_false_iff_not] at hs
  have e : lastSeq (doneF w nx r) r.client = r.seq := by
    simp [lastSeq, doneF, repF, hk1, hl, hk2]
  refine ⟨?_, e⟩
  by_cases h : c = r.client
  · rw [h, e]
    omega
  · have : lastSeq (doneF w nx r) c = lastSeq w c := by
      unfold lastSeq doneF
      simp only
      rw [List.getElem?_set_ne (by omega)]
    omega
theorem runF_last : ∀ (l : List Rq) (w : Wd) (nx : Int × Nat) (out : List Rp), w.last.length = 6 → (runF l w nx out).1.last.length = 6 ∧ (∀ c : Int, 0 ≤ c → lastSeq w c ≤ lastSeq (runF l w nx out).1 c) ∧ ∀ r ∈ l, knownF r = true → r.seq ≤ lastSeq (runF l w nx out).1 r.client
  | [], w, nx, out, h => ⟨h, fun c _ => Int.le_refl _, by simp⟩
  | r :: l, w, nx, out, h => by
    rw [runF]
    by_cases hs : skipF w r = true
    · rw [if_pos hs]
      obtain ⟨g1, g2, g3⟩ := runF_last l w nx out h
      refine ⟨g1, g2, fun q hq hk => ?_⟩
      rcases List.mem_cons.1 hq with rfl | hq
      · have := g2 q.client (by obtain ⟨k, hk1, _⟩ := known_lt hk; omega)
        simp only [skipF, hk, Bool.not_true, Bool.false_or, decide_eq_true_eq] at hs
        omega
      · exact g3 q hq hk
    · have hs' : skipF w r = false := by simpa using hs
      rw [if_neg hs]
      have hk : knownF r = true := by
        simp only [skipF, Bool.or_eq_false_iff, Bool.not_eq_false'] at hs'
        exact hs'.1
      obtain ⟨g1, g2, g3⟩ := runF_last l (doneF w nx r) (actF w nx r).2.1 (out ++ [repF w nx r]) (by simp [doneF, h])
      refine ⟨g1, fun c hc => ?_, fun q hq hkq => ?_⟩
      · have h1 := (lastSeq_done h nx r hk hs' c hc).1
        have h2 := g2 c hc
        omega
      · rcases List.mem_cons.1 hq with rfl | hq
        · obtain ⟨k, hk1, _⟩ := known_lt hk
          have h1 := (lastSeq_done h nx q hk hs' q.client (by omega)).2
          have h2 := g2 q.client (by omega)
          omega
        · exact g3 q hq hkq
theorem runF_skip : ∀ (l : List Rq) (w : Wd) (nx : Int × Nat) (out : List Rp), (∀ r ∈ l, skipF w r = true) → runF l w nx out = (w, nx, out)
  | [], _, _, _, _ => rfl
  | r :: l, w, nx, out, h => by
    rw [runF, if_pos (h r (by simp))]
    exact runF_skip l w nx out fun q hq => h q (by simp [hq])
theorem endF_lastSeq (w : Wd) (nx : Int × Nat) (c : Int) : lastSeq (endF w nx) c = lastSeq w c := by
  unfold endF
  split <;> rfl
theorem endF_last (w : Wd) (nx : Int × Nat) : (endF w nx).last = w.last := by
  unfold endF
  split <;> rfl
theorem execF_last (w : Wd) (l : List Rq) (h : w.last.length = 6) : (execF w l).1.last.length = 6 ∧ (∀ c : Int, 0 ≤ c → lastSeq w c ≤ lastSeq (execF w l).1 c) ∧ ∀ r ∈ l, knownF r = true → r.seq ≤ lastSeq (execF w l).1 r.client := by
  obtain ⟨g1, g2, g3⟩ := runF_last l (begF w) w.view [] h
  unfold execF
  simp only [endF_lastSeq, endF_last]
  exact ⟨g1, g2, g3⟩
/-- Done again, a batch does nothing. -/
theorem execF_again (w : Wd) (l : List Rq) (h : ∀ r ∈ l, knownF r = true → r.seq ≤ lastSeq w r.client) : execF w l = (begF w, []) := by
  unfold execF
  have hs : ∀ r ∈ l, skipF (begF w) r = true := by
    intro r hr
    unfold skipF
    cases hk : knownF r
    · rfl
    · have : lastSeq (begF w) r.client = lastSeq w r.client := rfl
      have := h r hr hk
      simp
      omega
  rw [runF_skip l _ _ _ hs]
  simp [endF, begF]
def worldsF (w : Wd) (L : List (List Rq)) : Wd := L.foldl (fun w l => (execF w l).1) w
theorem worlds_ok {w : Wd} (h : WOk w) : ∀ L, WOk (worldsF w L) := by
  intro L
  unfold worldsF
  induction L generalizing w with
  | nil => exact h
  | cons l L ih => exact ih (execF_ok h l)
theorem worlds_last : ∀ (L : List (List Rq)) (w : Wd), w.last.length = 6 → ∀ c : Int, 0 ≤ c → lastSeq w c ≤ lastSeq (worldsF w L) c
  | [], w, _, c, _ => Int.le_refl _
  | l :: L, w, h, c, hc => by
    obtain ⟨g1, g2, _⟩ := execF_last w l h
    have := worlds_last L (execF w l).1 g1 c hc
    have := g2 c hc
    show lastSeq w c ≤ lastSeq (worldsF (execF w l).1 L) c
    omega
theorem runF_same : ∀ (l : List Rq) (w : Wd) (nx : Int × Nat) (out : List Rp), (runF l w nx out).1.slot = w.slot ∧ (runF l w nx out).1.first = w.first ∧ (runF l w nx out).1.was = w.was
  | [], _, _, _ => ⟨rfl, rfl, rfl⟩
  | r :: l, w, nx, out => by
    rw [runF]
    split
    · exact runF_same l w nx out
    · exact runF_same l _ _ _
theorem execF_slot (w : Wd) (l : List Rq) : (execF w l).1.slot = IntKind.i64.wrap (w.slot + 1) := by
  have := (runF_same l (begF w) w.view []).1
  unfold execF endF
  simp only
  split <;> exact this
theorem execF_was (w : Wd) (l : List Rq) : (execF w l).1.was = w.view := by
  have := (runF_same l (begF w) w.view []).2.2
  unfold execF endF
  simp only
  split <;> exact this
theorem slot_wrap {s : Int} (h : 0 ≤ s ∧ s ≤ 1000) : IntKind.i64.wrap (s + 1) = s + 1 ∧ IntKind.i64.wrap (s + 1 - 1) = s := by
  constructor
  · rw [wrap_i64] <;> omega
  · rw [wrap_i64] <;> omega
theorem worlds_slot : ∀ (L : List (List Rq)) (w : Wd), 0 ≤ w.slot → w.slot + L.length ≤ 1000 → (worldsF w L).slot = w.slot + L.length
  | [], w, _, _ => by simp [worldsF]
  | l :: L, w, h1, h2 => by
    simp only [List.length_cons] at h2
    have e := execF_slot w l
    rw [(slot_wrap ⟨h1, by omega⟩).1] at e
    have := worlds_slot L (execF w l).1 (by omega) (by omega)
    show (worldsF (execF w l).1 L).slot = _
    simp only [List.length_cons]
    omega
theorem wP_lastPart {w : Wd} (h : WOk w) : ((wP w).drop 38).take 30 = repsP w.last := by
  obtain ⟨A, h1, h2, _⟩ := wP_split w
  have e : wP w = (A ++ cellsP w.cells) ++ (repsP w.last ++ []) := by rw [h1]; simp
  rw [e]
  exact mid_part (by simp [h2, cellsP_len, h.cl]) (by rw [repsP_len, h.ll])
theorem wP_was (w : Wd) : ((wP w).drop 4).take 2 = vwP w.was := by simp [wP, vwP]
theorem wP_first (w : Wd) : (wP w)[1]? = some (.int .i64 w.first) := rfl
theorem wP_num (w : Wd) : (wP w)[2]? = some (.int .i64 w.view.1) := rfl
theorem cells_ck {l : List Cl} (h : l.length = 16) : ckAll [.b, .i .i64, .b, .i .i64, .b, .i .i64, .b, .i .i64, .b, .i .i64, .b, .i .i64, .b, .i .i64, .b, .i .i64, .b, .i .i64, .b, .i .i64, .b, .i .i64, .b, .i .i64, .b, .i .i64, .b, .i .i64, .b, .i .i64, .b, .i .i64] (cellsP l) = true := by
  match l, h with
  | [_, _, _, _, _, _, _, _, _, _, _, _, _, _, _, _], _ => rfl
theorem reps_ck {l : List Rp} (h : l.length = 6) : ckAll [.i .i64, .i .i64, .i .i64, .b, .i .i64, .i .i64, .i .i64, .i .i64, .b, .i .i64, .i .i64, .i .i64, .i .i64, .b, .i .i64, .i .i64, .i .i64, .i .i64, .b, .i .i64, .i .i64, .i .i64, .i .i64, .b, .i .i64, .i .i64, .i .i64, .i .i64, .b, .i .i64] (repsP l) = true := by
  match l, h with
  | [_, _, _, _, _, _], _ => rfl
end Go.Proofs.Ytdbbbaaopngbcaa
