/- The reader of messages: a message's numbers: rounds of the loops. No condition. -/
import Derived.Test.YtekpgcohlpkmnaaWireP
set_option linter.unusedVariables false
set_option linter.unusedSimpArgs false
namespace Go.Proofs.Ytekpgcohlpkmnaa
open Go.Abs Go.RowKit Go.Ours

/-- The loop over the numbers. -/
def l1S (b : List Nat) (k : Nat) (q z : List PV) (i : Nat) : S := mk [(0, .agg [.ptr 1000 0]), (1, .ptr 1 0), (2, .ptr 2 0), (3, .ptr 3 0), (4, .ptr 4 0), (14, .agg [.ptr 3 0, .ptr 3 1, .ptr 3 2, .ptr 3 3, .ptr 3 4]), (15, .pv (.int .i64 (i : Nat)))] [(1, .agg [.ptr 1000 0]), (2, .pagg z), (3, .pagg q), (4, .pagg [.int .i64 1, .int .i64 1, .int .i64 2, .int .i64 2, .int .i64 2]), (1000, .pagg (rdP b k))]
abbrev L1W (b : List Nat) (k : Nat) (q z : List PV) (i : Nat) (Q : Exit → S → Prop) : Prop := LoopW Try.prog [0, 1, 2, 3, 4, 14, 15] [1, 2, 3, 4, 1000] irWireReaderMessage_L1 (l1S b k q z i) Q
theorem l1r0 (b : List Nat) (k k2 : Nat) (v : Int) (q z : List PV) (hq : q.length = 39) (c : ACall Try.prog 36 [.agg [.ptr 1000 0], .pv (.int .i64 1)] [.pagg (rdP b k)] (.pv (.int .i64 v)) [.pagg (rdP b k2)] []) (Q : Exit → S → Prop)
    (h : L1W b k2 (q.set 0 (.int .i64 v)) z 1 Q) : L1W b k q z 0 Q := by
  simp only [L1W, l1S] at h ⊢
  generalize rdP b k = r at *
  generalize rdP b k2 = r2 at *
  refine LoopW.go irWireReaderMessage_L1.eq_1 (by simp) ?_
  simp
  refine RegD.n ?_
  simp
  refine CallG.go c ?_
  simp [hq]
  exact h
theorem l1x0 (b : List Nat) (k : Nat) (q z : List PV) (c : APan Try.prog 36 [.agg [.ptr 1000 0], .pv (.int .i64 1)] [.pagg (rdP b k)] (chE 1)) (Q : Exit → S → Prop)
    (h : ∀ s, Q (.panic (chE 1)) s) : L1W b k q z 0 Q := by
  simp only [L1W, l1S]
  generalize rdP b k = r at *
  refine LoopW.go irWireReaderMessage_L1.eq_1 (by simp) ?_
  simp
  refine RegD.x c rfl ?_ ?_
  · simp [liveL]
  · intro s
    simp
    exact h _
theorem l1r1 (b : List Nat) (k k2 : Nat) (v : Int) (q z : List PV) (hq : q.length = 39) (c : ACall Try.prog 36 [.agg [.ptr 1000 0], .pv (.int .i64 1)] [.pagg (rdP b k)] (.pv (.int .i64 v)) [.pagg (rdP b k2)] []) (Q : Exit → S → Prop)
    (h : L1W b k2 (q.set 1 (.int .i64 v)) z 2 Q) : L1W b k q z 1 Q := by
  simp only [L1W, l1S] at h ⊢
  generalize rdP b k = r at *
  generalize rdP b k2 = r2 at *
  refine LoopW.go irWireReaderMessage_L1.eq_1 (by simp) ?_
  simp
  refine RegD.n ?_
  simp
  refine CallG.go c ?_
  simp [hq]
  exact h
theorem l1x1 (b : List Nat) (k : Nat) (q z : List PV) (c : APan Try.prog 36 [.agg [.ptr 1000 0], .pv (.int .i64 1)] [.pagg (rdP b k)] (chE 1)) (Q : Exit → S → Prop)
    (h : ∀ s, Q (.panic (chE 1)) s) : L1W b k q z 1 Q := by
  simp only [L1W, l1S]
  generalize rdP b k = r at *
  refine LoopW.go irWireReaderMessage_L1.eq_1 (by simp) ?_
  simp
  refine RegD.x c rfl ?_ ?_
  · simp [liveL]
  · intro s
    simp
    exact h _
theorem l1r2 (b : List Nat) (k k2 : Nat) (v : Int) (q z : List PV) (hq : q.length = 39) (c : ACall Try.prog 36 [.agg [.ptr 1000 0], .pv (.int .i64 2)] [.pagg (rdP b k)] (.pv (.int .i64 v)) [.pagg (rdP b k2)] []) (Q : Exit → S → Prop)
    (h : L1W b k2 (q.set 2 (.int .i64 v)) z 3 Q) : L1W b k q z 2 Q := by
  simp only [L1W, l1S] at h ⊢
  generalize rdP b k = r at *
  generalize rdP b k2 = r2 at *
  refine LoopW.go irWireReaderMessage_L1.eq_1 (by simp) ?_
  simp
  refine RegD.n ?_
  simp
  refine CallG.go c ?_
  simp [hq]
  exact h
theorem l1x2 (b : List Nat) (k : Nat) (q z : List PV) (c : APan Try.prog 36 [.agg [.ptr 1000 0], .pv (.int .i64 2)] [.pagg (rdP b k)] (chE 1)) (Q : Exit → S → Prop)
    (h : ∀ s, Q (.panic (chE 1)) s) : L1W b k q z 2 Q := by
  simp only [L1W, l1S]
  generalize rdP b k = r at *
  refine LoopW.go irWireReaderMessage_L1.eq_1 (by simp) ?_
  simp
  refine RegD.x c rfl ?_ ?_
  · simp [liveL]
  · intro s
    simp
    exact h _
theorem l1r3 (b : List Nat) (k k2 : Nat) (v : Int) (q z : List PV) (hq : q.length = 39) (c : ACall Try.prog 36 [.agg [.ptr 1000 0], .pv (.int .i64 2)] [.pagg (rdP b k)] (.pv (.int .i64 v)) [.pagg (rdP b k2)] []) (Q : Exit → S → Prop)
    (h : L1W b k2 (q.set 3 (.int .i64 v)) z 4 Q) : L1W b k q z 3 Q := by
  simp only [L1W, l1S] at h ⊢
  generalize rdP b k = r at *
  generalize rdP b k2 = r2 at *
  refine LoopW.go irWireReaderMessage_L1.eq_1 (by simp) ?_
  simp
  refine RegD.n ?_
  simp
  refine CallG.go c ?_
  simp [hq]
  exact h
theorem l1x3 (b : List Nat) (k : Nat) (q z : List PV) (c : APan Try.prog 36 [.agg [.ptr 1000 0], .pv (.int .i64 2)] [.pagg (rdP b k)] (chE 1)) (Q : Exit → S → Prop)
    (h : ∀ s, Q (.panic (chE 1)) s) : L1W b k q z 3 Q := by
  simp only [L1W, l1S]
  generalize rdP b k = r at *
  refine LoopW.go irWireReaderMessage_L1.eq_1 (by simp) ?_
  simp
  refine RegD.x c rfl ?_ ?_
  · simp [liveL]
  · intro s
    simp
    exact h _
theorem l1r4 (b : List Nat) (k k2 : Nat) (v : Int) (q z : List PV) (hq : q.length = 39) (c : ACall Try.prog 36 [.agg [.ptr 1000 0], .pv (.int .i64 2)] [.pagg (rdP b k)] (.pv (.int .i64 v)) [.pagg (rdP b k2)] []) (Q : Exit → S → Prop)
    (h : L1W b k2 (q.set 4 (.int .i64 v)) z 5 Q) : L1W b k q z 4 Q := by
  simp only [L1W, l1S] at h ⊢
  generalize rdP b k = r at *
  generalize rdP b k2 = r2 at *
  refine LoopW.go irWireReaderMessage_L1.eq_1 (by simp) ?_
  simp
  refine RegD.n ?_
  simp
  refine CallG.go c ?_
  simp [hq]
  exact h
theorem l1x4 (b : List Nat) (k : Nat) (q z : List PV) (c : APan Try.prog 36 [.agg [.ptr 1000 0], .pv (.int .i64 2)] [.pagg (rdP b k)] (chE 1)) (Q : Exit → S → Prop)
    (h : ∀ s, Q (.panic (chE 1)) s) : L1W b k q z 4 Q := by
  simp only [L1W, l1S]
  generalize rdP b k = r at *
  refine LoopW.go irWireReaderMessage_L1.eq_1 (by simp) ?_
  simp
  refine RegD.x c rfl ?_ ?_
  · simp [liveL]
  · intro s
    simp
    exact h _
theorem l1e (b : List Nat) (k : Nat) (q z : List PV) (Q : Exit → S → Prop)
    (h : Q (.exit 0) (mk [(0, .agg [.ptr 1000 0]), (1, .ptr 1 0), (2, .ptr 2 0), (3, .ptr 3 0), (4, .ptr 4 0), (14, .agg [.ptr 3 0, .ptr 3 1, .ptr 3 2, .ptr 3 3, .ptr 3 4]), (15, .pv (.int .i64 5)), (16, .pv (.bool false))] [(1, .agg [.ptr 1000 0]), (2, .pagg z), (3, .pagg q), (4, .pagg [.int .i64 1, .int .i64 1, .int .i64 2, .int .i64 2, .int .i64 2]), (1000, .pagg (rdP b k))])) : L1W b k q z 5 Q := by
  simp only [L1W, l1S]
  generalize rdP b k = r at *
  refine LoopW.go irWireReaderMessage_L1.eq_1 (by simp) ?_
  simp
  exact h
theorem Pre.field {b s t : List Nat} {k : Nat} (hk : k ≤ b.length) (h : Pre (b.drop k) (s ++ t)) : (k + s.length ≤ b.length ∧ b.drop k = s ++ b.drop (k + s.length) ∧ Pre (b.drop (k + s.length)) t) ∨ (b.length < k + s.length ∧ ∃ j, j < s.length ∧ b.drop k = s.take j) := by
  have hl := List.length_drop (i := k) (l := b)
  rcases h.split with ⟨d, e, hp⟩ | ⟨j, hj, e⟩
  · have hlen := congrArg List.length e
    rw [List.length_append] at hlen
    have ed : b.drop (k + s.length) = d := by rw [← List.drop_drop, e, List.drop_left]
    exact Or.inl ⟨by omega, by rw [ed, e], by rw [ed]; exact hp⟩
  · have hlen := congrArg List.length e
    rw [List.length_take] at hlen
    exact Or.inr ⟨by omega, j, hj, e⟩
theorem at_drop {b s d : List Nat} {k x : Nat} (i : Nat) (h : b.drop k = s ++ d) (hs : s[i]? = some x) : b[k + i]? = some x := by
  have := congrArg (·[i]?) h
  simp only [List.getElem?_drop] at this
  rw [this, List.getElem?_append_left (List.getElem?_eq_some_iff.1 hs).1, hs]
/-- The five numbers. -/
theorem l1W (b t : List Nat) (kd sr vw rg st : Nat) (hb : kd < 256 ∧ sr < 256 ∧ vw < 256 ∧ rg < 256 ∧ st < 256) (q z : List PV) (hq : q.length = 39) (hl : b.length ≤ 10000000000) (hp : Pre b ([kd] ++ ([sr] ++ ([0, vw] ++ ([0, rg] ++ ([0, st] ++ t)))))) (Q : Exit → S → Prop)
    (hF : 8 ≤ b.length → Pre (b.drop 8) t → Q (.exit 0) (mk [(0, .agg [.ptr 1000 0]), (1, .ptr 1 0), (2, .ptr 2 0), (3, .ptr 3 0), (4, .ptr 4 0), (14, .agg [.ptr 3 0, .ptr 3 1, .ptr 3 2, .ptr 3 3, .ptr 3 4]), (15, .pv (.int .i64 5)), (16, .pv (.bool false))] [(1, .agg [.ptr 1000 0]), (2, .pagg z), (3, .pagg (((((q.set 0 (.int .i64 (kd : Nat))).set 1 (.int .i64 (sr : Nat))).set 2 (.int .i64 (vw : Nat))).set 3 (.int .i64 (rg : Nat))).set 4 (.int .i64 (st : Nat)))), (4, .pagg [.int .i64 1, .int .i64 1, .int .i64 2, .int .i64 2, .int .i64 2]), (1000, .pagg (rdP b 8))]))
    (hS : b.length < 8 → ∀ s, Q (.panic (chE 1)) s) : L1W b 0 q z 0 Q := by
  obtain ⟨b1, b2, b3, b4, b5⟩ := hb
  rcases Pre.field (k := 0) (Nat.zero_le _) hp with ⟨k1, e1, hp1⟩ | ⟨k1, _⟩
  rotate_left
  · exact l1x0 b 0 q z (numberS_c b 1 0 (by decide) hl (by omega) k1) Q (hS (by rw [List.length_singleton] at k1; omega))
  refine l1r0 b 0 1 kd q z hq (number1_c b 0 kd hl (at_drop 0 e1 rfl) b1) Q ?_
  rcases Pre.field k1 hp1 with ⟨k2, e2, hp2⟩ | ⟨k2, _⟩
  rotate_left
  · exact l1x1 b 1 _ z (numberS_c b 1 1 (by decide) hl k1 k2) Q (hS (by simp at k2; omega))
  refine l1r1 b 1 2 sr _ z (by simp [hq]) (number1_c b 1 sr hl (at_drop 0 e2 rfl) b2) Q ?_
  rcases Pre.field k2 hp2 with ⟨k3, e3, hp3⟩ | ⟨k3, _⟩
  rotate_left
  · exact l1x2 b 2 _ z (numberS_c b 2 2 (by decide) hl k2 k3) Q (hS (by simp at k3; omega))
  have c3 := number2_c b 2 0 vw hl (at_drop 0 e3 rfl) (at_drop 1 e3 rfl) (by decide) b3
  rw [Nat.mul_zero, Nat.zero_add] at c3
  refine l1r2 b 2 4 vw _ z (by simp [hq]) c3 Q ?_
  rcases Pre.field k3 hp3 with ⟨k4, e4, hp4⟩ | ⟨k4, _⟩
  rotate_left
  · exact l1x3 b 4 _ z (numberS_c b 2 4 (by decide) hl k3 k4) Q (hS (by simp at k4; omega))
  have c4 := number2_c b 4 0 rg hl (at_drop 0 e4 rfl) (at_drop 1 e4 rfl) (by decide) b4
  rw [Nat.mul_zero, Nat.zero_add] at c4
  refine l1r3 b 4 6 rg _ z (by simp [hq]) c4 Q ?_
  rcases Pre.field k4 hp4 with ⟨k5, e5, hp5⟩ | ⟨k5, _⟩
  rotate_left
  · exact l1x4 b 6 _ z (numberS_c b 2 6 (by decide) hl k4 k5) Q (hS (by simp at k5; omega))
  have c5 := number2_c b 6 0 st hl (at_drop 0 e5 rfl) (at_drop 1 e5 rfl) (by decide) b5
  rw [Nat.mul_zero, Nat.zero_add] at c5
  refine l1r4 b 6 8 st _ z (by simp [hq]) c5 Q ?_
  exact l1e b 8 _ z Q (hF k5 hp5)
/-- The hash's bytes are laid. -/
def setH : List PV → Nat → List Nat → List PV
  | q, _, [] => q
  | q, i, t :: T => setH (q.set (5 + i) (.int .u8 (t : Nat))) (i + 1) T
theorem setH_eq : ∀ (T : List Nat) (A zs B : List PV) (i : Nat), A.length = 5 + i → zs.length = T.length → setH (A ++ (zs ++ B)) i T = A ++ (kns .u8 T ++ B)
  | [], A, zs, B, i, _, h => by
    rw [List.length_nil, List.length_eq_zero_iff] at h
    subst h
    rfl
  | t :: T, A, zs, B, i, hA, h => by
    match zs, h with
    | p :: zs, h =>
      rw [setH, List.cons_append, List.set_append_right _ _ (by omega), show 5 + i - A.length = 0 by omega, List.set_cons_zero]
      have := setH_eq T (A ++ [.int .u8 (t : Nat)]) zs B (i + 1) (by simp; omega) (by simpa using h)
      simp only [List.append_assoc, List.singleton_append] at this
      rw [this]
      rfl
def l2S (b : List Nat) (k : Nat) (q z : List PV) (i : Nat) : S := mk [(0, .agg [.ptr 1000 0]), (1, .ptr 1 0), (2, .ptr 2 0), (3, .ptr 3 0), (27, .pv (.int .i64 (i : Nat)))] [(1, .agg [.ptr 1000 0]), (2, .pagg z), (3, .pagg q), (1000, .pagg (rdP b k))]
theorem l2W (b t : List Nat) (z : List PV) (hl : b.length ≤ 10000000000) : ∀ (T : List Nat) (i k : Nat) (q : List PV), i + T.length = 32 → (∀ x ∈ T, x < 256) → q.length = 39 → k ≤ b.length → Pre (b.drop k) (T ++ t) → ∀ (Q : Exit → S → Prop),
    (k + T.length ≤ b.length → Pre (b.drop (k + T.length)) t → ∀ a c, Q (.exit 2) (mk [(0, .agg [.ptr 1000 0]), (1, .ptr 1 0), (2, .ptr 2 0), (3, .ptr 3 0), (27, a), (28, c)] [(1, .agg [.ptr 1000 0]), (2, .pagg z), (3, .pagg (setH q i T)), (1000, .pagg (rdP b (k + T.length)))])) →
    (b.length < k + T.length → ∀ s, Q (.panic (chE 1)) s) →
    LoopW Try.prog [0, 1, 2, 3, 27] [1, 2, 3, 1000] irWireReaderMessage_L2 (l2S b k q z i) Q := by
  intro T
  induction T with
  | nil =>
    intro i k q hi hT hq hk hp Q hF hS
    have h := hF hk hp
    clear hF hS
    have hi' : i = 32 := by simpa using hi
    subst hi'
    rw [setH, List.length_nil, Nat.add_zero] at h
    simp only [l2S]
    generalize rdP b k = r at *
    refine LoopW.go irWireReaderMessage_L2.eq_1 (by simp) ?_
    simp
    exact h _ _
  | cons x T ih =>
    intro i k q hi hT hq hk hp Q hF hS
    rw [List.length_cons] at hi hF hS
    have i1 : (i : Int) < 32 := by omega
    have i1' : i < 32 := by omega
    have i5 : 5 + i < 39 := by omega
    have wi : IntKind.i64.wrap ((i : Int) + 1) = (i + 1 : Nat) := by rw [wrap_i64] <;> omega
    have hx := hT x List.mem_cons_self
    have w8 : IntKind.u8.wrap (x : Int) = (x : Int) := by simp [IntKind.wrap, IntKind.bits, IntKind.signed]; omega
    rcases Pre.field (s := [x]) (t := T ++ t) hk hp with ⟨k1, e1, hp1⟩ | ⟨k1, _⟩
    · have c := number1_c b k x hl (at_drop 0 e1 rfl) hx
      have hn := ih (i + 1) (k + 1) (q.set (5 + i) (.int .u8 (x : Nat))) (by omega) (fun y hy => hT y (List.mem_cons_of_mem _ hy)) (by simp [hq]) k1 hp1 Q (fun h1 h2 => by
        have := hF (by omega) (by rw [show k + (T.length + 1) = k + 1 + T.length by omega]; exact h2)
        rwa [show k + (T.length + 1) = k + 1 + T.length by omega] at this) (fun h1 => hS (by omega))
      clear hF hS ih
      simp only [l2S] at hn ⊢
      generalize rdP b k = r at *
      generalize rdP b (k + 1) = r2 at *
      refine LoopW.go irWireReaderMessage_L2.eq_1 (by simp) ?_
      simp [i1, i1']
      refine RegE.n ?_
      simp
      refine CallG.go c ?_
      simp [hq, w8, i1, i1', i5, wi]
      exact hn
    · have c := numberS_c b 1 k (by decide) hl hk k1
      have h := hS (by simp at k1; omega)
      clear hF hS ih
      simp only [l2S]
      generalize rdP b k = r at *
      refine LoopW.go irWireReaderMessage_L2.eq_1 (by simp) ?_
      simp [i1, i1']
      refine RegE.x ?_
      simp
      refine WX.here c ?_
      simp
      exact h _
end Go.Proofs.Ytekpgcohlpkmnaa
