/- Contract of hist.Explains. No condition. -/
import Derived.Test.YthpfadbdkkmagaaHistD
set_option linter.unusedVariables false
set_option linter.unusedSimpArgs false
namespace Go.Proofs.Ythpfadbdkkmagaa
open Go.Abs Go.RowKit Go.Ours

theorem mayl0 (l : List Ev) (ll : l.length ≤ 12) (t i : Nat) (ht : t < 65536) (hi : i < 12) (e : Ev) (he : l[i]? = some e) (C : List (Nat × AV)) (D : List PV) (hk : kp [1000, 1001] C = C) (hc : lk 1000 C = .pagg (.sl 9 (evs l) :: D)) :
    ∀ (n k : Nat), k + n = l.length → mayQ l t i e k → ∀ (Q : Exit → S → Prop),
    (mayQ l t i e l.length → ∀ a b c d f, Q (.exit 0) (mk [(0, .ptr 1000 0), (1, a), (2, b), (17, c), (18, d), (19, f)] C)) →
    ((∃ (j : Nat) (x : Ev), l[j]? = some x ∧ j ≠ i ∧ t.testBit j = false ∧ aheadB x e = true) → Q .ret (mk [(0, .ptr 1000 0), (6, .pv (.bool false))] C)) →
    LoopW Try.prog [0, 1, 2, 17, 18] [1000, 1001] irHistSearchMay_L1 (mk [(0, .ptr 1000 0), (1, .pv (.int .u16 (t : Nat))), (2, .pv (.int .i64 (i : Nat))), (17, .pv (.int .i64 (l.length : Nat))), (18, .pv (.int .i64 (k : Nat)))] C) Q := by
  intro n
  induction n with
  | zero =>
    intro k hk' hq Q h1 h2
    obtain rfl : k = l.length := by omega
    refine LoopW.go irHistSearchMay_L1.eq_1 (by simp [hk]) ?_
    simp [hk]
    exact h1 hq _ _ _ _ _
  | succ n ih =>
    intro k hk' hq Q h1 h2
    have i1 : k < l.length := by omega
    have i2 : i < l.length := (List.getElem?_eq_some_iff.1 he).1
    obtain ⟨x, hx⟩ : ∃ x, l[k]? = some x := ⟨_, List.getElem?_eq_getElem (by omega)⟩
    have w : IntKind.i64.wrap ((k : Int) + 1) = (k + 1 : Nat) := by rw [wrap_i64] <;> omega
    obtain ⟨q, b1, b2, b3⟩ := bit_get t k ht (by omega)
    refine LoopW.go irHistSearchMay_L1.eq_1 (by simp [hk]) ?_
    by_cases hki : k = i
    · have ih' := ih (k + 1) (by omega) (mayQ_step hq hx fun h => absurd hki h) Q h1 h2
      subst hki
      simp at ih'
      simp [-getElem?_pos, hk, hc, i1, w]
      exact ih'
    · cases hb : t.testBit k
      · rw [hb] at b3
        simp at b3
        have c := ahead_c x e
        cases ha : aheadB x e
        · rw [ha] at c
          have ih' := ih (k + 1) (by omega) (mayQ_step hq hx fun _ _ => ha) Q h1 h2
          simp [evP] at c
          simp [-getElem?_pos, hk, hc, i1, i2, hki, b1, b2, b3, evs_get, evs_length, hx, he, evP]
          refine CallG.go c ?_
          simp [hk, w]
          exact ih'
        · rw [ha] at c
          simp [evP] at c
          simp [-getElem?_pos, hk, hc, i1, i2, hki, b1, b2, b3, evs_get, evs_length, hx, he, evP]
          refine CallG.go c ?_
          simp [hk]
          exact h2 ⟨k, x, hx, hki, hb, ha⟩
      · rw [hb] at b3
        simp at b3
        have ih' := ih (k + 1) (by omega) (mayQ_step hq hx fun _ h => by rw [hb] at h; cases h) Q h1 h2
        simp [-getElem?_pos, hk, hc, i1, hki, b1, b2, b3, w]
        exact ih'
theorem may0_c (l : List Ev) (ll : l.length ≤ 12) (t i : Nat) (ht : t < 65536) (e : Ev) (he : l[i]? = some e) : ∃ b, ACall Try.prog 19 [.ptr 1000 0, .pv (.int .u16 (t : Nat)), .pv (.int .i64 (i : Nat))] [.pagg [.sl 9 (evs l), .int .u16 0, .nilm]] (.pv (.bool b)) [.pagg [.sl 9 (evs l), .int .u16 0, .nilm]] [] ∧ (b = true ↔ mayP l t i) := by
  have i2 : i < l.length := (List.getElem?_eq_some_iff.1 he).1
  obtain ⟨q, b1, b2, b3⟩ := bit_get t i ht (by omega)
  cases hb : t.testBit i
  · rw [hb] at b3
    simp at b3
    have lp := mayl0 l ll t i ht (by omega) e he [(1000, .pagg [.sl 9 (evs l), .int .u16 0, .nilm])] [.int .u16 0, .nilm] rfl rfl l.length 0 (by omega) (fun j x h => by omega)
    by_cases hm : mayP l t i
    · refine ⟨true, ?_, by simp [hm]⟩
      refine ACall.fn (fn := Try.f19) rfl okHistSearchMay rfl (by simp) ?_
      simp only [argT, irHistSearchMay.eq_1]
      simp [b1, b2, b3, evs_length]
      refine lp _ (fun h a b c d f => ?_) (fun h => ?_)
      · simp [range2]
      · obtain ⟨j, x, h1, h2, h3, h4⟩ := h
        rw [hm.2 j x e h1 he h2 h3] at h4; cases h4
    · refine ⟨false, ?_, by simp [hm]⟩
      refine ACall.fn (fn := Try.f19) rfl okHistSearchMay rfl (by simp) ?_
      simp only [argT, irHistSearchMay.eq_1]
      simp [b1, b2, b3, evs_length]
      refine lp _ (fun h a b c d f => ?_) (fun h => ?_)
      · exact absurd ((mayQ_all he hb).1 h) hm
      · simp [range2]
  · rw [hb] at b3
    simp at b3
    refine ⟨false, ?_, by simp [mayP, hb]⟩
    refine ACall.fn (fn := Try.f19) rfl okHistSearchMay rfl (by simp) ?_
    simp only [argT, irHistSearchMay.eq_1]
    simp [b1, b2, b3, range2]

/-- Whole numbers as rows. -/
def irows (o : List Int) : List (List PV) := o.map fun n => [.int .i64 n]
theorem irows_get (o : List Int) (i : Nat) : (irows o)[i]? = o[i]?.map fun n => [.int .i64 n] := by simp [irows]
theorem irows_length (o : List Int) : (irows o).length = o.length := by simp [irows]
theorem allDl (l : List Ev) (ll : l.length ≤ 12) (t : Nat) (ht : t < 65536) : ∀ (n k : Nat), k + n = l.length → (∀ (j : Nat) e, j < k → l[j]? = some e → e.dn = true → t.testBit j = true) → ∀ (Q : Exit → S → Prop),
    (allD l t → ∀ a b c d f, Q (.exit 2) (mk [(8, a), (79, b), (80, c), (81, d), (82, f)] [])) →
    (¬ allD l t → Q .ret (mk [(6, .pv (.bool false))] [])) →
    LoopW Try.prog [8, 79, 80, 81] [] irHistExplains_L2 (mk [(8, .pv (.int .u16 (t : Nat))), (79, .pv (.sl 9 (evs l))), (80, .pv (.int .i64 (l.length : Nat))), (81, .pv (.int .i64 (k : Nat)))] []) Q := by
  intro n
  induction n with
  | zero =>
    intro k hk hq Q h1 h2
    obtain rfl : k = l.length := by omega
    refine LoopW.go irHistExplains_L2.eq_1 (by simp) ?_
    have h := h1 (fun i e he hd => hq i e (List.getElem?_eq_some_iff.1 he).1 he hd)
    simp at h ⊢
    exact h _ _ _ _ _
  | succ n ih =>
    intro k hk hq Q h1 h2
    have i1 : k < l.length := by omega
    obtain ⟨e, he⟩ : ∃ e, l[k]? = some e := ⟨_, List.getElem?_eq_getElem (by omega)⟩
    have w : IntKind.i64.wrap ((k : Int) + 1) = (k + 1 : Nat) := by rw [wrap_i64] <;> omega
    obtain ⟨q, b1, b2, b3⟩ := bit_get t k ht (by omega)
    have ih' := fun hn => ih (k + 1) (by omega) hn Q h1 h2
    have hst : (e.dn = true → t.testBit k = true) → ∀ (j : Nat) e, j < k + 1 → l[j]? = some e → e.dn = true → t.testBit j = true := fun h j y hj hy hd => by
      by_cases hjk : j = k
      · subst hjk
        rw [he] at hy
        cases hy
        exact h hd
      · exact hq j y (by omega) hy hd
    refine LoopW.go irHistExplains_L2.eq_1 (by simp) ?_
    cases hdn : e.dn
    · have f := ih' (hst fun h => by rw [hdn] at h; cases h)
      simp at f
      simp [-getElem?_pos, i1, evs_get, evs_length, he, evP, hdn, w]
      exact f
    · cases hb : t.testBit k
      · rw [hb] at b3
        simp at b3
        simp [-getElem?_pos, i1, evs_get, evs_length, he, evP, hdn, b1, b2, b3]
        exact h2 fun h => by
          have := h k e he hdn
          rw [hb] at this; cases this
      · rw [hb] at b3
        simp at b3
        have f := ih' (hst fun _ => hb)
        simp at f
        simp [-getElem?_pos, i1, evs_get, evs_length, he, evP, hdn, b1, b2, b3, w]
        exact f
theorem expl (l : List Ev) (ll : l.length ≤ 12) (o : List Int) (lo : o.length ≤ 20) : ∀ (n k t : Nat) (c : List Cl), k + n = o.length → t < 4096 → c.length = 16 →
    ∃ (r : Option (Nat × List Cl)), (r = none → ¬ ExplP l (o.drop k) t c) ∧ (∀ t' c', r = some (t', c') → t' < 4096 ∧ (ExplP l (o.drop k) t c ↔ allD l t')) ∧ ∀ (Q : Exit → S → Prop),
    (∀ t' c', r = some (t', c') → ∀ a b d e f g, Q (.exit 0) (mk [(1, .pv (.sl 9 (evs l))), (3, a), (7, b), (8, .pv (.int .u16 (t' : Nat))), (28, d), (29, e), (30, f), (31, g)] [(3, .pagg (cellsP c')), (27, .pagg [.sl 9 (evs l), .int .u16 0, .nilm])])) →
    (r = none → Q .ret (mk [(6, .pv (.bool false))] [])) →
    LoopW Try.prog [1, 3, 7, 8, 28, 29, 30] [3, 27] irHistExplains_L1 (mk [(1, .pv (.sl 9 (evs l))), (3, .ptr 3 0), (7, .ptr 27 0), (8, .pv (.int .u16 (t : Nat))), (28, .pv (.sl 1 (irows o))), (29, .pv (.int .i64 (o.length : Nat))), (30, .pv (.int .i64 (k : Nat)))] [(3, .pagg (cellsP c)), (27, .pagg [.sl 9 (evs l), .int .u16 0, .nilm])]) Q := by
  intro n
  induction n with
  | zero =>
    intro k t c hk ht hc
    obtain rfl : k = o.length := by omega
    refine ⟨some (t, c), by simp, fun t' c' h => ?_, fun Q h1 h2 => ?_⟩
    · cases h
      exact ⟨ht, by rw [List.drop_length]; exact Iff.rfl⟩
    · refine LoopW.go irHistExplains_L1.eq_1 (by simp) ?_
      have h := h1 t c rfl
      simp at h ⊢
      exact h _ _ _ _ _ _
  | succ n ih =>
    intro k t c hk ht hc
    have i1 : k < o.length := by omega
    obtain ⟨i, hi⟩ : ∃ i, o[k]? = some i := ⟨_, List.getElem?_eq_getElem (by omega)⟩
    have w : IntKind.i64.wrap ((k : Int) + 1) = (k + 1 : Nat) := by rw [wrap_i64] <;> omega
    have hd : o.drop k = i :: o.drop (k + 1) := by
      rw [List.drop_eq_getElem_cons i1]
      rw [List.getElem?_eq_getElem i1] at hi
      simp only [Option.some.injEq] at hi
      rw [hi]
    rw [hd]
    have hcl : (cellsP c).length = 32 := by rw [cellsP_len, hc]
    have ht32 := cellsP_take32 hc
    by_cases h0 : i < 0
    · refine ⟨none, (fun _ h => by have := h.1; omega), by simp, fun Q h1 h2 => ?_⟩
      refine LoopW.go irHistExplains_L1.eq_1 (by simp) ?_
      simp [-getElem?_pos, i1, irows_get, irows_length, hi, h0]
      exact h2 rfl
    · by_cases hl : (l.length : Int) ≤ i
      · refine ⟨none, fun _ h => ?_, by simp, fun Q h1 h2 => ?_⟩
        · obtain ⟨_, e, he, _⟩ := h
          have := (List.getElem?_eq_some_iff.1 he).1
          omega
        · refine LoopW.go irHistExplains_L1.eq_1 (by simp) ?_
          simp [-getElem?_pos, i1, irows_get, irows_length, evs_length, hi, h0, hl]
          exact h2 rfl
      · obtain ⟨j, rfl⟩ : ∃ j : Nat, i = j := ⟨i.toNat, by omega⟩
        have hj : j < l.length := by omega
        have hj' : ¬ l.length ≤ j := by omega
        have hj0 : ¬ (j : Int) < 0 := by omega
        obtain ⟨e, he⟩ : ∃ e, l[j]? = some e := ⟨_, List.getElem?_eq_getElem hj⟩
        obtain ⟨b, c1, hb⟩ := may0_c l ll t j (by omega) e he
        have hE : ExplP l ((j : Int) :: o.drop (k + 1)) t c ↔ mayP l t j ∧ okE c e ∧ ExplP l (o.drop (k + 1)) (t ||| 2 ^ j) (doE c e).1 := by
          simp only [ExplP, Int.toNat_natCast]
          constructor
          · rintro ⟨_, e', he', q1, q2, q3⟩
            rw [he] at he'
            cases he'
            exact ⟨q1, q2, q3⟩
          · rintro ⟨q1, q2, q3⟩
            exact ⟨by omega, e, he, q1, q2, q3⟩
        rw [hE]
        cases b
        · refine ⟨none, (fun _ h => by have := hb.2 h.1; cases this), by simp, fun Q h1 h2 => ?_⟩
          refine LoopW.go irHistExplains_L1.eq_1 (by simp) ?_
          simp [-getElem?_pos, i1, irows_get, irows_length, evs_length, hi, hj0, hj', List.idxOf?_cons]
          refine CallG.go c1 ?_
          simp
          exact h2 rfl
        · have hmay := hb.1 rfl
          have c2 := kvDo_c c hc e.kd e.ky e.a e.b
          have hdl : (doE c e).1.length = 16 := by rw [doE_len, hc]
          have hd32 := cellsP_take32 hdl
          have hdc : (cellsP (doE c e).1).length = 32 := by rw [cellsP_len, hdl]
          obtain ⟨p, b1, b2, b3, b4⟩ := bit_set t j (by omega) (by omega)
          have hlt : t ||| 2 ^ j < 4096 := by
            have := Nat.or_lt_two_pow (n := 12) (x := t) (y := 2 ^ j) (by simpa using ht) (Nat.pow_lt_pow_right (by decide) (by omega))
            simpa using this
          have hdE : doG c e.kd e.ky e.a e.b = doE c e := rfl
          rw [hdE] at c2
          have hok : okE c e ↔ (e.dn = true → (doE c e).2 = e.rs) := Iff.rfl
          simp only [hmay, true_and]
          generalize t ||| 2 ^ j = u at *
          obtain ⟨r, g1, g2, g3⟩ := ih (k + 1) u (doE c e).1 (by omega) hlt hdl
          generalize (doE c e).1 = E1 at *
          generalize (doE c e).2 = E2 at *
          simp [opP] at c2
          obtain ⟨x1, x2⟩ := E2
          have go1 : okE c e → ∀ (W : (Exit → S → Prop) → Prop), (∀ Q : Exit → S → Prop, (∀ t' c', r = some (t', c') → ∀ a b d e f g, Q (.exit 0) (mk [(1, .pv (.sl 9 (evs l))), (3, a), (7, b), (8, .pv (.int .u16 (t' : Nat))), (28, d), (29, e), (30, f), (31, g)] [(3, .pagg (cellsP c')), (27, .pagg [.sl 9 (evs l), .int .u16 0, .nilm])])) →
              (r = none → Q .ret (mk [(6, .pv (.bool false))] [])) → W Q) → ∃ (r : Option (Nat × List Cl)), (r = none → ¬ (okE c e ∧ ExplP l (o.drop (k + 1)) u E1)) ∧ (∀ t' c', r = some (t', c') → t' < 4096 ∧ (okE c e ∧ ExplP l (o.drop (k + 1)) u E1 ↔ allD l t')) ∧ ∀ (Q : Exit → S → Prop),
              (∀ t' c', r = some (t', c') → ∀ a b d e f g, Q (.exit 0) (mk [(1, .pv (.sl 9 (evs l))), (3, a), (7, b), (8, .pv (.int .u16 (t' : Nat))), (28, d), (29, e), (30, f), (31, g)] [(3, .pagg (cellsP c')), (27, .pagg [.sl 9 (evs l), .int .u16 0, .nilm])])) →
              (r = none → Q .ret (mk [(6, .pv (.bool false))] [])) → W Q := fun ho W hW =>
            ⟨r, fun h q => g1 h q.2, fun t' c' h => ⟨(g2 t' c' h).1, by rw [← (g2 t' c' h).2]; simp [ho]⟩, hW⟩
          cases hdn : e.dn
          · have hoke : okE c e := fun h => by rw [hdn] at h; cases h
            refine go1 hoke _ fun Q h1 h2 => ?_
            refine LoopW.go irHistExplains_L1.eq_1 (by simp) ?_
            simp [-getElem?_pos, i1, irows_get, irows_length, evs_length, hi, hj0, hj', List.idxOf?_cons]
            refine CallG.go c1 ?_
            simp [-getElem?_pos, hcl, ht32, evs_get, evs_length, he, hj, evP]
            refine CallG.go c2 ?_
            have f := g3 Q h1 h2
            simp at f
            simp [-getElem?_pos, clP, hdn, ht32, hd32, hcl, hdc, b1, b2, b3, b4, evs_get, evs_length, he, hj, evP, w]
            exact f
          · by_cases hrs : (x1, x2) = e.rs
            · have hoke : okE c e := hok.2 fun _ => hrs
              refine go1 hoke _ fun Q h1 h2 => ?_
              refine LoopW.go irHistExplains_L1.eq_1 (by simp) ?_
              simp [-getElem?_pos, i1, irows_get, irows_length, evs_length, hi, hj0, hj', List.idxOf?_cons]
              refine CallG.go c1 ?_
              simp [-getElem?_pos, hcl, ht32, evs_get, evs_length, he, hj, evP]
              refine CallG.go c2 ?_
              have f := g3 Q h1 h2
              simp at f
              simp [-getElem?_pos, ← hrs, clP, ckAll, ckOne, eqPVs, eqPV, hdn, ht32, hd32, hcl, hdc, b1, b2, b3, b4, evs_get, evs_length, he, hj, evP, w]
              exact f
            · have hne : eqPVs [.bool x1, .int .i64 x2] [.bool e.rs.1, .int .i64 e.rs.2] = false := by
                have := clP_eq (x1, x2) e.rs
                simp only [clP] at this
                rw [this]
                simpa using hrs
              refine ⟨none, fun _ h => hrs (hok.1 h.1 hdn), by simp, fun Q h1 h2 => ?_⟩
              refine LoopW.go irHistExplains_L1.eq_1 (by simp) ?_
              simp [-getElem?_pos, i1, irows_get, irows_length, evs_length, hi, hj0, hj', List.idxOf?_cons]
              refine CallG.go c1 ?_
              simp [-getElem?_pos, hcl, ht32, evs_get, evs_length, he, hj, evP]
              refine CallG.go c2 ?_
              simp [-getElem?_pos, clP, ckAll, ckOne, hne, hdn, ht32, hd32, hcl, hdc, evs_get, evs_length, he, hj, evP]
              exact h2 rfl
theorem explains_c (l : List Ev) (c : List Cl) (hc : c.length = 16) (ll : l.length ≤ 12) (o : List Int) (lo : o.length ≤ 20) : ∃ b, ACall Try.prog 13 [.pagg (cellsP c), .pv (.sl 9 (evs l)), .pv (.sl 1 (irows o))] [] (.pv (.bool b)) [] [] ∧ (b = true ↔ ExplP l o 0 c) := by
  have hl : ¬ (12 : Int) < (l.length : Int) := by omega
  have hl' : ¬ 12 < l.length := by omega
  by_cases hol : l.length < o.length
  · refine ⟨false, ?_, ?_⟩
    · refine ACall.fn (fn := Try.f13) rfl okHistExplains rfl (by simp) ?_
      simp only [argT, irHistExplains.eq_1]
      simp [evs_length, irows_length, hl, hl', hol]
    · constructor
      · intro h; cases h
      · intro h
        have := h.len
        have := freeN_le l.length 0
        omega
  · obtain ⟨r, g1, g2, g3⟩ := expl l ll o lo o.length 0 0 c (by omega) (by omega) hc
    rw [List.drop_zero] at g1 g2
    simp at g3
    cases r with
    | none =>
      refine ⟨false, ?_, by simp [g1 rfl]⟩
      refine ACall.fn (fn := Try.f13) rfl okHistExplains rfl (by simp) ?_
      simp only [argT, irHistExplains.eq_1]
      simp [evs_length, irows_length, hl, hl', hol]
      refine g3 _ (fun t' c' h => by cases h) (fun _ => ?_)
      simp
    | some p =>
      obtain ⟨t, d⟩ := p
      obtain ⟨ht, hiff⟩ := g2 t d rfl
      have lp := allDl l ll t (by omega) l.length 0 (by omega) (fun j e h => by omega)
      simp at lp
      by_cases hd : allD l t
      · refine ⟨true, ?_, by rw [hiff]; simp [hd]⟩
        refine ACall.fn (fn := Try.f13) rfl okHistExplains rfl (by simp) ?_
        simp only [argT, irHistExplains.eq_1]
        simp [evs_length, irows_length, hl, hl', hol]
        refine g3 _ (fun t' c' h a b d e f g => ?_) (fun h => by cases h)
        cases h
        simp [evs_length]
        refine lp _ (fun _ a b c d f => ?_) (fun h => absurd hd h)
        simp
      · refine ⟨false, ?_, by rw [hiff]; simp [hd]⟩
        refine ACall.fn (fn := Try.f13) rfl okHistExplains rfl (by simp) ?_
        simp only [argT, irHistExplains.eq_1]
        simp [evs_length, irows_length, hl, hl', hol]
        refine g3 _ (fun t' c' h a b d e f g => ?_) (fun h => by cases h)
        cases h
        simp [evs_length]
        refine lp _ (fun h a b c d f => absurd h hd) (fun _ => ?_)
        simp
end Go.Proofs.Ythpfadbdkkmagaa
