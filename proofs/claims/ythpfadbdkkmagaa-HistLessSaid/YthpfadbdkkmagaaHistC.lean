/- Contract of hist's search. No condition. -/
import Derived.Test.YthpfadbdkkmagaaHistB
set_option linter.unusedVariables false
set_option linter.unusedSimpArgs false
namespace Go.Proofs.Ythpfadbdkkmagaa
open Go.Abs Go.RowKit Go.Ours

theorem cl_eq (x y : Cl) (l m : List PV) : eqPVs (clP x ++ l) (clP y ++ m) = (decide (x = y) && eqPVs l m) := by
  obtain ⟨a, b⟩ := x
  obtain ⟨c, d⟩ := y
  have e : eqPVs (clP (a, b) ++ l) (clP (c, d) ++ m) = ((a == c) && ((b == d) && eqPVs l m)) := rfl
  rw [e, ← Bool.and_assoc, Bool.eq_iff_iff]
  simp
theorem cells_eq : ∀ (c d : List Cl), eqPVs (cellsP c) (cellsP d) = decide (c = d)
  | [], [] => rfl
  | [], y :: d => by rw [cellsP_cons]; simp [cellsP, clP, eqPVs]
  | x :: c, [] => by rw [cellsP_cons]; simp [cellsP, clP, eqPVs]
  | x :: c, y :: d => by
    rw [cellsP_cons, cellsP_cons, cl_eq, cells_eq c d, Bool.eq_iff_iff]
    simp
def spotP (t : Nat) (c : List Cl) : List PV := .int .u16 (t : Nat) :: cellsP c
theorem spot_eq (t u : Nat) (c d : List Cl) : eqPVs (spotP t c) (spotP u d) = decide ((t, c) = (u, d)) := by
  have e : eqPVs (spotP t c) (spotP u d) = (((t : Int) == (u : Int)) && eqPVs (cellsP c) (cellsP d)) := rfl
  rw [e, cells_eq, Bool.eq_iff_iff]
  simp
def cks : List CK := [.i .u16, .b, .i .i64, .b, .i .i64, .b, .i .i64, .b, .i .i64, .b, .i .i64, .b, .i .i64, .b, .i .i64, .b, .i .i64, .b, .i .i64, .b, .i .i64, .b, .i .i64, .b, .i .i64, .b, .i .i64, .b, .i .i64, .b, .i .i64, .b, .i .i64]
theorem cks_cells : ∀ (c : List Cl), ckAll (List.replicate c.length [CK.b, .i .i64]).flatten (cellsP c) = true
  | [] => rfl
  | x :: c => by
    rw [List.length_cons, List.replicate_succ, List.flatten_cons, cellsP_cons]
    have := cks_cells c
    simp [clP, ckAll, ckOne, this]
theorem cks_spot (t : Nat) (c : List Cl) (hc : c.length = 16) : ckAll cks (spotP t c) = true := by
  have h := cks_cells c
  rw [hc] at h
  exact h
def mets (m : List (Nat × List Cl)) : List (List PV × PV) := m.map fun p => (spotP p.1 p.2, .bool true)
theorem mets_get (m : List (Nat × List Cl)) (t : Nat) (c : List Cl) : (mfind (spotP t c) (mets m)).getD (.bool false) = .bool (decide ((t, c) ∈ m)) := by
  induction m with
  | nil => rfl
  | cons p r ih =>
    obtain ⟨u, d⟩ := p
    have e : mfind (spotP t c) (mets ((u, d) :: r)) = if decide ((t, c) = (u, d)) = true then some (.bool true) else mfind (spotP t c) (mets r) := by
      rw [← spot_eq]; rfl
    rw [e]
    by_cases h : (t, c) = (u, d)
    · rw [if_pos (by simp [h])]
      simp [h]
    · rw [if_neg (by simp only [decide_eq_true_eq]; exact h), ih]
      simp only [List.mem_cons, h, false_or]
theorem mets_set (m : List (Nat × List Cl)) (t : Nat) (c : List Cl) (h : (t, c) ∉ m) : mset (spotP t c) (.bool true) (mets m) = mets (m ++ [(t, c)]) := by
  induction m with
  | nil => rfl
  | cons p r ih =>
    obtain ⟨u, d⟩ := p
    have h1 : ¬ (t, c) = (u, d) := fun e => h (by rw [e]; simp)
    have h2 : (t, c) ∉ r := fun e => h (by simp [e])
    have e : mset (spotP t c) (.bool true) (mets ((u, d) :: r)) = if decide ((t, c) = (u, d)) = true then (spotP t c, .bool true) :: mets r else (spotP u d, .bool true) :: mset (spotP t c) (.bool true) (mets r) := by
      rw [← spot_eq]; rfl
    rw [e, if_neg (by simp only [decide_eq_true_eq]; exact h1), ih h2]
    rfl

def srch (l : List Ev) : AV := .agg [.pv (.sl 9 (evs l)), .pv (.int .u16 (dm l : Nat)), .mp 1001]
def metA (m : List (Nat × List Cl)) : AV := .mc true cks (mets m)
/-- What is met is no way out, or was met ahead. -/
def Met (l : List Ev) (O : Nat → List Cl → Prop) (m : List (Nat × List Cl)) : Prop := ∀ q ∈ m, q.2.length = 16 ∧ (O q.1 q.2 ∨ ¬ Lin l q.1 q.2)
/-- The search's promise, from some spot on. -/
def FromOK (l : List Ev) (t : Nat) (c : List Cl) : Prop := ∀ (O : Nat → List Cl → Prop) (m : List (Nat × List Cl)), (∀ u d, O u d → u < t) → Met l O m →
  ∃ b m', ACall Try.prog 16 [.ptr 1000 0, .pagg (spotP t c)] [srch l, metA m] (.pv (.bool b)) [srch l, metA m'] [] ∧ (b = true ↔ Lin l t c) ∧ (b = false → Met l O m')
def OT (O : Nat → List Cl → Prop) (t : Nat) (c : List Cl) : Nat → List Cl → Prop := fun u d => O u d ∨ (u, d) = (t, c)
/-- No event that was tried leads on. -/
def noQ (l : List Ev) (t : Nat) (c : List Cl) (k : Nat) : Prop := ∀ (j : Nat) e, j < k → l[j]? = some e → mayP l t j → okE c e → ¬ Lin l (t ||| 2 ^ j) (doE c e).1
theorem noQ_step {l : List Ev} {t : Nat} {c : List Cl} {k : Nat} (h : noQ l t c k) {x : Ev} (hx : l[k]? = some x) (hn : mayP l t k → okE c x → ¬ Lin l (t ||| 2 ^ k) (doE c x).1) : noQ l t c (k + 1) := fun j y hj hy => by
  by_cases hjk : j = k
  · subst hjk
    rw [hx] at hy
    cases hy
    exact hn
  · exact h j y (by omega) hy
theorem noQ_all {l : List Ev} {t : Nat} {c : List Cl} (hd : ¬ allD l t) (h : noQ l t c l.length) : ¬ Lin l t c := fun hl => by
  cases hl with
  | done _ _ h => exact hd h
  | step _ _ i e h1 h2 h3 h4 => exact h i e (List.getElem?_eq_some_iff.1 h1).1 h1 h2 h3 h4
theorem clP_eq (x y : Cl) : eqPVs (clP x) (clP y) = decide (x = y) := by
  have := cl_eq x y [] []
  simpa [eqPVs] using this
theorem cellsP_take32 {c : List Cl} (hc : c.length = 16) : (cellsP c).take 32 = cellsP c := List.take_of_length_le (by rw [cellsP_len, hc]; decide)
theorem cksF : cksHistSearchFrom_1 = cks := rfl
theorem cksL : cksHistLinear_1 = cks := rfl

theorem froml (l : List Ev) (ll : l.length ≤ 12) (t : Nat) (ht : t < 4096) (c : List Cl) (hc : c.length = 16) (O : Nat → List Cl → Prop) (hO : ∀ u d, O u d → u < t)
    (ih0 : ∀ u d, t < u → u < 4096 → d.length = 16 → FromOK l u d) : ∀ (n k : Nat) (m : List (Nat × List Cl)), k + n = l.length → noQ l t c k → Met l (OT O t c) m → ∃ (b : Bool) (m' : List (Nat × List Cl)), (b = true → Lin l t c) ∧ (b = false → noQ l t c l.length ∧ Met l (OT O t c) m') ∧ ∀ (Q : Exit → S → Prop),
    (b = false → ∀ a b d e f, Q (.exit 0) (mk [(0, .ptr 1000 0), (3, a), (31, b), (32, d), (33, e), (34, f)] [(3, .pagg (spotP t c)), (1000, srch l), (1001, metA m')])) →
    (b = true → Q .ret (mk [(0, .ptr 1000 0), (4, .pv (.bool true))] [(1000, srch l), (1001, metA m')])) →
    LoopW Try.prog [0, 3, 31, 32, 33] [3, 1000, 1001] irHistSearchFrom_L1 (mk [(0, .ptr 1000 0), (3, .ptr 3 0), (31, .pv (.sl 9 (evs l))), (32, .pv (.int .i64 (l.length : Nat))), (33, .pv (.int .i64 (k : Nat)))] [(3, .pagg (spotP t c)), (1000, srch l), (1001, metA m)]) Q := by
  intro n
  induction n with
  | zero =>
    intro k m hk hq hm
    obtain rfl : k = l.length := by omega
    refine ⟨false, m, by simp, fun _ => ⟨hq, hm⟩, fun Q h1 h2 => ?_⟩
    refine LoopW.go irHistSearchFrom_L1.eq_1 (by simp [srch, metA]) ?_
    have h := h1 rfl
    simp [srch, metA] at h ⊢
    exact h _ _ _ _ _
  | succ n ih =>
    intro k m hk hq hm
    have i1 : k < l.length := by omega
    obtain ⟨e, he⟩ : ∃ e, l[k]? = some e := ⟨_, List.getElem?_eq_getElem (by omega)⟩
    have w : IntKind.i64.wrap ((k : Int) + 1) = (k + 1 : Nat) := by rw [wrap_i64] <;> omega
    have hcl : (cellsP c).length = 32 := by rw [cellsP_len, hc]
    have ht32 := cellsP_take32 hc
    obtain ⟨b, c1, hb⟩ := may_c l ll t k (by omega) e he (.int .u16 (dm l : Nat)) cks (mets m)
    cases b
    · obtain ⟨bb, mm, g1, g2, g3⟩ := ih (k + 1) m (by omega) (noQ_step hq he fun h => absurd (hb.2 h) (by simp)) hm
      refine ⟨bb, mm, g1, g2, fun Q h1 h2 => ?_⟩
      refine LoopW.go irHistSearchFrom_L1.eq_1 (by simp [srch, metA]) ?_
      simp [-getElem?_pos, srch, metA, spotP, i1, evs_get, evs_length, he, evP]
      refine CallG.go c1 ?_
      have ih' := g3 Q h1 h2
      simp [srch, metA, spotP, w] at ih' ⊢
      exact ih'
    · have hmay := hb.1 rfl
      have c2 := kvDo_c c hc e.kd e.ky e.a e.b
      have hdl : (doE c e).1.length = 16 := by rw [doE_len, hc]
      have hd32 := cellsP_take32 hdl
      have hdc : (cellsP (doE c e).1).length = 32 := by rw [cellsP_len, hdl]
      obtain ⟨p, b1, b2, b3, b4⟩ := bit_set t k (by omega) (by omega)
      have hgt : t < t ||| 2 ^ k := or_gt hmay.1
      have hlt : t ||| 2 ^ k < 4096 := by
        have := Nat.or_lt_two_pow (n := 12) (x := t) (y := 2 ^ k) (by simpa using ht) (Nat.pow_lt_pow_right (by decide) (by omega))
        simpa using this
      have hdE : doG c e.kd e.ky e.a e.b = doE c e := rfl
      rw [hdE] at c2
      have hlin : ∀ e1, okE c e1 → e1 = e → Lin l (t ||| 2 ^ k) (doE c e).1 → Lin l t c := fun e1 h1 he1 h => by subst he1; exact .step t c k e1 he hmay h1 h
      generalize hu : t ||| 2 ^ k = u at *
      obtain ⟨b', m', c3, hb', hm'⟩ := ih0 u (doE c e).1 hgt hlt hdl (OT O t c) m (fun v d hv => by
        rcases hv with hv | hv
        · have := hO v d hv; omega
        · cases hv; omega) hm
      generalize hE1 : (doE c e).1 = E1 at *
      generalize hE2 : (doE c e).2 = E2 at *
      have fin1 : noQ l t c (k + 1) → Met l (OT O t c) m' → _ := fun g1 g2 => ih (k + 1) m' (by omega) g1 g2
      have fin2 : noQ l t c (k + 1) → _ := fun g1 => ih (k + 1) m (by omega) g1 hm
      simp [opP] at c2
      obtain ⟨x1, x2⟩ := E2
      simp only [srch, metA, spotP] at c3
      cases hdn : e.dn
      · have hoke : okE c e := fun h => by rw [hdn] at h; cases h
        cases b'
        · obtain ⟨bb, mm, g1, g2, g3⟩ := fin1 (noQ_step hq he fun _ _ => by rw [hu, hE1]; intro h; exact absurd (hb'.2 h) (by simp)) (hm' rfl)
          refine ⟨bb, mm, g1, g2, fun Q h1 h2 => ?_⟩
          refine LoopW.go irHistSearchFrom_L1.eq_1 (by simp [srch, metA]) ?_
          simp [-getElem?_pos, srch, metA, spotP, i1, evs_get, evs_length, he, evP]
          refine CallG.go c1 ?_
          simp [-getElem?_pos, hcl, ht32]
          refine CallG.go c2 ?_
          simp [-getElem?_pos, clP, srch, metA, hdn, ht32, hd32, hcl, hdc, b1, b2, b3, b4, spotP, List.idxOf?_cons]
          refine CallG.go c3 ?_
          have f := g3 Q h1 h2
          simp [srch, metA, spotP] at f
          simp [w]
          exact f
        · refine ⟨true, m', fun _ => hlin e hoke rfl (hb'.1 rfl), by simp, fun Q h1 h2 => ?_⟩
          refine LoopW.go irHistSearchFrom_L1.eq_1 (by simp [srch, metA]) ?_
          simp [-getElem?_pos, srch, metA, spotP, i1, evs_get, evs_length, he, evP]
          refine CallG.go c1 ?_
          simp [-getElem?_pos, hcl, ht32]
          refine CallG.go c2 ?_
          simp [-getElem?_pos, clP, srch, metA, hdn, ht32, hd32, hcl, hdc, b1, b2, b3, b4, spotP, List.idxOf?_cons]
          refine CallG.go c3 ?_
          have f := h2 rfl
          simp [srch, metA] at f
          simp
          exact f
      · by_cases hrs : (x1, x2) = e.rs
        · have hoke : okE c e := fun _ => by rw [hE2, hrs]
          cases b'
          · obtain ⟨bb, mm, g1, g2, g3⟩ := fin1 (noQ_step hq he fun _ _ => by rw [hu, hE1]; intro h; exact absurd (hb'.2 h) (by simp)) (hm' rfl)
            refine ⟨bb, mm, g1, g2, fun Q h1 h2 => ?_⟩
            refine LoopW.go irHistSearchFrom_L1.eq_1 (by simp [srch, metA]) ?_
            simp [-getElem?_pos, srch, metA, spotP, i1, evs_get, evs_length, he, evP]
            refine CallG.go c1 ?_
            simp [-getElem?_pos, hcl, ht32]
            refine CallG.go c2 ?_
            rw [← hrs]
            simp [-getElem?_pos, clP, ckAll, ckOne, eqPVs, eqPV, srch, metA, hdn, ht32, hd32, hcl, hdc, b1, b2, b3, b4, spotP, List.idxOf?_cons]
            refine CallG.go c3 ?_
            have f := g3 Q h1 h2
            simp [srch, metA, spotP] at f
            simp [w]
            exact f
          · refine ⟨true, m', fun _ => hlin e hoke rfl (hb'.1 rfl), by simp, fun Q h1 h2 => ?_⟩
            refine LoopW.go irHistSearchFrom_L1.eq_1 (by simp [srch, metA]) ?_
            simp [-getElem?_pos, srch, metA, spotP, i1, evs_get, evs_length, he, evP]
            refine CallG.go c1 ?_
            simp [-getElem?_pos, hcl, ht32]
            refine CallG.go c2 ?_
            rw [← hrs]
            simp [-getElem?_pos, clP, ckAll, ckOne, eqPVs, eqPV, srch, metA, hdn, ht32, hd32, hcl, hdc, b1, b2, b3, b4, spotP, List.idxOf?_cons]
            refine CallG.go c3 ?_
            have f := h2 rfl
            simp [srch, metA] at f
            simp
            exact f
        · obtain ⟨bb, mm, g1, g2, g3⟩ := fin2 (noQ_step hq he fun _ ho => absurd (by rw [← hE2]; exact ho hdn) hrs)
          refine ⟨bb, mm, g1, g2, fun Q h1 h2 => ?_⟩
          refine LoopW.go irHistSearchFrom_L1.eq_1 (by simp [srch, metA]) ?_
          simp [-getElem?_pos, srch, metA, spotP, i1, evs_get, evs_length, he, evP]
          refine CallG.go c1 ?_
          simp [-getElem?_pos, hcl, ht32]
          refine CallG.go c2 ?_
          have f := g3 Q h1 h2
          have hne : eqPVs [.bool x1, .int .i64 x2] [.bool e.rs.1, .int .i64 e.rs.2] = false := by
            have := clP_eq (x1, x2) e.rs
            simp only [clP] at this
            rw [this]
            simpa using hrs
          simp [srch, metA, spotP] at f
          simp [-getElem?_pos, clP, ckAll, ckOne, hne, srch, metA, hdn, ht32, hd32, hcl, hdc, b1, b2, b3, b4, spotP, w]
          exact f

theorem from_all (l : List Ev) (ll : l.length ≤ 12) : ∀ (n t : Nat) (c : List Cl), 4096 - t ≤ n → t < 4096 → c.length = 16 → FromOK l t c := by
  intro n
  induction n with
  | zero => intro t c h ht; omega
  | succ n ih =>
    intro t c hn ht hc O m hO hm
    have hcl : (cellsP c).length = 32 := by rw [cellsP_len, hc]
    have hdl : dm l < 4096 := dmF_lt l _ ll
    obtain ⟨z, hz, hz0⟩ := andnot_zero (dm l) t (by omega) (by omega)
    rw [dm_all] at hz0
    by_cases hd : allD l t
    · have hz' : z = 0 := hz0.2 hd
      subst hz'
      refine ⟨true, m, ?_, by simp [Lin.done t c hd], by simp⟩
      refine ACall.fn (fn := Try.f16) rfl okHistSearchFrom rfl (by simp) ?_
      simp only [argT, irHistSearchFrom.eq_1]
      simp [srch, metA, spotP, hz, range2]
    · have hz' : z ≠ 0 := fun h => hd (hz0.1 h)
      have hk := cks_spot t c hc
      have hg := mets_get m t c
      by_cases hin : (t, c) ∈ m
      · have hnl : ¬ Lin l t c := by
          rcases (hm _ hin).2 with h | h
          · have := hO _ _ h; omega
          · exact h
        refine ⟨false, m, ?_, by simp [hnl], fun _ => hm⟩
        rw [decide_eq_true hin] at hg
        refine ACall.fn (fn := Try.f16) rfl okHistSearchFrom rfl (by simp) ?_
        simp only [argT, irHistSearchFrom.eq_1]
        simp only [spotP] at hk hg
        simp [srch, metA, spotP, hz, hz', range2, cksF, hcl, hk, hg]
      · rw [decide_eq_false hin] at hg
        have hs := mets_set m t c hin
        have hm2 : Met l (OT O t c) (m ++ [(t, c)]) := fun q hq => by
          rcases List.mem_append.1 hq with h | h
          · obtain ⟨q1, q2⟩ := hm q h
            exact ⟨q1, q2.imp (fun h => Or.inl h) id⟩
          · simp at h
            subst h
            exact ⟨hc, Or.inl (Or.inr rfl)⟩
        obtain ⟨b, m', g1, g2, g3⟩ := froml l ll t ht c hc O hO (fun u d h1 h2 h3 => ih u d (by omega) h2 h3) l.length 0 (m ++ [(t, c)]) (by omega) (fun j e h => by omega) hm2
        refine ⟨b, m', ?_, ⟨g1, fun h => ?_⟩, fun h => ?_⟩
        · refine ACall.fn (fn := Try.f16) rfl okHistSearchFrom rfl (by simp) ?_
          simp only [argT, irHistSearchFrom.eq_1]
          simp only [spotP] at hk hg hs
          simp only [srch, metA, spotP] at g3
          simp [srch, metA, spotP, hz, hz', cksF, hcl, hk, hg, hs, evs_length]
          refine g3 _ (fun h a b' d e f => ?_) (fun h => ?_)
          · subst h
            simp [range2]
          · subst h
            simp [range2]
        · cases b
          · exact absurd h (noQ_all hd (g2 rfl).1)
          · rfl
        · obtain ⟨h1, h2⟩ := g2 h
          intro q hq
          obtain ⟨q1, q2⟩ := h2 q hq
          refine ⟨q1, ?_⟩
          rcases q2 with (q2 | q2) | q2
          · exact Or.inl q2
          · right
            cases q2
            exact noQ_all hd h1
          · exact Or.inr q2
end Go.Proofs.Ythpfadbdkkmagaa
