/- The law HistLess. -/
import Derived.Test.YthpfadbdkkmagaaHistShiftW
set_option linter.unusedVariables false
set_option linter.unusedSimpArgs false
namespace Go.Proofs.Ythpfadbdkkmagaa
open Go.Abs Go.RowKit Go.Ours

theorem evF_put : ∀ (l : List Ev) (k : Nat) (e : Ev), l[k]? = some e → (evF l).take (k * 9 + 7) ++ PV.bool false :: PV.int .i64 0 :: (evF l).drop (k * 9 + 9) = evF (l.set k { e with rs := (false, 0) })
  | [], k, e, h => by simp at h
  | x :: l, 0, e, h => by
    simp at h
    subst h
    rw [evF_cons, List.set_cons_zero, evF_cons]
    rfl
  | x :: l, k + 1, e, h => by
    have ih := evF_put l k e (by simpa using h)
    rw [List.set_cons_succ, evF_cons, evF_cons, ← ih]
    have h9 : (evP x).length = 9 := rfl
    rw [show (k + 1) * 9 + 7 = 9 + (k * 9 + 7) by omega, show (k + 1) * 9 + 9 = 9 + (k * 9 + 9) by omega, ← h9, List.take_length_add_append, List.drop_length_add_append, List.append_assoc]
def lessE (e : Ev) : Ev := { e with dn := false, rs := (false, 0), en := 0 }
theorem less_lin (l : List Ev) (j : Nat) (e : Ev) (he : l[j]? = some e) (c : List Cl) (h0 : linE l = 0) (h : Lin l 0 c) : linE (l.set j (lessE e)) = 0 ∧ Lin (l.set j (lessE e)) 0 c := by
  have hget : ∀ (i : Nat) f g, l[i]? = some f → (l.set j (lessE e))[i]? = some g → (i = j ∧ f = e ∧ g = lessE e) ∨ (i ≠ j ∧ g = f) := fun i f g hf hg => by
    rw [List.getElem?_set] at hg
    by_cases hij : j = i
    · subst hij
      rw [he] at hf
      cases hf
      rw [if_pos rfl, if_pos (List.getElem?_eq_some_iff.1 he).1] at hg
      cases hg
      exact Or.inl ⟨rfl, rfl, rfl⟩
    · rw [if_neg hij, hf] at hg
      cases hg
      exact Or.inr ⟨fun h => hij h.symm, rfl⟩
  constructor
  · unfold linE at h0 ⊢
    rw [List.length_set]
    split at h0
    · cases h0
    · rename_i hl
      rw [if_neg hl]
      split at h0
      · rename_i hr
        rw [if_pos]
        rw [List.all_eq_true] at hr ⊢
        intro x hx
        rcases List.mem_or_eq_of_mem_set hx with hx | rfl
        · exact hr x hx
        · have := hr e (List.mem_of_getElem? he)
          simp only [rightE, Bool.and_eq_true] at this
          have h1 : okKv (lessE e).kd (lessE e).ky = true := this.1
          have h2 : (lessE e).dn = false := rfl
          simp [rightE, h1, h2]
      · cases h0
  · refine h.weak (by simp) (fun i f g hf hg => ?_) (fun i k f g f' g' hf hg hf' hg' hh => ?_)
    · rcases hget i f g hf hg with ⟨_, rfl, rfl⟩ | ⟨_, rfl⟩
      · exact ⟨rfl, rfl, rfl, rfl, fun h => by cases h⟩
      · exact ⟨rfl, rfl, rfl, rfl, fun h => ⟨h, rfl⟩⟩
    · rcases hget i f g hf hg with ⟨_, rfl, rfl⟩ | ⟨_, rfl⟩
      · simp [aheadB, lessE] at hh
      · rcases hget k f' g' hf' hg' with ⟨_, rfl, rfl⟩ | ⟨_, rfl⟩
        · have : aheadB g (lessE f') = aheadB g f' := rfl
          rw [← this]
          exact hh
        · exact hh
theorem lessl (l : List Ev) (ll : l.length ≤ 8) (C : List PV) (u : Bool) (er : Nat) : ∀ (n k : Nat) (v : Int), k + n = l.length → (v = -1 ∨ ∃ j : Nat, v = j ∧ j < l.length) → ∀ (Q : Exit → S → Prop),
    (∀ v : Int, (v = -1 ∨ ∃ j : Nat, v = j ∧ j < l.length) → ∀ a b d e, Q (.exit 0) (mk [(1, .pv (.sl 9 (evs l))), (2, .ptr 2 0), (5, .pv (.bool u)), (6, .pv (.int .i64 (er : Nat))), (7, .pv (.int .i64 v)), (24, a), (25, b), (26, d), (27, e)] [(2, .pagg C)])) →
    LoopW Try.prog [1, 2, 5, 6, 7, 24, 25, 26] [2] irLaw26HistLess_L1 (mk [(1, .pv (.sl 9 (evs l))), (2, .ptr 2 0), (5, .pv (.bool u)), (6, .pv (.int .i64 (er : Nat))), (7, .pv (.int .i64 v)), (24, .pv (.sl 9 (evs l))), (25, .pv (.int .i64 (l.length : Nat))), (26, .pv (.int .i64 (k : Nat)))] [(2, .pagg C)]) Q := by
  intro n
  induction n with
  | zero =>
    intro k v hk hv Q h1
    obtain rfl : k = l.length := by omega
    refine LoopW.go irLaw26HistLess_L1.eq_1 (by simp) ?_
    simp
    exact h1 _ hv _ _ _ _
  | succ n ih =>
    intro k v hk hv Q h1
    have i1 : k < l.length := by omega
    obtain ⟨e, he⟩ : ∃ e, l[k]? = some e := ⟨_, List.getElem?_eq_getElem (by omega)⟩
    have w : IntKind.i64.wrap ((k : Int) + 1) = (k + 1 : Nat) := by rw [wrap_i64] <;> omega
    have f1 := ih (k + 1) v (by omega) hv Q h1
    have f2 := ih (k + 1) (k : Int) (by omega) (Or.inr ⟨k, rfl, i1⟩) Q h1
    simp at f1 f2
    refine LoopW.go irLaw26HistLess_L1.eq_1 (by simp) ?_
    cases hdn : e.dn
    · simp [-getElem?_pos, i1, evs_get, evs_length, he, evP, hdn, w]
      exact f1
    · rcases hv with rfl | ⟨j, rfl, hj⟩
      · simp [-getElem?_pos, i1, evs_get, evs_length, he, evP, hdn, w]
        exact f2
      · obtain ⟨e', he'⟩ : ∃ e', l[j]? = some e' := ⟨_, List.getElem?_eq_getElem hj⟩
        have hj0 : ¬ (j : Int) < 0 := by omega
        by_cases hgt : e'.en < e.en
        · simp [-getElem?_pos, i1, hj, hj0, evs_get, evs_length, he, he', evP, hdn, hgt, w]
          exact f2
        · simp [-getElem?_pos, i1, hj, hj0, evs_get, evs_length, he, he', evP, hdn, hgt, w]
          exact f1
theorem lawLess_c (c : List Cl) (hc : c.length = 16) (l : List Ev) : ACall Try.prog 5 [.pagg (cellsP c), .pv (.sl 9 (evs l))] [] (.pv (.bool true)) [] [] := by
  refine ACall.fn (fn := Try.f5) rfl okLaw26HistLess rfl (by simp) ?_
  simp only [argT, irLaw26HistLess.eq_1]
  have hcl : (cellsP c).length = 32 := by rw [cellsP_len, hc]
  have ht32 := cellsP_take32 hc
  simp
  refine CallG.go wakes_c ?_
  by_cases h1 : 8 < l.length
  · have h1' : (8 : Int) < (l.length : Int) := by omega
    simp [evs_length, h1, h1']
  · have h1' : ¬ (8 : Int) < (l.length : Int) := by omega
    have hll : l.length ≤ 100000000000 := by omega
    obtain ⟨b1, c1, g1⟩ := linear_c l c hc (by omega)
    have lp := lessl l (by omega) (cellsP c) b1 (linE l) l.length 0 (-1) (by omega) (Or.inl rfl)
    simp [evs_length, h1, h1', hcl, ht32]
    refine CallG.go c1 ?_
    have e0 : ((0 : Nat) : Int) = 0 := rfl
    rw [e0] at lp
    simp [evs_length]
    refine lp _ fun v hv a b d e => ?_
    cases b1
    · simp
    · obtain ⟨h0, hl⟩ := g1.1 rfl
      rcases hv with rfl | ⟨j, rfl, hj⟩
      · simp [h0]
      · obtain ⟨e, he⟩ : ∃ e, l[j]? = some e := ⟨_, List.getElem?_eq_getElem hj⟩
        have hj0 : ¬ (j : Int) < 0 := by omega
        have hpos : ¬ l.length = 0 := by omega
        have hnil : ¬ l = [] := fun h => hpos (by rw [h]; rfl)
        obtain ⟨q1, q2⟩ := less_lin l j e he c h0 hl
        obtain ⟨b2, c2, g2⟩ := linear_c (l.set j (lessE e)) c hc (by simp; omega)
        have hb : b2 = true := g2.2 ⟨q1, q2⟩
        subst hb
        rw [q1] at c2
        have hs : ∀ e1 : Ev, (l.set j e1)[j]? = some e1 := fun e1 => by rw [List.getElem?_set, if_pos rfl, if_pos hj]
        have s1 := evF_set l j e 6 (.bool false) { e with dn := false } he (by omega) rfl
        have s2 := evF_put (l.set j { e with dn := false }) j { e with dn := false } (hs _)
        rw [List.set_set] at s2
        have s3 := evF_set (l.set j { e with dn := false, rs := (false, 0) }) j { e with dn := false, rs := (false, 0) } 5 (.int .i64 0) (lessE e) (hs _) (by omega) rfl
        rw [List.set_set] at s3
        have hfl : (evF l).length = l.length * 9 := evF_len l
        have hfl1 : (evF (l.set j { e with dn := false })).length = l.length * 9 := by rw [evF_len, List.length_set]
        have hfl2 : (evF (l.set j { e with dn := false, rs := (false, 0) })).length = l.length * 9 := by rw [evF_len, List.length_set]
        have hfl3 : (evF (l.set j (lessE e))).length = l.length * 9 := by rw [evF_len, List.length_set]
        have hr := evF_rows (l.set j (lessE e))
        rw [List.length_set] at hr
        have hk6 : j * 9 + 6 < l.length * 9 := by omega
        have hk7 : j * 9 + 9 ≤ l.length * 9 := by omega
        have hk5 : j * 9 + 5 < l.length * 9 := by omega
        have hpos' : 0 < l.length := by omega
        have hflat : (evs l).flatten = evF l := rfl
        generalize l.set j { e with dn := false } = l1 at *
        generalize l.set j { e with dn := false, rs := (false, 0) } = l2 at *
        generalize hl3 : l.set j (lessE e) = l3 at *
        simp [-getElem?_pos, h0, hj, hj0, hpos, hpos', hnil, hll, evs_length, hflat, hfl, hfl1, hfl2, hfl3, hk5, hk6, hk7, s1, s2, s3, hcl, ht32, hr]
        refine CallG.go c2 ?_
        simp
theorem walkHistLess (c0 : Array Value) (a1 : Option Addr) (l1 c1 : Nat) (w : World) (k0 : Shp.Reads w (.arr 16 shC) c0.toList) (k1 : Shp.Reads w (.slice shE) [.slice a1 l1 c1]) :
     Calls Try.prog 5 #[.agg c0, .slice a1 l1 c1] w fun e w' => e = .returned (.bool true) ∧ Below w.heap.size w w' := by
  obtain ⟨C, q0, hC⟩ := arg_cells k0
  obtain ⟨l, q1, hl⟩ := arg_evs k1
  refine lawCalls (lawLess_c C hC l) rfl fun i v av hv ha => ?_
  match i with
  | 0 => cases hv; cases ha; exact q0
  | 1 => cases hv; cases ha; exact q1
  | n + 2 => simp at hv
end Go.Proofs.Ythpfadbdkkmagaa
