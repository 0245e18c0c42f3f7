/- What hist's laws are given; the example; consistoryref26.Explains. No condition. -/
import Derived.Test.YthpfadbdkkmagaaHistF
import Derived.Test.YthpfadbdkkmagaaArgTxt
set_option linter.unusedVariables false
set_option linter.unusedSimpArgs false
namespace Go.Proofs.Ythpfadbdkkmagaa
open Go.Abs Go.RowKit Go.Ours

theorem ok_pair {a b : Shp} {ps : List PV} (h : OKs (.pair a b) ps) : ∃ p q, ps = p ++ q ∧ OKs a p ∧ OKs b q := ⟨_, _, (List.take_append_drop _ _).symm, h.1, h.2⟩
theorem ok_unit {ps : List PV} (h : OKs .unit ps) : ps = [] := h
theorem ok_ik {k : IntKind} {ps : List PV} (h : OKs (.int k) ps) : ∃ n, ps = [.int k n] := by
  obtain ⟨n, h, _⟩ := h
  exact ⟨n, h⟩
theorem ok_arr {α : Type} {f : α → List PV} {e : Shp} (hf : ∀ p, OKs e p → ∃ x, p = f x) : ∀ {n : Nat} {ps : List PV}, OKs (.arr n e) ps → ∃ l : List α, ps = l.flatMap f ∧ l.length = n
  | 0, ps, h => by
    obtain ⟨h1, _⟩ := h
    rw [Nat.zero_mul] at h1
    exact ⟨[], List.eq_nil_of_length_eq_zero h1, rfl⟩
  | n + 1, ps, h => by
    obtain ⟨h1, h2⟩ := h
    obtain ⟨x, hx⟩ := hf _ (h2 0 (by omega))
    rw [Nat.zero_mul, List.drop_zero] at hx
    obtain ⟨l, g1, g2⟩ := ok_arr hf (n := n) (ps := ps.drop e.size) ⟨by rw [List.length_drop, h1, Nat.succ_mul]; omega, fun i hi => by
      have := h2 (i + 1) (by omega)
      rw [List.drop_drop]
      rw [Nat.succ_mul, Nat.add_comm] at this
      exact this⟩
    refine ⟨x :: l, ?_, by simp [g2]⟩
    rw [List.flatMap_cons, ← g1, ← hx, List.take_append_drop]
theorem ok_rows {α : Type} {f : α → List PV} {e : Shp} (hf : ∀ p, OKs e p → ∃ x, p = f x) : ∀ {es : List (List PV)}, (∀ p ∈ es, OKs e p) → ∃ l : List α, es = l.map f
  | [], _ => ⟨[], rfl⟩
  | p :: es, h => by
    obtain ⟨x, rfl⟩ := hf p (h p List.mem_cons_self)
    obtain ⟨l, rfl⟩ := ok_rows hf fun q hq => h q (List.mem_cons_of_mem _ hq)
    exact ⟨x :: l, rfl⟩
def shC : Shp := .pair .bool (.pair (.int .i64) .unit)
def shO : Shp := .pair (.int .i64) (.pair (.int .i64) (.pair (.int .i64) (.pair (.int .i64) .unit)))
def shE : Shp := .pair shO (.pair (.int .i64) (.pair (.int .i64) (.pair .bool (.pair shC .unit))))
theorem ok_c {ps : List PV} (h : OKs shC ps) : ∃ x : Cl, ps = clP x := by
  obtain ⟨p, q, rfl, h1, h2⟩ := ok_pair h
  obtain ⟨q, r, rfl, h3, h4⟩ := ok_pair h2
  obtain ⟨b, rfl⟩ := h1
  obtain ⟨n, rfl⟩ := ok_ik h3
  rw [ok_unit h4]
  exact ⟨(b, n), rfl⟩
theorem ok_o {ps : List PV} (h : OKs shO ps) : ∃ kd ky a b : Int, ps = opP kd ky a b := by
  obtain ⟨p, q, rfl, h1, h⟩ := ok_pair h
  obtain ⟨q, r, rfl, h2, h⟩ := ok_pair h
  obtain ⟨r, t, rfl, h3, h⟩ := ok_pair h
  obtain ⟨t, u, rfl, h4, h5⟩ := ok_pair h
  obtain ⟨a, rfl⟩ := ok_ik h1
  obtain ⟨b, rfl⟩ := ok_ik h2
  obtain ⟨c, rfl⟩ := ok_ik h3
  obtain ⟨d, rfl⟩ := ok_ik h4
  rw [ok_unit h5]
  exact ⟨a, b, c, d, rfl⟩
theorem ok_e {ps : List PV} (h : OKs shE ps) : ∃ e : Ev, ps = evP e := by
  obtain ⟨p, q, rfl, h1, h⟩ := ok_pair h
  obtain ⟨q, r, rfl, h2, h⟩ := ok_pair h
  obtain ⟨r, t, rfl, h3, h⟩ := ok_pair h
  obtain ⟨t, u, rfl, h4, h⟩ := ok_pair h
  obtain ⟨u, v, rfl, h5, h6⟩ := ok_pair h
  obtain ⟨kd, ky, a, b, rfl⟩ := ok_o h1
  obtain ⟨bg, rfl⟩ := ok_ik h2
  obtain ⟨en, rfl⟩ := ok_ik h3
  obtain ⟨dn, rfl⟩ := h4
  obtain ⟨rs, rfl⟩ := ok_c h5
  rw [ok_unit h6]
  exact ⟨⟨kd, ky, a, b, bg, en, dn, rs⟩, rfl⟩
theorem arg_cells {w : World} {c : Array Value} (h : Shp.Reads w (.arr 16 shC) c.toList) : ∃ L : List Cl, ArgR w (.agg c) (.pagg (cellsP L)) ∧ L.length = 16 := by
  obtain ⟨ps, h1, h2, h3⟩ := pvs_of_reads rfl h
  obtain ⟨l, rfl, g1⟩ := ok_arr (fun p => ok_c) h2
  exact ⟨l, ArgR.agg h1, g1⟩
theorem arg_evs {w : World} {a : Option Addr} {n c : Nat} (h : Shp.Reads w (.slice shE) [.slice a n c]) : ∃ l : List Ev, ArgR w (.slice a n c) (.pv (.sl 9 (evs l))) ∧ l.length ≤ maxLen := by
  obtain ⟨ps, h1, h2, h3⟩ := pvs_of_reads rfl h
  obtain ⟨es, rfl, hl, he⟩ := h2
  obtain ⟨l, rfl⟩ := ok_rows (fun p => ok_e) he
  exact ⟨l, ArgR.pv (h1.2 0 _ _ rfl rfl), by simpa using hl⟩
theorem arg_ints {w : World} {a : Option Addr} {n c : Nat} (h : Shp.Reads w (.slice (.int .i64)) [.slice a n c]) : ∃ l : List Int, ArgR w (.slice a n c) (.pv (.sl 1 (irows l))) ∧ l.length ≤ maxLen := by
  obtain ⟨ps, h1, h2, h3⟩ := pvs_of_reads rfl h
  obtain ⟨es, rfl, hl, he⟩ := h2
  obtain ⟨l, rfl⟩ := ok_rows (fun p => ok_ik (k := .i64)) he
  exact ⟨l, ArgR.pv (h1.2 0 _ _ rfl rfl), by simpa using hl⟩

def ev0 : Ev := ⟨2, 0, 1, 0, 0, 1, true, (true, 0)⟩
def ev1 : Ev := ⟨1, 0, 0, 0, 2, 3, true, (false, 0)⟩
def cz : List Cl := List.replicate 16 (false, 0)
theorem wake1 : Lin [ev0] 0 cz := by
  refine .step 0 cz 0 ev0 rfl ⟨rfl, fun k x e hx he hk ht => ?_⟩ (fun _ => by decide) (.done _ _ fun i e he hd => ?_)
  · cases k with
    | zero => exact absurd rfl hk
    | succ k => simp at hx
  · cases i with
    | zero => rfl
    | succ k => simp at he
theorem wake2 : ¬ Lin [ev0, ev1] 0 cz := fun h => by
  cases h with
  | done _ _ h =>
    have := h 0 ev0 rfl rfl
    simp at this
  | step _ _ i e he hm ho hl =>
    match i with
    | 0 =>
      cases he
      cases hl with
      | done _ _ h =>
        have := h 1 ev1 rfl rfl
        simp [Nat.testBit, Nat.shiftRight_eq_div_pow] at this
      | step _ _ i e he hm ho hl =>
        match i with
        | 0 =>
          have := hm.1
          simp at this
        | 1 =>
          cases he
          have := ho rfl
          revert this
          decide
        | i + 2 => simp at he
    | 1 =>
      cases he
      have := hm.2 0 ev0 ev1 rfl rfl (by decide) rfl
      revert this
      decide
    | i + 2 => simp at he
theorem cz_cells : cellsP cz = [.bool false, .int .i64 0, .bool false, .int .i64 0, .bool false, .int .i64 0, .bool false, .int .i64 0, .bool false, .int .i64 0, .bool false, .int .i64 0, .bool false, .int .i64 0, .bool false, .int .i64 0, .bool false, .int .i64 0, .bool false, .int .i64 0, .bool false, .int .i64 0, .bool false, .int .i64 0, .bool false, .int .i64 0, .bool false, .int .i64 0, .bool false, .int .i64 0, .bool false, .int .i64 0] := rfl
theorem wakes_c : ACall Try.prog 9 [] [] (.pv (.bool true)) [] [] := by
  refine ACall.fn (fn := Try.f9) rfl okLaw26Wakes rfl (by simp) ?_
  simp only [argT, irLaw26Wakes.eq_1]
  obtain ⟨b1, c1, h1⟩ := linear_c [ev0, ev1] cz rfl (by decide)
  obtain ⟨b2, c2, h2⟩ := linear_c [ev0] cz rfl (by decide)
  have e1 : linE [ev0, ev1] = 0 := by decide
  have e2 : linE [ev0] = 0 := by decide
  have g1 : b1 = false := by
    cases b1
    · rfl
    · exact absurd (h1.1 rfl).2 wake2
  have g2 : b2 = true := h2.2 ⟨e2, wake1⟩
  subst g1 g2
  rw [e1] at c1
  rw [e2] at c2
  rw [cz_cells] at c1 c2
  simp [evs, evP, ev0, ev1] at c1 c2
  simp
  refine CallG.go c1 ?_
  simp
  refine CallG.go c2 ?_
  simp
end Go.Proofs.Ythpfadbdkkmagaa
