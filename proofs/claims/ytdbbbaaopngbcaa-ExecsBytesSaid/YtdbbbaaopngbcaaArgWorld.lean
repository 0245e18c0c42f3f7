/- What a law is given: worlds, batches of requests. No condition. -/
import Derived.Test.YtdbbbaaopngbcaaExecsD
set_option linter.unusedVariables false
set_option linter.unusedSimpArgs false
namespace Go.Proofs.Ytdbbbaaopngbcaa
open Go.Abs Go.RowKit Go.Ours

theorem ok_pair {a b : Shp} {ps : List PV} (h : OKs (.pair a b) ps) : ∃ p q, ps = p ++ q ∧ OKs a p ∧ OKs b q := ⟨_, _, (List.take_append_drop _ _).symm, h.1, h.2⟩
theorem ok_int {k : IntKind} {ps : List PV} (h : OKs (.int k) ps) : ∃ n, ps = [.int k n] := by
  obtain ⟨n, h, _⟩ := h
  exact ⟨n, h⟩
theorem ok_unit {ps : List PV} (h : OKs .unit ps) : ps = [] := h
theorem ok_arr {α : Type} {f : α → List PV} {Q : α → Prop} {e : Shp} (hf : ∀ p, OKs e p → ∃ x, Q x ∧ p = f x) : ∀ {n : Nat} {ps : List PV}, OKs (.arr n e) ps → ∃ l : List α, ps = l.flatMap f ∧ l.length = n ∧ ∀ x ∈ l, Q x
  | 0, ps, h => by
    obtain ⟨h1, _⟩ := h
    rw [Nat.zero_mul] at h1
    exact ⟨[], List.eq_nil_of_length_eq_zero h1, rfl, by simp⟩
  | n + 1, ps, h => by
    obtain ⟨h1, h2⟩ := h
    obtain ⟨x, hq, hx⟩ := hf _ (h2 0 (by omega))
    rw [Nat.zero_mul, List.drop_zero] at hx
    obtain ⟨l, g1, g2, g3⟩ := ok_arr hf (n := n) (ps := ps.drop e.size) ⟨by rw [List.length_drop, h1, Nat.succ_mul]; omega, fun i hi => by
      have := h2 (i + 1) (by omega)
      rw [List.drop_drop]
      rw [Nat.succ_mul, Nat.add_comm] at this
      exact this⟩
    refine ⟨x :: l, ?_, by simp [g2], fun y hy => by rcases List.mem_cons.1 hy with rfl | hy; exact hq; exact g3 y hy⟩
    rw [List.flatMap_cons, ← g1, ← hx, List.take_append_drop]
theorem rows_of {α : Type} {f : α → List PV} {Q : α → Prop} : ∀ {es : List (List PV)}, (∀ p ∈ es, ∃ x, Q x ∧ p = f x) → ∃ l : List α, es = l.map f ∧ l.length = es.length ∧ ∀ x ∈ l, Q x
  | [], _ => ⟨[], rfl, rfl, by simp⟩
  | p :: es, h => by
    obtain ⟨x, hq, rfl⟩ := h p List.mem_cons_self
    obtain ⟨l, rfl, g2, g3⟩ := rows_of fun q hq => h q (List.mem_cons_of_mem _ hq)
    exact ⟨x :: l, rfl, by simp, fun y hy => by rcases List.mem_cons.1 hy with rfl | hy; exact hq; exact g3 y hy⟩
def shV : Shp := .pair (.int .i64) (.pair (.int .u16) .unit)
def shC : Shp := .pair .bool (.pair (.int .i64) .unit)
def shR : Shp := .pair (.int .i64) (.pair (.int .i64) (.pair (.int .i64) (.pair shC .unit)))
def shW : Shp := .pair (.int .i64) (.pair (.int .i64) (.pair shV (.pair shV (.pair (.arr 16 shC) (.pair (.arr 6 shR) .unit)))))
def shQ : Shp := .pair (.int .i64) (.pair (.int .i64) (.pair (.pair (.int .i64) (.pair (.int .i64) (.pair (.int .i64) (.pair (.int .i64) .unit)))) (.pair (.slice (.int .u8)) .unit)))
theorem ok_v {ps : List PV} (h : OKs shV ps) : ∃ v : Int × Nat, v.2 < 65536 ∧ ps = vwP v := by
  obtain ⟨p, q, rfl, h1, h2⟩ := ok_pair h
  obtain ⟨q, r, rfl, h3, h4⟩ := ok_pair h2
  obtain ⟨n, rfl⟩ := ok_int h1
  obtain ⟨m, rfl, hm⟩ := ok_n rfl h3
  rw [ok_unit h4]
  exact ⟨(n, m), hm, rfl⟩
theorem ok_c {ps : List PV} (h : OKs shC ps) : ∃ x : Cl, True ∧ ps = clP x := by
  obtain ⟨p, q, rfl, h1, h2⟩ := ok_pair h
  obtain ⟨q, r, rfl, h3, h4⟩ := ok_pair h2
  obtain ⟨b, rfl⟩ := h1
  obtain ⟨n, rfl⟩ := ok_int h3
  rw [ok_unit h4]
  exact ⟨(b, n), trivial, rfl⟩
theorem ok_r {ps : List PV} (h : OKs shR ps) : ∃ x : Rp, True ∧ ps = rpP x := by
  obtain ⟨p, q, rfl, h1, h⟩ := ok_pair h
  obtain ⟨q, r, rfl, h2, h⟩ := ok_pair h
  obtain ⟨r, t, rfl, h3, h⟩ := ok_pair h
  obtain ⟨t, u, rfl, h4, h5⟩ := ok_pair h
  obtain ⟨a, rfl⟩ := ok_int h1
  obtain ⟨b, rfl⟩ := ok_int h2
  obtain ⟨c, rfl⟩ := ok_int h3
  obtain ⟨x, _, rfl⟩ := ok_c h4
  rw [ok_unit h5]
  exact ⟨⟨a, b, c, x⟩, trivial, rfl⟩
theorem ok_q {ps : List PV} (h : OKs shQ ps) : ∃ x : Rq, True ∧ ps = rqP x := by
  obtain ⟨p, q, rfl, h1, h⟩ := ok_pair h
  obtain ⟨q, r, rfl, h2, h⟩ := ok_pair h
  obtain ⟨r, t, rfl, h3, h⟩ := ok_pair h
  obtain ⟨t, u, rfl, h4, h5⟩ := ok_pair h
  obtain ⟨a, rfl⟩ := ok_int h1
  obtain ⟨b, rfl⟩ := ok_int h2
  obtain ⟨p1, q1, rfl, e1, k1⟩ := ok_pair h3
  obtain ⟨q2, r2, rfl, e2, k2⟩ := ok_pair k1
  obtain ⟨r3, v3, rfl, e3, k3⟩ := ok_pair k2
  obtain ⟨v4, x4, rfl, e4, k4⟩ := ok_pair k3
  obtain ⟨c, rfl⟩ := ok_int e1
  obtain ⟨d, rfl⟩ := ok_int e2
  obtain ⟨e', rfl⟩ := ok_int e3
  obtain ⟨f, rfl⟩ := ok_int e4
  rw [ok_unit k4]
  obtain ⟨l, rfl, _, _⟩ := ok_sln rfl h4
  rw [ok_unit h5]
  exact ⟨⟨a, b, c, d, e', f, l⟩, trivial, rfl⟩
/-- A world. -/
theorem arg_world {w : World} {c : Array Value} (h : Shp.Reads w shW c.toList) : ∃ W : Wd, ArgR w (.agg c) (.pagg (wP W)) ∧ W.cells.length = 16 ∧ W.last.length = 6 ∧ W.view.2 < 65536 := by
  obtain ⟨ps, h1, h2, h3⟩ := pvs_of_reads rfl h
  obtain ⟨p, q, rfl, g1, g⟩ := ok_pair h2
  obtain ⟨q, r, rfl, g2, g⟩ := ok_pair g
  obtain ⟨r, t, rfl, g3, g⟩ := ok_pair g
  obtain ⟨t, u, rfl, g4, g⟩ := ok_pair g
  obtain ⟨u, x, rfl, g5, g⟩ := ok_pair g
  obtain ⟨x, y, rfl, g6, g7⟩ := ok_pair g
  obtain ⟨a, rfl⟩ := ok_int g1
  obtain ⟨b, rfl⟩ := ok_int g2
  obtain ⟨v, hv, rfl⟩ := ok_v g3
  obtain ⟨v2, hv2, rfl⟩ := ok_v g4
  obtain ⟨cl, rfl, hcl, _⟩ := ok_arr (fun p => ok_c) g5
  obtain ⟨la, rfl, hla, _⟩ := ok_arr (fun p => ok_r) g6
  rw [ok_unit g7] at h1
  refine ⟨⟨a, b, v, v2, cl, la⟩, ArgR.agg ?_, hcl, hla, hv⟩
  simpa [wP, cellsP, repsP] using h1
/-- Batches. -/
def bRows (L : List (List Rq)) : List (List PV) := L.map fun l => [PV.sl 7 (rqRows l)]
theorem bRows_get (L : List (List Rq)) (i : Nat) : (bRows L)[i]? = L[i]?.map fun l => [PV.sl 7 (rqRows l)] := by simp [bRows]
theorem bRows_len (L : List (List Rq)) : (bRows L).length = L.length := by simp [bRows]
theorem ok_batch {ps : List PV} (h : OKs (.slice shQ) ps) : ∃ l : List Rq, l.length ≤ maxLen ∧ ps = [.sl 7 (rqRows l)] := by
  obtain ⟨es, rfl, h1, h2⟩ := h
  obtain ⟨l, rfl, h3, _⟩ := rows_of fun p hp => ok_q (h2 p hp)
  exact ⟨l, by omega, rfl⟩
theorem arg_batch {w : World} {a : Option Addr} {n c : Nat} (h : Shp.Reads w (.slice shQ) [.slice a n c]) : ∃ l : List Rq, ArgR w (.slice a n c) (.pv (.sl 7 (rqRows l))) ∧ l.length ≤ maxLen := by
  obtain ⟨ps, h1, h2, h3⟩ := pvs_of_reads rfl h
  obtain ⟨l, hl, rfl⟩ := ok_batch h2
  exact ⟨l, ArgR.pv (h1.2 0 _ _ rfl rfl), hl⟩
theorem arg_batches {w : World} {a : Option Addr} {n c : Nat} (h : Shp.Reads w (.slice (.slice shQ)) [.slice a n c]) : ∃ L : List (List Rq), ArgR w (.slice a n c) (.pv (.sl 1 (bRows L))) ∧ L.length ≤ maxLen ∧ ∀ l ∈ L, l.length ≤ maxLen := by
  obtain ⟨ps, h1, h2, h3⟩ := pvs_of_reads rfl h
  obtain ⟨es, rfl, q1, q2⟩ := h2
  obtain ⟨L, rfl, g1, g2⟩ := rows_of (f := fun l => [PV.sl 7 (rqRows l)]) (Q := fun l : List Rq => l.length ≤ maxLen) fun p hp => ok_batch (q2 p hp)
  exact ⟨L, ArgR.pv (h1.2 0 _ _ rfl rfl), by omega, g2⟩
end Go.Proofs.Ytdbbbaaopngbcaa
