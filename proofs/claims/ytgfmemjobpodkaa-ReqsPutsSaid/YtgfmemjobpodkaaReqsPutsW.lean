/- The law ReqsPuts. -/
import Derived.Test.YtgfmemjobpodkaaReqsGet
import Derived.Test.YtgfmemjobpodkaaArgTxt
set_option linter.unusedVariables false
set_option linter.unusedSimpArgs false
namespace Go.Proofs.Ytgfmemjobpodkaa
open Go.Abs Go.RowKit Go.Ours

theorem same07_c (r : Rq) (hl : r.sig.length ≤ 1000) : ACall Try.prog 15 [.pagg (rqP r), .pagg (rqP r)] [] (.pv (.bool true)) [] [] := by
  refine ACall.fn (fn := Try.f15) rfl okRef07Same rfl (by simp) ?_
  simp only [argT, irRef07Same.eq_1]
  have c := same_c r.sig r.sig (by omega)
  rw [decide_eq_true rfl] at c
  simp [rqP, ckAll, ckOne, eqPVs, eqPV]
  refine CallG.go c ?_
  simp
def r0 : Rq := ⟨1, 2, 2, 3, 5, 0, []⟩
theorem textR0 : (if formedF r0 then textR r0 else []) = [1, 2, 2, 3, 10, 0] := by
  have e : formedF r0 = true := by decide
  rw [if_pos e]
  show [1, 2, 2, 3] ++ packed 10 ++ packed 0 = _
  rw [packed_small (by decide), packed_small (by decide)]
  rfl
theorem wakes_c : ACall Try.prog 5 [] [] (.pv (.bool true)) [] [] := by
  refine ACall.fn (fn := Try.f5) rfl okLaw07Wakes rfl (by simp) ?_
  simp only [argT, irLaw07Wakes.eq_1]
  have c := text_c r0 ⟨by decide, by decide⟩ ⟨by decide, by decide⟩
  rw [textR0] at c
  have c2 : ACall Try.prog 12 [.pv (.sl 1 (krows .u8 [1, 2, 2, 3, 10, 0])), .pv (.sl 1 [[.int .u8 1], [.int .u8 2], [.int .u8 2], [.int .u8 3], [.int .u8 10], [.int .u8 0]])] [] (.pv (.bool true)) [] [] := by
    have h := same_c [1, 2, 2, 3, 10, 0] [1, 2, 2, 3, 10, 0] (by decide)
    rw [decide_eq_true rfl] at h
    exact h
  have e : rqP r0 = [.int .i64 1, .int .i64 2, .int .i64 2, .int .i64 3, .int .i64 5, .int .i64 0, .sl 1 []] := rfl
  rw [e] at c
  generalize [1, 2, 2, 3, 10, 0] = q at *
  simp
  refine CallG.go c ?_
  simp
  refine CallG.go c2 ?_
  simp
theorem lawPuts_c (r : Rq) (cl : Int) (ha : I64 r.a) (hb : I64 r.b) : ACall Try.prog 3 [.pagg (rqP r), .pv (.int .i64 cl)] [] (.pv (.bool true)) [] [] := by
  refine ACall.fn (fn := Try.f3) rfl okLaw07ReqsPuts rfl (by simp) ?_
  simp only [argT, irLaw07ReqsPuts.eq_1]
  by_cases h1 : 2000 < r.sig.length
  · have h1' : (2000 : Int) < (r.sig.length : Int) := by omega
    simp [rqP]
    refine CallG.go wakes_c ?_
    simp [krows_length, h1, h1']
  · have h1' : ¬ (2000 : Int) < (r.sig.length : Int) := by omega
    have c1 := rput_c r ha hb
    have c2 := text_c r ha hb
    have c3 := reqRight_c cl r.kd r.ky r.a r.b
    have c4 := refReqRight_c cl r.kd r.ky r.a r.b
    have c5 := refFormed_c r
    generalize opOk cl r.kd r.ky r.a r.b = o at *
    cases h : formedF r
    · rw [h] at c1 c2 c5
      simp [rqP, opP, krows] at c1 c2 c3 c4 c5 ⊢
      refine CallG.go wakes_c ?_
      simp [h1, h1']
      refine CallG.go c1 ?_
      simp
      refine CallG.go c2 ?_
      simp
      refine CallG.go c3 ?_
      simp
      refine CallG.go c4 ?_
      simp
      refine CallG.go c5 ?_
      simp
    · rw [h] at c1 c2 c5
      have hs := formed_small h
      have hl := textR_len r ha hb
      have c6 := rget_c r h ha hb
      have c7 := refPut07_c r h ha hb
      have hp := packed_len64 (textR r).length (by omega)
      have hp2 := packed_len64 r.sig.length (by omega)
      have c8 := same_c (putR r) (putR r) (by rw [putR, List.length_append, txt, txt, List.length_append, List.length_append]; omega)
      have c9 := refText07_c r h ha hb
      have c10 := same_c (textR r) (textR r) (by omega)
      have c11 := same07_c r (by omega)
      rw [decide_eq_true rfl] at c8 c10
      rw [if_pos rfl] at c2
      rw [if_pos rfl, if_pos rfl] at c1
      generalize putR r = p at *
      generalize textR r = t at *
      simp [rqP, opP] at c1 c2 c3 c4 c5 c6 c7 c9 c11 ⊢
      refine CallG.go wakes_c ?_
      simp [krows_length, h1, h1']
      refine CallG.go c1 ?_
      simp
      refine CallG.go c2 ?_
      simp
      refine CallG.go c3 ?_
      simp
      refine CallG.go c4 ?_
      simp
      refine CallG.go c5 ?_
      simp
      refine CallG.go c6 ?_
      simp
      refine CallG.go c7 ?_
      simp
      refine CallG.go c8 ?_
      simp
      refine CallG.go c9 ?_
      simp
      refine CallG.go c10 ?_
      simp
      refine CallG.go c11 ?_
      simp
theorem ok_pair {a b : Shp} {ps : List PV} (h : OKs (.pair a b) ps) : ∃ p q, ps = p ++ q ∧ OKs a p ∧ OKs b q := ⟨_, _, (List.take_append_drop _ _).symm, h.1, h.2⟩
theorem ok_i {ps : List PV} (h : OKs (.int .i64) ps) : ∃ n, ps = [.int .i64 n] ∧ I64 n := ok_i64 h
theorem ok_unit {ps : List PV} (h : OKs .unit ps) : ps = [] := h
def shQ : Shp := .pair (.int .i64) (.pair (.int .i64) (.pair (.pair (.int .i64) (.pair (.int .i64) (.pair (.int .i64) (.pair (.int .i64) .unit)))) (.pair (.slice (.int .u8)) .unit)))
theorem ok_q {ps : List PV} (h : OKs shQ ps) : ∃ x : Rq, (I64 x.a ∧ I64 x.b ∧ x.sig.length ≤ maxLen) ∧ ps = rqP x := by
  obtain ⟨p, q, rfl, h1, h⟩ := ok_pair h
  obtain ⟨q, r, rfl, h2, h⟩ := ok_pair h
  obtain ⟨r, t, rfl, h3, h⟩ := ok_pair h
  obtain ⟨t, u, rfl, h4, h5⟩ := ok_pair h
  obtain ⟨a, rfl, _⟩ := ok_i h1
  obtain ⟨b, rfl, _⟩ := ok_i h2
  obtain ⟨p1, q1, rfl, e1, k1⟩ := ok_pair h3
  obtain ⟨q2, r2, rfl, e2, k2⟩ := ok_pair k1
  obtain ⟨r3, v3, rfl, e3, k3⟩ := ok_pair k2
  obtain ⟨v4, x4, rfl, e4, k4⟩ := ok_pair k3
  obtain ⟨c, rfl, _⟩ := ok_i e1
  obtain ⟨d, rfl, _⟩ := ok_i e2
  obtain ⟨e', rfl, he⟩ := ok_i e3
  obtain ⟨f, rfl, hf⟩ := ok_i e4
  rw [ok_unit k4]
  obtain ⟨l, rfl, hl, _⟩ := ok_sln rfl h4
  rw [ok_unit h5]
  exact ⟨⟨a, b, c, d, e', f, l⟩, ⟨he, hf, hl⟩, rfl⟩
theorem arg_req {w : World} {c : Array Value} (h : Shp.Reads w shQ c.toList) : ∃ r : Rq, ArgR w (.agg c) (.pagg (rqP r)) ∧ I64 r.a ∧ I64 r.b := by
  obtain ⟨ps, h1, h2, h3⟩ := pvs_of_reads rfl h
  obtain ⟨r, hr, rfl⟩ := ok_q h2
  exact ⟨r, ArgR.agg h1, hr.1, hr.2.1⟩
theorem walkReqsPuts (c0 : Array Value) (a1 : Int) (w : World) (k0 : Shp.Reads w shQ c0.toList) (w1 : (Lit.int .i64 a1).wf = true) :
     Calls Try.prog 3 #[.agg c0, .int .i64 a1] w fun e w' => e = .returned (.bool true) ∧ Below w.heap.size w w' := by
  obtain ⟨r, q0, ha, hb⟩ := arg_req k0
  refine lawCalls (lawPuts_c r a1 ha hb) rfl fun i v av hv ha => ?_
  match i with
  | 0 => cases hv; cases ha; exact q0
  | 1 => cases hv; cases ha; exact arg_int _ _
  | n + 2 => simp at hv
end Go.Proofs.Ytgfmemjobpodkaa
