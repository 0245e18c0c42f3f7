/- execs.Do: what a batch does. -/
import Derived.Test.YtdbbbaaopngbcaaPlainWorld
import Derived.Test.YtdbbbaaopngbcaaExecsB
set_option linter.unusedVariables false
set_option linter.unusedSimpArgs false
namespace Go.Proofs.Ytdbbbaaopngbcaa
open Go.Abs Go.RowKit Go.Ours

theorem known_c (r : Rq) : ACall Try.prog 22 [.pagg (rqP r)] [] (.pv (.bool (knownF r))) [] [] := by
  refine ACall.fn (fn := Try.f22) rfl okExecsKnown rfl (by simp) ?_
  simp only [argT, irExecsKnown.eq_1]
  obtain ⟨c, q, kd, ky, a, b, sig⟩ := r
  have hc := reqRight_c c kd ky a b
  unfold knownF
  simp only [opP] at hc
  simp only [rqP]
  by_cases h1 : 0 ≤ c
  · by_cases h2 : c < 6
    · simp [h1, h2]
      refine CallG.go hc ?_
      simp [h1, h2]
    · simp [h1, h2]
  · simp [h1]
def rqRows (l : List Rq) : List (List PV) := l.map rqP
theorem rqRows_len (l : List Rq) : (rqRows l).length = l.length := by simp [rqRows]
theorem rqRows_get (l : List Rq) (i : Nat) : (rqRows l)[i]? = l[i]?.map rqP := by simp [rqRows]
def rpRows (l : List Rp) : List (List PV) := l.map rpP
theorem rpRows_len (l : List Rp) : (rpRows l).length = l.length := by simp [rpRows]
theorem rpRows_get (l : List Rp) (i : Nat) : (rpRows l)[i]? = l[i]?.map rpP := by simp [rpRows]
theorem rpRows_one (l : List Rp) (r : Rp) : rpRows l ++ [[.int .i64 r.client, .int .i64 r.seq, .int .i64 r.slot, .bool r.res.1, .int .i64 r.res.2]] = rpRows (l ++ [r]) := by simp [rpRows, rpP]
theorem rqP_len (r : Rq) : (rqP r).length = 7 := rfl
theorem rq0 (r : Rq) : (rqP r)[0]? = some (.int .i64 r.client) := rfl
theorem rq1 (r : Rq) : (rqP r)[1]? = some (.int .i64 r.seq) := rfl
theorem rq2 (r : Rq) : (rqP r)[2]? = some (.int .i64 r.kd) := rfl
theorem rq4 (r : Rq) : (rqP r)[4]? = some (.int .i64 r.a) := rfl
theorem rqop (r : Rq) : ((rqP r).drop 2).take 4 = opP r.kd r.ky r.a r.b := rfl
theorem known_lt {r : Rq} (h : knownF r = true) : ∃ k : Nat, r.client = k ∧ k < 6 := by
  simp only [knownF, Bool.and_eq_true, decide_eq_true_eq] at h
  exact ⟨r.client.toNat, by omega, by omega⟩
theorem lastSeq_at {w : Wd} {k : Nat} {x : Rp} (h : w.last[k]? = some x) : lastSeq w (k : Int) = x.seq := by
  simp [lastSeq, h]
set_option maxHeartbeats 4000000 in
theorem edl (L : List Rq) (hL : L.length ≤ 1000000) (z4 : List PV) : ∀ (l : List Rq) (k : Nat), L.drop k = l → k ≤ L.length → ∀ (w : Wd) (nx : Int × Nat) (out : List Rp), WOk w → out.length ≤ k → ∀ (Q : Exit → S → Prop),
   (∀ a b c d, Q (.exit 0) (mk [(2, .ptr 2 0), (4, .ptr 4 0), (6, .ptr 6 0), (7, .os 31 5 (rpRows (runF l w nx out).2.2)), (23, a), (24, b), (25, c), (26, d)] [(2, .pagg (wP (runF l w nx out).1)), (4, .pagg z4), (6, .pagg (vwP (runF l w nx out).2.1))])) →
   LoopW Try.prog [2, 4, 6, 7, 23, 24, 25] [2, 4, 6] irExecsDo_L1 (mk [(2, .ptr 2 0), (4, .ptr 4 0), (6, .ptr 6 0), (7, .os 31 5 (rpRows out)), (23, .pv (.sl 7 (rqRows L))), (24, .pv (.int .i64 (L.length : Nat))), (25, .pv (.int .i64 (k : Nat)))] [(2, .pagg (wP w)), (4, .pagg z4), (6, .pagg (vwP nx))]) Q := by
  intro l
  induction l with
  | nil =>
    intro k hd hk w nx out hw ho Q hQ
    have hk2 : k = L.length := by
      have := congrArg List.length hd
      simp at this
      omega
    subst hk2
    refine LoopW.go irExecsDo_L1.eq_1 (by simp) ?_
    simp
    exact hQ _ _ _ _
  | cons r l ih =>
    intro k hd hk w nx out hw ho Q hQ
    have hlt : k < L.length := by
      have := congrArg List.length hd
      simp at this
      omega
    have hr : L[k]? = some r := by
      have := congrArg (·[0]?) hd
      simpa using this
    have hd' : L.drop (k + 1) = l := by
      have := congrArg (List.drop 1) hd
      simpa [List.drop_drop, Nat.add_comm] using this
    rw [runF] at hQ
    have i1 : (k : Int) < (L.length : Int) := by omega
    have wk : IntKind.i64.wrap ((k : Int) + 1) = (k + 1 : Nat) := by rw [wrap_i64] <;> omega
    have hkn := known_c r
    have hwl := wP_len hw
    by_cases hs : skipF w r = true
    · rw [if_pos hs] at hQ
      have hn := ih (k + 1) hd' (by omega) w nx out hw (by omega) Q hQ
      by_cases h1 : knownF r = true
      · obtain ⟨c, hc, hc6⟩ := known_lt h1
        obtain ⟨x, hx⟩ : ∃ x, w.last[c]? = some x := ⟨_, List.getElem?_eq_getElem (by rw [hw.ll]; exact hc6)⟩
        have hq := wP_seq hw hx
        have hle : r.seq ≤ x.seq := by
          simp only [skipF, h1, Bool.not_true, Bool.false_or, decide_eq_true_eq] at hs
          rw [hc, lastSeq_at hx] at hs
          exact hs
        have hb : 38 + c * 5 + 1 < 68 := by omega
        have hc6' : (c : Int) < 6 := by omega
        rw [h1] at hkn
        refine LoopW.go irExecsDo_L1.eq_1 (by simp) ?_
        simp [-List.reduceReplicate, -getElem?_pos, i1, hlt, rqRows_len, rqRows_get, hr, rqP_len]
        refine CallG.go hkn ?_
        simp [-List.reduceReplicate, -getElem?_pos, wk, rq0, rq1, hc, hc6, hc6', hq, hle, hwl, hb]
        exact hn
      · have h1' : knownF r = false := by simpa using h1
        rw [h1'] at hkn
        refine LoopW.go irExecsDo_L1.eq_1 (by simp) ?_
        simp [-List.reduceReplicate, -getElem?_pos, i1, hlt, rqRows_len, rqRows_get, hr, rqP_len]
        refine CallG.go hkn ?_
        simp [-List.reduceReplicate, -getElem?_pos, wk]
        exact hn
    · have hs' : skipF w r = false := by simpa using hs
      rw [if_neg hs] at hQ
      have hn := ih (k + 1) hd' (by omega) _ _ _ (doneF_ok hw nx r) (by simp; omega) Q hQ
      simp only [skipF, Bool.or_eq_false_iff, Bool.not_eq_false', decide_eq_false_iff_not] at hs'
      obtain ⟨h1, hnle⟩ := hs'
      obtain ⟨c, hc, hc6⟩ := known_lt h1
      obtain ⟨x, hx⟩ : ∃ x, w.last[c]? = some x := ⟨_, List.getElem?_eq_getElem (by rw [hw.ll]; exact hc6)⟩
      have hq := wP_seq hw hx
      rw [hc, lastSeq_at hx] at hnle
      have hnle' : ¬ r.seq ≤ x.seq := hnle
      have hb : 38 + c * 5 + 1 < 68 := by omega
      have hb5 : 38 + c * 5 + 5 ≤ 68 := by omega
      have hc6' : (c : Int) < 6 := by omega
      have hsl := wP_slot w
      rw [h1] at hkn
      have hone := fun (res : Cl) => rpRows_one out ⟨r.client, r.seq, w.slot, res⟩
      simp only [hc] at hone
      by_cases h6 : r.kd = 6
      · have hv := wP_view w
        have hnv := nextV_c w.view.1 w.view.2 r.a hw.vm
        have hput := fun (y : Rp) => wP_put hw hx y
        by_cases h0 : (nextF w.view.1 w.view.2 r.a).2 = 0
        · by_cases hnx : nx = w.view
          · have e : actF w nx r = (w.cells, (nextF w.view.1 w.view.2 r.a).1, (true, (nextF w.view.1 w.view.2 r.a).1.1)) := by simp [actF, h6, h0, hnx]
            have e2 : doneF w nx r = { w with last := w.last.set c ⟨c, r.seq, w.slot, (true, (nextF w.view.1 w.view.2 r.a).1.1)⟩ } := by simp [doneF, repF, e, hc]
            have e3 : repF w nx r = ⟨c, r.seq, w.slot, (true, (nextF w.view.1 w.view.2 r.a).1.1)⟩ := by simp [repF, e, hc]
            rw [e2, e3, e] at hn
            have hput1 := hput ⟨c, r.seq, w.slot, (true, (nextF w.view.1 w.view.2 r.a).1.1)⟩
            have hone1 := hone (true, (nextF w.view.1 w.view.2 r.a).1.1)
            rw [h0] at hnv
            have hveq := vw_eq nx w.view
            simp only [hnx, decide_true] at hveq
            generalize (nextF w.view.1 w.view.2 r.a).1 = v at *
            subst hnx
            refine LoopW.go irExecsDo_L1.eq_1 (by simp) ?_
            simp [-List.reduceReplicate, -getElem?_pos, i1, hlt, rqRows_len, rqRows_get, hr, rqP_len]
            refine CallG.go hkn ?_
            simp [-List.reduceReplicate, -getElem?_pos, rq0, rq1, rq2, rq4, hc, hc6, hc6', hq, hnle', hwl, hb, h6, hv]
            refine CallG.go hnv ?_
            simp [-List.reduceReplicate, -getElem?_pos, rq0, rq1, hc, hc6, hc6', hwl, hb5, hv, vwP_len, vw_ck, hveq, vwP_0, hsl, hput1, hone1, rpRows_len, wk]
            exact ⟨by omega, hn⟩
          · have e : actF w nx r = (w.cells, nx, (false, 0)) := by simp [actF, h6, hnx]
            have e2 : doneF w nx r = { w with last := w.last.set c ⟨c, r.seq, w.slot, (false, 0)⟩ } := by simp [doneF, repF, e, hc]
            have e3 : repF w nx r = ⟨c, r.seq, w.slot, (false, 0)⟩ := by simp [repF, e, hc]
            rw [e2, e3, e] at hn
            have hput1 := hput ⟨c, r.seq, w.slot, (false, 0)⟩
            have hone1 := hone (false, 0)
            rw [h0] at hnv
            have hveq := vw_eq nx w.view
            simp only [hnx, decide_false] at hveq
            generalize (nextF w.view.1 w.view.2 r.a).1 = v at *
            refine LoopW.go irExecsDo_L1.eq_1 (by simp) ?_
            simp [-List.reduceReplicate, -getElem?_pos, i1, hlt, rqRows_len, rqRows_get, hr, rqP_len]
            refine CallG.go hkn ?_
            simp [-List.reduceReplicate, -getElem?_pos, rq0, rq1, rq2, rq4, hc, hc6, hc6', hq, hnle', hwl, hb, h6, hv]
            refine CallG.go hnv ?_
            simp [-List.reduceReplicate, -getElem?_pos, rq0, rq1, hc, hc6, hc6', hwl, hb5, hv, vwP_len, vw_ck, hveq, vwP_0, hsl, hput1, hone1, rpRows_len, wk]
            exact ⟨by omega, hn⟩
        · have h03 : (nextF w.view.1 w.view.2 r.a).2 = 3 := by
            unfold nextF at h0 ⊢
            split at h0
            · exact absurd rfl h0
            · rw [if_neg (by assumption)]
          have e : actF w nx r = (w.cells, nx, (false, 0)) := by simp [actF, h6, h0]
          have e2 : doneF w nx r = { w with last := w.last.set c ⟨c, r.seq, w.slot, (false, 0)⟩ } := by simp [doneF, repF, e, hc]
          have e3 : repF w nx r = ⟨c, r.seq, w.slot, (false, 0)⟩ := by simp [repF, e, hc]
          rw [e2, e3, e] at hn
          have hput1 := hput ⟨c, r.seq, w.slot, (false, 0)⟩
          have hone1 := hone (false, 0)
          rw [h03] at hnv
          generalize (nextF w.view.1 w.view.2 r.a).1 = v at *
          refine LoopW.go irExecsDo_L1.eq_1 (by simp) ?_
          simp [-List.reduceReplicate, -getElem?_pos, i1, hlt, rqRows_len, rqRows_get, hr, rqP_len]
          refine CallG.go hkn ?_
          simp [-List.reduceReplicate, -getElem?_pos, rq0, rq1, rq2, rq4, hc, hc6, hc6', hq, hnle', hwl, hb, h6, hv]
          refine CallG.go hnv ?_
          simp [-List.reduceReplicate, -getElem?_pos, rq0, rq1, hc, hc6, hc6', hwl, hb5, hv, vwP_len, vwP_0, hsl, hput1, hone1, rpRows_len, wk]
          exact ⟨by omega, hn⟩
      · have e : actF w nx r = ((doF w.cells r.kd r.ky r.a r.b).1, nx, (doF w.cells r.kd r.ky r.a r.b).2) := by simp [actF, h6]
        have e2 : doneF w nx r = { w with cells := (doF w.cells r.kd r.ky r.a r.b).1, last := w.last.set c ⟨c, r.seq, w.slot, (doF w.cells r.kd r.ky r.a r.b).2⟩ } := by simp [doneF, repF, e, hc]
        have e3 : repF w nx r = ⟨c, r.seq, w.slot, (doF w.cells r.kd r.ky r.a r.b).2⟩ := by simp [repF, e, hc]
        rw [e2, e3, e] at hn
        have hkv := kvDo_c w.cells hw.cl hw.nr r.kd r.ky r.a r.b
        have hcells := wP_cells hw
        have hsc := wP_setCells hw
        have hdl : (cellsP (doF w.cells r.kd r.ky r.a r.b).1).length = 32 := by rw [cellsP_len, doF_len, hw.cl]
        have hw2 : WOk { w with cells := (doF w.cells r.kd r.ky r.a r.b).1 } := ⟨by rw [doF_len]; exact hw.cl, hw.ll, doF_nrm _ _ _ _ _ hw.nr, hw.vm⟩
        have hput1 := wP_put hw2 hx ⟨c, r.seq, w.slot, (doF w.cells r.kd r.ky r.a r.b).2⟩
        have hone1 := hone (doF w.cells r.kd r.ky r.a r.b).2
        have hwl2 := wP_len hw2
        have hsl2 := wP_slot { w with cells := (doF w.cells r.kd r.ky r.a r.b).1 }
        have hsc1 := hsc (doF w.cells r.kd r.ky r.a r.b).1
        simp only at hsl2
        generalize (doF w.cells r.kd r.ky r.a r.b).1 = C at *
        generalize (doF w.cells r.kd r.ky r.a r.b).2 = y at *
        simp only [clP] at hkv
        refine LoopW.go irExecsDo_L1.eq_1 (by simp) ?_
        simp [-List.reduceReplicate, -getElem?_pos, i1, hlt, rqRows_len, rqRows_get, hr, rqP_len]
        refine CallG.go hkn ?_
        simp [-List.reduceReplicate, -getElem?_pos, rq0, rq1, rq2, rq4, hc, hc6, hc6', hq, hnle', hwl, hb, h6, hcells, rqop, rqP_len]
        refine CallG.go hkv ?_
        simp [-List.reduceReplicate, -getElem?_pos, rq0, rq1, hc, hc6, hc6', hwl, hwl2, hb5, hdl, hsc1, hsl2, hput1, hone1, rpRows_len, wk]
        exact ⟨by omega, hn⟩
theorem execs_c (w : Wd) (hw : WOk w) (l : List Rq) (hl : l.length ≤ 1000000) : ACall Try.prog 11 [.pagg (wP w), .pv (.sl 7 (rqRows l))] [] (.tup [.pagg (wP (execF w l).1), .os 31 5 (rpRows (execF w l).2)]) [] [] := by
  refine ACall.fn (fn := Try.f11) rfl okExecsDo rfl (by simp) ?_
  simp only [argT, irExecsDo.eq_1]
  have hwl := wP_len hw
  have hv := wP_view w
  have hsw := wP_setWas w w.view
  have hsl : (wP { w with was := w.view })[0]? = some (.int .i64 w.slot) := rfl
  have hss := wP_setSlot { w with was := w.view } (IntKind.i64.wrap (w.slot + 1))
  have hb := begF_ok hw
  have hbe : begF w = { w with was := w.view, slot := IntKind.i64.wrap (w.slot + 1) } := rfl
  have hv2 : List.take 2 (List.drop 2 (wP (begF w))) = vwP w.view := wP_view (begF w)
  have hwl1 : (wP { w with was := w.view }).length = 68 := wP_len ⟨hw.cl, hw.ll, hw.nr, hw.vm⟩
  have hwl2 := wP_len hb
  have hloop := fun z => edl l hl z l 0 rfl (Nat.zero_le _) (begF w) w.view [] hb (Nat.zero_le _)
  obtain ⟨hrok, hrlt⟩ := runF_ok l (begF w) w.view [] hb hw.vm
  have hex : execF w l = (endF (runF l (begF w) w.view []).1 (runF l (begF w) w.view []).2.1, (runF l (begF w) w.view []).2.2) := rfl
  rw [hex]
  simp only [← hbe] at hss
  generalize begF w = w1 at *
  generalize runF l w1 w.view [] = R at *
  obtain ⟨w2, nx, out⟩ := R
  simp only at hloop hrok hrlt ⊢
  have hwl3 := wP_len hrok
  have hv3 := wP_view w2
  have hveq := vw_eq nx w2.view
  have hsf := wP_slot w2
  have hsv := wP_setView w2 nx
  have hsv1 := wP_setFirst { w2 with view := nx } (IntKind.i64.wrap (w2.slot + 1))
  have hwl4 : (wP { w2 with view := nx }).length = 68 := wP_len ⟨hrok.cl, hrok.ll, hrok.nr, hrlt⟩
  simp [-List.reduceReplicate, -getElem?_pos, hwl, hv, vwP_len, hsw, hsl, hss, hwl1, hwl2, hv2, rqRows_len]
  refine hloop _ _ fun a b c d => ?_
  by_cases he : nx = w2.view
  · have : endF w2 nx = w2 := by simp [endF, he]
    rw [this]
    simp only [he, decide_true] at hveq
    subst he
    simp [-List.reduceReplicate, -getElem?_pos, hwl3, hv3, vwP_len, vw_ck, hveq]
  · have : endF w2 nx = { w2 with view := nx, first := IntKind.i64.wrap (w2.slot + 1) } := by simp [endF, he]
    rw [this]
    have hwl5 : (wP { w2 with view := nx, first := IntKind.i64.wrap (w2.slot + 1) }).length = 68 := wP_len ⟨hrok.cl, hrok.ll, hrok.nr, hrlt⟩
    simp only [he, decide_false] at hveq
    simp [-List.reduceReplicate, -getElem?_pos, hwl3, hv3, vwP_len, vw_ck, hveq, hsf, hsv, hsv1, hwl4, hwl5]
end Go.Proofs.Ytdbbbaaopngbcaa
