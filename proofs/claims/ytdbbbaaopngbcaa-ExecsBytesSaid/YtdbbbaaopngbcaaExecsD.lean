/- consistoryref15.Do: what a batch does. -/
import Derived.Test.YtdbbbaaopngbcaaExecsC
set_option linter.unusedVariables false
set_option linter.unusedSimpArgs false
namespace Go.Proofs.Ytdbbbaaopngbcaa
open Go.Abs Go.RowKit Go.Ours

def dP (w : Wd) (out : List Rp) : List AV := (wP w).map AV.pv ++ [.os 31 5 (rpRows out)]
theorem dput {P : List PV} {x : AV} {a b : Nat} (ha : a ≤ P.length) (hb : b ≤ P.length) (D : List PV) : (P.map AV.pv ++ [x]).take a ++ (D.map AV.pv ++ (P.map AV.pv ++ [x]).drop b) = (P.take a ++ (D ++ P.drop b)).map AV.pv ++ [x] := by
  rw [List.take_append_of_le_length (by simpa using ha), List.drop_append_of_le_length (by simpa using hb)]
  simp [List.map_take, List.map_drop]
theorem dP_len {w : Wd} (h : WOk w) (out : List Rp) : (dP w out).length = 69 := by simp [dP, wP_len h]
theorem dP_get {w : Wd} (h : WOk w) (out : List Rp) {i : Nat} {p : PV} (hp : (wP w)[i]? = some p) : (dP w out)[i]? = some (.pv p) := by
  have := (List.getElem?_eq_some_iff.1 hp).1
  unfold dP
  rw [List.getElem?_append_left (by simpa using this), List.getElem?_map, hp]
  rfl
theorem dP_os {w : Wd} (h : WOk w) (out : List Rp) : (dP w out)[68]? = some (.os 31 5 (rpRows out)) := by
  have := wP_len h
  unfold dP
  rw [List.getElem?_append_right (by simp [this])]
  simp [this]
theorem dP_setOs {w : Wd} (h : WOk w) (out out' : List Rp) : (dP w out).set 68 (.os 31 5 (rpRows out')) = dP w out' := by
  have := wP_len h
  unfold dP
  rw [List.set_append_right _ _ (by simp [this])]
  simp [this]
theorem dP_pur (w : Wd) (out : List Rp) (xs : List Nat) : (dP w out).map (pur0 xs) = dP w out := by
  simp [dP, pur0]
theorem dP_set {w : Wd} (h : WOk w) (out : List Rp) {i : Nat} (hi : i < 68) (p : PV) : (dP w out).set i (.pv p) = ((wP w).set i p).map AV.pv ++ [.os 31 5 (rpRows out)] := by
  have := wP_len h
  unfold dP
  rw [List.set_append_left _ _ (by simp [this]; exact hi), List.map_set]
theorem dP_all (w : Wd) (out : List Rp) : allPV ((dP w out).map AV.dem0) = some (wP w ++ [PV.sl 5 (rpRows out)]) := by
  have : (dP w out).map AV.dem0 = (wP w ++ [PV.sl 5 (rpRows out)]).map AV.pv := by simp [dP, AV.dem0]
  rw [this, allPV_map]
theorem dP_part {w : Wd} (h : WOk w) (out : List Rp) {a n : Nat} (hn : a + n ≤ 68) : allPV (((dP w out).drop a).take n |>.map AV.dem0) = some (((wP w).drop a).take n) := by
  have hl := wP_len h
  have : (((dP w out).drop a).take n).map AV.dem0 = (((wP w).drop a).take n).map AV.pv := by
    unfold dP
    rw [List.drop_append_of_le_length (by simp [hl]; omega), List.take_append_of_le_length (by simp [hl]; omega)]
    simp [List.map_take, List.map_drop]
  rw [this, allPV_map]
theorem runF_view : ∀ (l : List Rq) (w : Wd) (nx : Int × Nat) (out : List Rp), (runF l w nx out).1.view = w.view
  | [], _, _, _ => rfl
  | r :: l, w, nx, out => by
    rw [runF]
    split
    · exact runF_view l w nx out
    · exact runF_view l _ _ _
theorem WOk.last {w : Wd} (h : WOk w) (c : Nat) (y : Rp) : WOk { w with last := w.last.set c y } := ⟨h.cl, by simp [h.ll], h.nr, h.vm⟩
set_option maxHeartbeats 8000000 in
theorem rdl (W0 : Wd) (hW0 : WOk W0) (L : List Rq) (hL : L.length ≤ 1000000) (Z : List AV) (hZ : ∀ xs, Z.map (pur0 xs) = Z) : ∀ (l : List Rq) (k : Nat), L.drop k = l → k ≤ L.length → ∀ (w : Wd) (nx : Int × Nat) (out : List Rp), WOk w → w.view = W0.view → out.length ≤ k → ∀ (Q : Exit → S → Prop),
   (∀ a b c d e, Q (.exit 0) (mk [(1, a), (2, .ptr 2 0), (4, .ptr 4 0), (5, .ptr 5 0), (6, .ptr 6 0), (7, b), (28, c), (29, d), (30, e), (31, .pv (.bool false))] [(2, .pagg (wP W0)), (4, .agg Z), (5, .agg (dP (runF l w nx out).1 (runF l w nx out).2.2)), (6, .pagg (vwP (runF l w nx out).2.1))])) →
   LoopW Try.prog [1, 2, 4, 5, 6, 7] [2, 4, 5, 6] irRef15Do_L1 (mk [(1, .pv (.sl 7 (rqRows L))), (2, .ptr 2 0), (4, .ptr 4 0), (5, .ptr 5 0), (6, .ptr 6 0), (7, .pv (.int .i64 (k : Nat)))] [(2, .pagg (wP W0)), (4, .agg Z), (5, .agg (dP w out)), (6, .pagg (vwP nx))]) Q := by
  intro l
  induction l with
  | nil =>
    intro k hd hk w nx out hw hvw ho Q hQ
    have hk2 : k = L.length := by
      have := congrArg List.length hd
      simp at this
      omega
    subst hk2
    refine LoopW.go irRef15Do_L1.eq_1 (by simp) ?_
    simp [rqRows_len]
    exact hQ _ _ _ _ _
  | cons r l ih =>
    intro k hd hk w nx out hw hvw ho Q hQ
    have hlt : k < L.length := by
      have := congrArg List.length hd
      simp at this
      omega
    have hr : L[k]? = some r := by
      have := congrArg (·[0]?) hd
      simpa using this
    have hd' : L.drop (k + 1) = l := by
      have := congrArg (List.drop 1) hd
      simpa [List.drop_drop, Nat.add_comm] using this
    rw [runF] at hQ
    have i1 : (k : Int) < (L.length : Int) := by omega
    have wk : IntKind.i64.wrap ((k : Int) + 1) = (k + 1 : Nat) := by rw [wrap_i64] <;> omega
    have hrr := refReqRight_c r.client r.kd r.ky r.a r.b
    have hwl := wP_len hw
    have hwl0 := wP_len hW0
    have hdl := dP_len hw out
    have hdp := dP_pur w out
    by_cases hs : skipF w r = true
    · rw [if_pos hs] at hQ
      have hn := ih (k + 1) hd' (by omega) w nx out hw hvw (by omega) Q hQ
      by_cases h1 : knownF r = true
      · obtain ⟨c, hc, hc6⟩ := known_lt h1
        obtain ⟨x, hx⟩ : ∃ x, w.last[c]? = some x := ⟨_, List.getElem?_eq_getElem (by rw [hw.ll]; exact hc6)⟩
        have hq := dP_get hw out (wP_seq hw hx)
        have hle : r.seq ≤ x.seq := by
          simp only [skipF, h1, Bool.not_true, Bool.false_or, decide_eq_true_eq] at hs
          rw [hc, lastSeq_at hx] at hs
          exact hs
        have hb : 38 + c * 5 + 1 < 69 := by omega
        have hc6' : (c : Int) < 6 := by omega
        have hc5' : ¬ (5 : Int) < (c : Int) := by omega
        have hc0 : ¬ (c : Int) < 0 := by omega
        have hc5 : ¬ 5 < c := by omega
        have hop : opOk r.client r.kd r.ky r.a r.b = true := by
          simp only [knownF, Bool.and_eq_true] at h1
          exact h1.2
        rw [hop] at hrr
        rw [hc] at hrr
        refine LoopW.go irRef15Do_L1.eq_1 (by simp) ?_
        simp [-List.reduceReplicate, -getElem?_pos, i1, hlt, rqRows_len, rqRows_get, hr, rqP_len, rq0, hc, hc0, hc5, hc5', rqop, hdp, hZ]
        refine CallG.go hrr ?_
        simp [-List.reduceReplicate, -getElem?_pos, wk, rq0, rq1, hc, hc6, hc6', hq, hle, hwl, hdl, hb, hdp, hZ]
        exact hn
      · have h1' : knownF r = false := by simpa using h1
        by_cases c0 : r.client < 0
        · refine LoopW.go irRef15Do_L1.eq_1 (by simp) ?_
          simp [-List.reduceReplicate, -getElem?_pos, i1, hlt, rqRows_len, rqRows_get, hr, rqP_len, rq0, c0, hdp, hZ, wk]
          exact hn
        · by_cases c5 : 5 < r.client
          · refine LoopW.go irRef15Do_L1.eq_1 (by simp) ?_
            simp [-List.reduceReplicate, -getElem?_pos, i1, hlt, rqRows_len, rqRows_get, hr, rqP_len, rq0, c0, c5, hdp, hZ, wk]
            exact hn
          · have hop : opOk r.client r.kd r.ky r.a r.b = false := by
              simp only [knownF, Bool.and_eq_false_iff, decide_eq_false_iff_not] at h1'
              rcases h1' with h | h
              · exact absurd ⟨by omega, by omega⟩ h
              · exact h
            rw [hop] at hrr
            refine LoopW.go irRef15Do_L1.eq_1 (by simp) ?_
            simp [-List.reduceReplicate, -getElem?_pos, i1, hlt, rqRows_len, rqRows_get, hr, rqP_len, rq0, c0, c5, rqop, hdp, hZ]
            refine CallG.go hrr ?_
            simp [-List.reduceReplicate, -getElem?_pos, wk, hdp, hZ]
            exact hn
    · have hs' : skipF w r = false := by simpa using hs
      rw [if_neg hs] at hQ
      have hn := ih (k + 1) hd' (by omega) _ _ _ (doneF_ok hw nx r) hvw (by simp; omega) Q hQ
      simp only [skipF, Bool.or_eq_false_iff, Bool.not_eq_false', decide_eq_false_iff_not] at hs'
      obtain ⟨h1, hnle⟩ := hs'
      obtain ⟨c, hc, hc6⟩ := known_lt h1
      obtain ⟨x, hx⟩ : ∃ x, w.last[c]? = some x := ⟨_, List.getElem?_eq_getElem (by rw [hw.ll]; exact hc6)⟩
      have hq := dP_get hw out (wP_seq hw hx)
      rw [hc, lastSeq_at hx] at hnle
      have hnle' : ¬ r.seq ≤ x.seq := hnle
      have hb : 38 + c * 5 + 1 < 69 := by omega
      have hb5 : 38 + c * 5 + 5 ≤ 69 := by omega
      have hc6' : (c : Int) < 6 := by omega
      have hc5' : ¬ (5 : Int) < (c : Int) := by omega
      have hc0 : ¬ (c : Int) < 0 := by omega
      have hc5 : ¬ 5 < c := by omega
      have hop : opOk r.client r.kd r.ky r.a r.b = true := by
        simp only [knownF, Bool.and_eq_true] at h1
        exact h1.2
      rw [hop] at hrr
      rw [hc] at hrr
      have hone := fun (res : Cl) => rpRows_one out ⟨r.client, r.seq, w.slot, res⟩
      simp only [hc] at hone
      have hdput : ∀ {w2 : Wd} (h2 : WOk w2) (hx2 : w2.last[c]? = some x) (y : Rp), List.take (38 + c * 5) (dP w2 out) ++ AV.pv (PV.int .i64 y.client) :: AV.pv (PV.int .i64 y.seq) :: AV.pv (PV.int .i64 y.slot) :: AV.pv (PV.bool y.res.1) :: AV.pv (PV.int .i64 y.res.2) :: List.drop (38 + c * 5 + 5) (dP w2 out) = dP { w2 with last := w2.last.set c y } out := by
        intro w2 h2 hx2 y
        have h3 := wP_put h2 hx2 y
        have h4 := dput (P := wP w2) (x := .os 31 5 (rpRows out)) (a := 38 + c * 5) (b := 38 + c * 5 + 5) (by rw [wP_len h2]; omega) (by rw [wP_len h2]; omega) (rpP y)
        have h6 : (List.take (38 + c * 5) (wP w2) ++ (rpP y ++ (wP w2).drop (38 + c * 5 + 5))) = wP { w2 with last := w2.last.set c y } := h3
        rw [h6] at h4
        exact h4
      by_cases h6 : r.kd = 6
      · have hv := wP_view W0
        have hnv := refNextV_c W0.view.1 W0.view.2 r.a hW0.vm
        have hsl := dP_get hw out (wP_slot w)
        have hput := fun (y : Rp) => hdput hw hx y
        have hdlL : ∀ y, (dP { w with last := w.last.set c y } out).length = 69 := fun y => dP_len (hw.last c y) out
        have hosL : ∀ y, (dP { w with last := w.last.set c y } out)[68]? = some (.os 31 5 (rpRows out)) := fun y => dP_os (hw.last c y) out
        have hsetL : ∀ y out', (dP { w with last := w.last.set c y } out).set 68 (.os 31 5 (rpRows out')) = dP { w with last := w.last.set c y } out' := fun y out' => dP_setOs (hw.last c y) out out'
        have hpurL := fun y => dP_pur { w with last := w.last.set c y } out
        by_cases h0 : (nextF W0.view.1 W0.view.2 r.a).2 = 0
        · by_cases hnx : nx = W0.view
          · have e : actF w nx r = (w.cells, (nextF W0.view.1 W0.view.2 r.a).1, (true, (nextF W0.view.1 W0.view.2 r.a).1.1)) := by simp [actF, h6, hvw, h0, hnx]
            have e2 : doneF w nx r = { w with last := w.last.set c ⟨c, r.seq, w.slot, (true, (nextF W0.view.1 W0.view.2 r.a).1.1)⟩ } := by simp [doneF, repF, e, hc]
            have e3 : repF w nx r = ⟨c, r.seq, w.slot, (true, (nextF W0.view.1 W0.view.2 r.a).1.1)⟩ := by simp [repF, e, hc]
            rw [e2, e3, e] at hn
            have hput1 := hput ⟨c, r.seq, w.slot, (true, (nextF W0.view.1 W0.view.2 r.a).1.1)⟩
            have hone1 := hone (true, (nextF W0.view.1 W0.view.2 r.a).1.1)
            have hdlL1 := hdlL ⟨c, r.seq, w.slot, (true, (nextF W0.view.1 W0.view.2 r.a).1.1)⟩
            have hosL1 := hosL ⟨c, r.seq, w.slot, (true, (nextF W0.view.1 W0.view.2 r.a).1.1)⟩
            have hsetL1 := hsetL ⟨c, r.seq, w.slot, (true, (nextF W0.view.1 W0.view.2 r.a).1.1)⟩
            have hpurL1 := hpurL ⟨c, r.seq, w.slot, (true, (nextF W0.view.1 W0.view.2 r.a).1.1)⟩
            rw [h0] at hnv
            have hveq := vw_eq nx W0.view
            simp only [hnx, decide_true] at hveq
            generalize (nextF W0.view.1 W0.view.2 r.a).1 = v at *
            subst hnx
            refine LoopW.go irRef15Do_L1.eq_1 (by simp) ?_
            simp [-List.reduceReplicate, -getElem?_pos, i1, hlt, rqRows_len, rqRows_get, hr, rqP_len, rq0, hc, hc0, hc5, hc5', rqop, hdp, hZ]
            refine CallG.go hrr ?_
            simp [-List.reduceReplicate, -getElem?_pos, rq0, rq1, rq2, rq4, hc, hc6, hc6', hq, hnle', hwl, hdl, hb, h6, hv, hwl0, hdp, hZ]
            refine CallG.go hnv ?_
            simp [-List.reduceReplicate, -getElem?_pos, rq0, rq1, hc, hc6, hc6', hwl, hwl0, hdl, hb5, hv, vwP_len, vw_ck, hveq, vwP_0, hsl, hput1, hone1, rpRows_len, wk, hdp, hZ, hdlL1, hosL1, hsetL1, hpurL1]
            exact ⟨by omega, hn⟩
          · have e : actF w nx r = (w.cells, nx, (false, 0)) := by simp [actF, h6, hvw, hnx]
            have e2 : doneF w nx r = { w with last := w.last.set c ⟨c, r.seq, w.slot, (false, 0)⟩ } := by simp [doneF, repF, e, hc]
            have e3 : repF w nx r = ⟨c, r.seq, w.slot, (false, 0)⟩ := by simp [repF, e, hc]
            rw [e2, e3, e] at hn
            have hput1 := hput ⟨c, r.seq, w.slot, (false, 0)⟩
            have hone1 := hone (false, 0)
            have hdlL1 := hdlL ⟨c, r.seq, w.slot, (false, 0)⟩
            have hosL1 := hosL ⟨c, r.seq, w.slot, (false, 0)⟩
            have hsetL1 := hsetL ⟨c, r.seq, w.slot, (false, 0)⟩
            have hpurL1 := hpurL ⟨c, r.seq, w.slot, (false, 0)⟩
            rw [h0] at hnv
            have hveq := vw_eq nx W0.view
            simp only [hnx, decide_false] at hveq
            generalize (nextF W0.view.1 W0.view.2 r.a).1 = v at *
            refine LoopW.go irRef15Do_L1.eq_1 (by simp) ?_
            simp [-List.reduceReplicate, -getElem?_pos, i1, hlt, rqRows_len, rqRows_get, hr, rqP_len, rq0, hc, hc0, hc5, hc5', rqop, hdp, hZ]
            refine CallG.go hrr ?_
            simp [-List.reduceReplicate, -getElem?_pos, rq0, rq1, rq2, rq4, hc, hc6, hc6', hq, hnle', hwl, hdl, hb, h6, hv, hwl0, hdp, hZ]
            refine CallG.go hnv ?_
            simp [-List.reduceReplicate, -getElem?_pos, rq0, rq1, hc, hc6, hc6', hwl, hwl0, hdl, hb5, hv, vwP_len, vw_ck, hveq, vwP_0, hsl, hput1, hone1, rpRows_len, wk, hdp, hZ, hdlL1, hosL1, hsetL1, hpurL1]
            exact ⟨by omega, hn⟩
        · have h03 : (nextF W0.view.1 W0.view.2 r.a).2 = 3 := by
            unfold nextF at h0 ⊢
            split at h0
            · exact absurd rfl h0
            · rw [if_neg (by assumption)]
          have e : actF w nx r = (w.cells, nx, (false, 0)) := by simp [actF, h6, hvw, h0]
          have e2 : doneF w nx r = { w with last := w.last.set c ⟨c, r.seq, w.slot, (false, 0)⟩ } := by simp [doneF, repF, e, hc]
          have e3 : repF w nx r = ⟨c, r.seq, w.slot, (false, 0)⟩ := by simp [repF, e, hc]
          rw [e2, e3, e] at hn
          have hput1 := hput ⟨c, r.seq, w.slot, (false, 0)⟩
          have hone1 := hone (false, 0)
          have hdlL1 := hdlL ⟨c, r.seq, w.slot, (false, 0)⟩
          have hosL1 := hosL ⟨c, r.seq, w.slot, (false, 0)⟩
          have hsetL1 := hsetL ⟨c, r.seq, w.slot, (false, 0)⟩
          have hpurL1 := hpurL ⟨c, r.seq, w.slot, (false, 0)⟩
          rw [h03] at hnv
          generalize (nextF W0.view.1 W0.view.2 r.a).1 = v at *
          refine LoopW.go irRef15Do_L1.eq_1 (by simp) ?_
          simp [-List.reduceReplicate, -getElem?_pos, i1, hlt, rqRows_len, rqRows_get, hr, rqP_len, rq0, hc, hc0, hc5, hc5', rqop, hdp, hZ]
          refine CallG.go hrr ?_
          simp [-List.reduceReplicate, -getElem?_pos, rq0, rq1, rq2, rq4, hc, hc6, hc6', hq, hnle', hwl, hdl, hb, h6, hv, hwl0, hdp, hZ]
          refine CallG.go hnv ?_
          simp [-List.reduceReplicate, -getElem?_pos, rq0, rq1, hc, hc6, hc6', hwl, hwl0, hdl, hb5, hv, vwP_len, vwP_0, hsl, hput1, hone1, rpRows_len, wk, hdp, hZ, hdlL1, hosL1, hsetL1, hpurL1]
          exact ⟨by omega, hn⟩
      · have e : actF w nx r = ((doF w.cells r.kd r.ky r.a r.b).1, nx, (doF w.cells r.kd r.ky r.a r.b).2) := by simp [actF, h6]
        have e2 : doneF w nx r = { w with cells := (doF w.cells r.kd r.ky r.a r.b).1, last := w.last.set c ⟨c, r.seq, w.slot, (doF w.cells r.kd r.ky r.a r.b).2⟩ } := by simp [doneF, repF, e, hc]
        have e3 : repF w nx r = ⟨c, r.seq, w.slot, (doF w.cells r.kd r.ky r.a r.b).2⟩ := by simp [repF, e, hc]
        rw [e2, e3, e] at hn
        have hkv := refDo_c w.cells hw.cl hw.nr r.kd r.ky r.a r.b
        have hcells := dP_part hw out (a := 6) (n := 32) (by decide)
        rw [wP_cells hw] at hcells
        have hsc : ∀ C, (cellsP C).length = 32 → List.take 6 (dP w out) ++ (List.map AV.pv (cellsP C) ++ List.drop 38 (dP w out)) = dP { w with cells := C } out := by
          intro C _
          have := dput (P := wP w) (x := .os 31 5 (rpRows out)) (a := 6) (b := 38) (by rw [hwl]; decide) (by rw [hwl]; decide) (cellsP C)
          rw [wP_setCells hw] at this
          exact this
        have hdlc : (cellsP (doF w.cells r.kd r.ky r.a r.b).1).length = 32 := by rw [cellsP_len, doF_len, hw.cl]
        have hw2 : WOk { w with cells := (doF w.cells r.kd r.ky r.a r.b).1 } := ⟨by rw [doF_len]; exact hw.cl, hw.ll, doF_nrm _ _ _ _ _ hw.nr, hw.vm⟩
        have hw3 := fun y => (⟨hw2.cl, by simp [hw.ll], hw2.nr, hw.vm⟩ : WOk { w with cells := (doF w.cells r.kd r.ky r.a r.b).1, last := w.last.set c y })
        have hput1 := hdput hw2 hx ⟨c, r.seq, w.slot, (doF w.cells r.kd r.ky r.a r.b).2⟩
        have hone1 := hone (doF w.cells r.kd r.ky r.a r.b).2
        have hdl2 := dP_len hw2 out
        have hsl2 := dP_get hw2 out (wP_slot { w with cells := (doF w.cells r.kd r.ky r.a r.b).1 })
        have hsc1 := hsc _ hdlc
        have hpur2 := dP_pur { w with cells := (doF w.cells r.kd r.ky r.a r.b).1 } out
        have hdl3 := dP_len (hw3 ⟨c, r.seq, w.slot, (doF w.cells r.kd r.ky r.a r.b).2⟩) out
        have hos3 := dP_os (hw3 ⟨c, r.seq, w.slot, (doF w.cells r.kd r.ky r.a r.b).2⟩) out
        have hset3 := dP_setOs (hw3 ⟨c, r.seq, w.slot, (doF w.cells r.kd r.ky r.a r.b).2⟩) out
        have hpur3 := dP_pur { w with cells := (doF w.cells r.kd r.ky r.a r.b).1, last := w.last.set c ⟨c, r.seq, w.slot, (doF w.cells r.kd r.ky r.a r.b).2⟩ } out
        simp only at hsl2
        generalize (doF w.cells r.kd r.ky r.a r.b).1 = C at *
        generalize (doF w.cells r.kd r.ky r.a r.b).2 = y at *
        simp only [clP] at hkv
        have hcells2 := hcells
        simp only [List.map_take, List.map_drop] at hcells2
        refine LoopW.go irRef15Do_L1.eq_1 (by simp) ?_
        simp [-List.reduceReplicate, -getElem?_pos, i1, hlt, rqRows_len, rqRows_get, hr, rqP_len, rq0, hc, hc0, hc5, hc5', rqop, hdp, hZ]
        refine CallG.go hrr ?_
        simp [-List.reduceReplicate, -getElem?_pos, rq0, rq1, rq2, rq4, hc, hc6, hc6', hq, hnle', hwl, hdl, hb, h6, hcells, hcells2, rqop, rqP_len, hdp, hZ]
        refine CallG.go hkv ?_
        simp [-List.reduceReplicate, -getElem?_pos, rq0, rq1, hc, hc6, hc6', hwl, hdl, hdl2, hdl3, hb5, hdlc, hsc1, hsl2, hput1, hone1, rpRows_len, wk, hdp, hZ, hpur2, hpur3, hos3, hset3]
        exact ⟨by omega, hn⟩
set_option maxHeartbeats 8000000 in
theorem refExecs_c (w : Wd) (hw : WOk w) (l : List Rq) (hl : l.length ≤ 1000000) : ACall Try.prog 12 [.pagg (wP w), .pv (.sl 7 (rqRows l))] [] (.pagg (wP (execF w l).1 ++ [.sl 5 (rpRows (execF w l).2)])) [] [] := by
  refine ACall.fn (fn := Try.f12) rfl okRef15Do rfl (by simp) ?_
  simp only [argT, irRef15Do.eq_1]
  have hwl := wP_len hw
  have hv := wP_view w
  have hsl := wP_slot w
  have hd0 : List.map AV.pv (wP w) ++ [.os 31 5 []] = dP w [] := rfl
  have hdl := dP_len hw []
  have hw1 : WOk { w with was := w.view } := ⟨hw.cl, hw.ll, hw.nr, hw.vm⟩
  have hd1 : List.take 4 (dP w []) ++ (List.map AV.pv (vwP w.view) ++ List.drop 6 (dP w [])) = dP { w with was := w.view } [] := by
    have := dput (P := wP w) (x := .os 31 5 (rpRows [])) (a := 4) (b := 6) (by rw [hwl]; decide) (by rw [hwl]; decide) (vwP w.view)
    rw [wP_setWas] at this
    exact this
  have hdl1 := dP_len hw1 []
  have hb := begF_ok hw
  have hd2 : (dP { w with was := w.view } []).set 0 (.pv (.int .i64 (IntKind.i64.wrap (w.slot + 1)))) = dP (begF w) [] := dP_set hw1 [] (by decide) _
  have hloop := fun Z hZ => rdl w hw l hl Z hZ l 0 rfl (Nat.zero_le _) (begF w) w.view [] hb rfl (Nat.zero_le _)
  obtain ⟨hrok, hrlt⟩ := runF_ok l (begF w) w.view [] hb hw.vm
  have hvw : (runF l (begF w) w.view []).1.view = w.view := runF_view l (begF w) w.view []
  have hex : execF w l = (endF (runF l (begF w) w.view []).1 (runF l (begF w) w.view []).2.1, (runF l (begF w) w.view []).2.2) := rfl
  rw [hex]
  have hdlb := dP_len hb []
  generalize begF w = w1 at *
  generalize runF l w1 w.view [] = R at *
  obtain ⟨w2, nx, out⟩ := R
  simp only at hloop hrok hrlt hvw ⊢
  have hdl3 := dP_len hrok out
  have hveq := vw_eq nx w.view
  have hall := dP_all w2 out
  simp [-List.reduceReplicate, -getElem?_pos, hwl, hd0, hdl, hv, hsl, vwP_len, hd1, hdl1, hd2, hdlb, dP_pur w1 []]
  refine ⟨fun x hx => by
    rcases List.mem_append.1 hx with hx | hx
    · obtain ⟨p, _, rfl⟩ := List.mem_map.1 hx
      rfl
    · rw [List.mem_singleton.1 hx], ?_⟩
  refine hloop _ ?hz _ fun a b c d e => ?_
  case hz => intro xs; rfl
  by_cases he : nx = w.view
  · have : endF w2 nx = w2 := by simp [endF, he, hvw]
    rw [this]
    simp only [he, decide_true] at hveq
    subst he
    simp [-List.reduceReplicate, -getElem?_pos, hwl, hv, vwP_len, vw_ck, hveq, hdl3, hall, wP_len hrok]
  · have : endF w2 nx = { w2 with view := nx, first := IntKind.i64.wrap (w2.slot + 1) } := by simp [endF, he, hvw]
    rw [this]
    have hw4 : WOk { w2 with view := nx } := ⟨hrok.cl, hrok.ll, hrok.nr, hrlt⟩
    have hw5 : WOk { w2 with view := nx, first := IntKind.i64.wrap (w2.slot + 1) } := ⟨hrok.cl, hrok.ll, hrok.nr, hrlt⟩
    have hd4 : List.take 2 (dP w2 out) ++ (List.map AV.pv (vwP nx) ++ List.drop 4 (dP w2 out)) = dP { w2 with view := nx } out := by
      have := dput (P := wP w2) (x := .os 31 5 (rpRows out)) (a := 2) (b := 4) (by rw [wP_len hrok]; decide) (by rw [wP_len hrok]; decide) (vwP nx)
      rw [wP_setView] at this
      exact this
    have hdl4 := dP_len hw4 out
    have hsl4 : (dP { w2 with view := nx } out)[0]? = some (.pv (.int .i64 w2.slot)) := dP_get hw4 out rfl
    have hd5 : (dP { w2 with view := nx } out).set 1 (.pv (.int .i64 (IntKind.i64.wrap (w2.slot + 1)))) = dP { w2 with view := nx, first := IntKind.i64.wrap (w2.slot + 1) } out := dP_set hw4 out (by decide) _
    have hdl5 := dP_len hw5 out
    have hall5 := dP_all { w2 with view := nx, first := IntKind.i64.wrap (w2.slot + 1) } out
    simp only [he, decide_false] at hveq
    simp [-List.reduceReplicate, -getElem?_pos, hwl, hv, vwP_len, vw_ck, hveq, hdl3, hd4, hdl4, hsl4, hd5, hdl5, hall5, wP_len hw5]
theorem rpP_ck (a : Rp) : ckAll [.i .i64, .i .i64, .i .i64, .b, .i .i64] (rpP a) = true := rfl
theorem rpP_eq (a b : Rp) : eqPVs (rpP a) (rpP b) = true ↔ a = b := by
  obtain ⟨a1, a2, a3, a4, a5⟩ := a
  obtain ⟨b1, b2, b3, b4, b5⟩ := b
  simp only [rpP, eqPVs, eqPV, Bool.and_eq_true, beq_iff_eq, Rp.mk.injEq, Prod.mk.injEq, and_true]
end Go.Proofs.Ytdbbbaaopngbcaa
