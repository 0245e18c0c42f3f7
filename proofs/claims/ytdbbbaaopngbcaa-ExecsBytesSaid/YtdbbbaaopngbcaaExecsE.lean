/- execs.First, consistoryref15.SameReplies, wakes, long: contracts. -/
import Derived.Test.YtdbbbaaopngbcaaArgWorld
import Derived.Test.YtdbbbaaopngbcaaIrLaw15
set_option linter.unusedVariables false
set_option linter.unusedSimpArgs false
namespace Go.Proofs.Ytdbbbaaopngbcaa
open Go.Abs Go.RowKit Go.Ours

def firstF (v : Int × Nat) : Wd := ⟨0, 1, v, v, List.replicate 16 (false, 0), [⟨0, 0, 0, (false, 0)⟩, ⟨1, 0, 0, (false, 0)⟩, ⟨2, 0, 0, (false, 0)⟩, ⟨3, 0, 0, (false, 0)⟩, ⟨4, 0, 0, (false, 0)⟩, ⟨5, 0, 0, (false, 0)⟩]⟩
theorem firstF_ok (v : Int × Nat) (hv : v.2 < 65536) : WOk (firstF v) := ⟨rfl, rfl, fun x hx => by rw [(List.mem_replicate.1 hx).2]; exact fun _ => rfl, hv⟩
set_option maxHeartbeats 4000000 in
theorem first_c (v : Int × Nat) : ACall Try.prog 14 [.pagg (vwP v)] [] (.pagg (wP (firstF v))) [] [] := by
  refine ACall.fn (fn := Try.f14) rfl okExecsFirst rfl (by simp) ?_
  simp only [argT, irExecsFirst.eq_1, vwP]
  simp
  refine LoopW.go irExecsFirst_L1.eq_1 (by simp) ?_
  simp
  refine LoopW.go irExecsFirst_L1.eq_1 (by simp) ?_
  simp
  refine LoopW.go irExecsFirst_L1.eq_1 (by simp) ?_
  simp
  refine LoopW.go irExecsFirst_L1.eq_1 (by simp) ?_
  simp
  refine LoopW.go irExecsFirst_L1.eq_1 (by simp) ?_
  simp
  refine LoopW.go irExecsFirst_L1.eq_1 (by simp) ?_
  simp
  refine LoopW.go irExecsFirst_L1.eq_1 (by simp) ?_
  simp [wP, firstF, vwP, cellsP, repsP, clP, rpP, List.replicate]
theorem eqPVs_refl : ∀ {ks : List CK} {l : List PV}, ckAll ks l = true → eqPVs l l = true
  | [], [], _ => rfl
  | [], _ :: _, h => by simp [ckAll] at h
  | _ :: _, [], h => by simp [ckAll] at h
  | c :: ks, p :: l, h => by
    simp only [ckAll, Bool.and_eq_true] at h
    simp only [eqPVs, Bool.and_eq_true]
    refine ⟨?_, eqPVs_refl h.2⟩
    cases p <;> cases c <;> simp [ckOne] at h <;> simp [eqPV]
theorem srl (L : List Rp) : ∀ (n k : Nat), k + n = L.length → ∀ (Q : Exit → S → Prop),
   (∀ a b c d e f g, Q (.exit 0) (mk [(0, a), (1, b), (5, c), (11, d), (12, e), (13, f), (14, g)] [])) →
   L.length ≤ 1000000000 → LoopW Try.prog [0, 1, 5] [] irRef15SameReplies_L1 (mk [(0, .pv (.sl 5 (rpRows L))), (1, .pv (.sl 5 (rpRows L))), (5, .pv (.int .i64 (k : Nat)))] []) Q := by
  intro n
  induction n with
  | zero =>
    intro k hk Q hQ hL
    obtain rfl : k = L.length := by omega
    refine LoopW.go irRef15SameReplies_L1.eq_1 (by simp) ?_
    simp [rpRows_len]
    exact hQ _ _ _ _ _ _ _
  | succ n ih =>
    intro k hk Q hQ hL
    have hn := ih (k + 1) (by omega) Q hQ hL
    obtain ⟨x, hx⟩ : ∃ x, L[k]? = some x := ⟨_, List.getElem?_eq_getElem (by omega)⟩
    have i1 : (k : Int) < (L.length : Int) := by omega
    have i2 : k < L.length := by omega
    have w : IntKind.i64.wrap ((k : Int) + 1) = (k + 1 : Nat) := by rw [wrap_i64] <;> omega
    have hc := rpP_ck x
    have he := eqPVs_refl hc
    have hl := rpP_len x
    generalize rpP x = p at *
    have hg : (rpRows L)[k]? = some (rpP x) := by rw [rpRows_get, hx]; rfl
    refine LoopW.go irRef15SameReplies_L1.eq_1 (by simp) ?_
    have hx2 := rpP_ck x
    have he2 := eqPVs_refl hx2
    simp [-getElem?_pos, i1, i2, rpRows_len, hg, rpP_len, hx2, he2, w]
    exact hn
theorem sameR_c (L : List Rp) (hL : L.length ≤ 1000000000) : ACall Try.prog 13 [.pv (.sl 5 (rpRows L)), .pv (.sl 5 (rpRows L))] [] (.pv (.bool true)) [] [] := by
  refine ACall.fn (fn := Try.f13) rfl okRef15SameReplies rfl (by simp) ?_
  simp only [argT, irRef15SameReplies.eq_1]
  simp
  refine srl L L.length 0 (by omega) _ (fun a b c d e f g => ?_) hL
  simp
theorem wP_cell {w : Wd} {k : Nat} {x : Cl} (h : w.cells[k]? = some x) : ∃ A C, wP w = A ++ (clP x ++ C) ∧ A.length = 6 + k * 2 ∧ ∀ y, wP { w with cells := w.cells.set k y } = A ++ (clP y ++ C) := by
  obtain ⟨A, C, h1, h2, h3⟩ := rows_at (f := clP) (m := 2) (fun _ => rfl) h
  obtain ⟨B, g1, g2, g3⟩ := wP_split w
  refine ⟨B ++ A, C ++ repsP w.last, ?_, by simp [g2, h2], fun y => ?_⟩
  · rw [g1]
    unfold cellsP
    rw [h1]
    simp
  · have := g3 (w.cells.set k y) w.last
    rw [show ({ w with cells := w.cells.set k y } : Wd) = { w with cells := w.cells.set k y, last := w.last } from rfl, this]
    unfold cellsP
    rw [h3]
    simp
theorem wP_cellget {w : Wd} {k : Nat} {x : Cl} (h : w.cells[k]? = some x) : (wP w)[6 + k * 2]? = some (.bool x.1) ∧ (wP w)[6 + k * 2 + 1]? = some (.int .i64 x.2) := by
  obtain ⟨A, C, h1, h2, _⟩ := wP_cell h
  rw [h1]
  exact ⟨mid_get (B := clP x) (i := 0) h2 (show 0 < 2 by decide), mid_get (B := clP x) (i := 1) h2 (show 1 < 2 by decide)⟩
theorem wP_cellput {w : Wd} {k : Nat} {x : Cl} (h : w.cells[k]? = some x) (y : Cl) : (wP w).take (6 + k * 2) ++ PV.bool y.1 :: PV.int .i64 y.2 :: (wP w).drop (6 + k * 2 + 2) = wP { w with cells := w.cells.set k y } := by
  obtain ⟨A, C, h1, h2, h3⟩ := wP_cell h
  rw [h3, h1]
  exact mid_put h2 (show (clP x).length = 2 from rfl) (clP y)
theorem wake_run : (execF (firstF (0, 15)) [⟨1, 1, 2, 2, 9, 0, []⟩]).2 = [⟨1, 1, 1, (true, 0)⟩] ∧ (execF (firstF (0, 15)) [⟨1, 1, 2, 2, 9, 0, []⟩]).1.slot = 1 ∧ (execF (firstF (0, 15)) [⟨1, 1, 2, 2, 9, 0, []⟩]).1.cells[2]? = some (true, 9) := by
  refine ⟨by rfl, by rfl, by rfl⟩
theorem wakes_c : ACall Try.prog 8 [] [] (.pv (.bool true)) [] [] := by
  refine ACall.fn (fn := Try.f8) rfl okLaw15Wakes rfl (by simp) ?_
  simp only [argT, irLaw15Wakes.eq_1]
  have c1 := first_c (0, 15)
  have hok := firstF_ok (0, 15) (by decide)
  have hl1 := wP_len hok
  have c2 := execs_c (firstF (0, 15)) hok [⟨1, 1, 2, 2, 9, 0, []⟩] (by simp)
  have hok2 := execF_ok hok [⟨1, 1, 2, 2, 9, 0, []⟩]
  obtain ⟨h1, h2, h3⟩ := wake_run
  have hl2 := wP_len hok2
  have hs := wP_slot (execF (firstF (0, 15)) [⟨1, 1, 2, 2, 9, 0, []⟩]).1
  obtain ⟨_, hc⟩ := wP_cellget h3
  rw [h1] at c2
  rw [h2] at hs
  generalize (execF (firstF (0, 15)) [⟨1, 1, 2, 2, 9, 0, []⟩]).1 = x at *
  generalize firstF (0, 15) = w at *
  simp only [rqRows, List.map_cons, List.map_nil, rqP, krows, rpRows, rpP, vwP] at c1 c2
  simp only [Nat.reduceMul, Nat.reduceAdd] at hc
  simp [-getElem?_pos]
  refine CallG.go c1 ?_
  simp [-getElem?_pos, hl1]
  refine CallG.go c2 ?_
  simp [-getElem?_pos, hl2, hs, ckAll, ckOne, eqPVs, eqPV, hc]
def fineF (w : Wd) : Bool := decide (-1000000 ≤ w.slot ∧ w.slot ≤ 1000000)
theorem fine_c (w : Wd) : ACall Try.prog 10 [.pagg (wP w)] [] (.pv (.bool (fineF w))) [] [] := by
  refine ACall.fn (fn := Try.f10) rfl okLaw15Fine rfl (by simp) ?_
  simp only [argT, irLaw15Fine.eq_1]
  have hs := wP_slot w
  unfold fineF
  by_cases h1 : -1000000 ≤ w.slot
  · by_cases h2 : w.slot ≤ 1000000 <;> simp [-getElem?_pos, hs, h1, h2]
  · simp [-getElem?_pos, hs, h1]
theorem runF_out : ∀ (l : List Rq) (w : Wd) (nx : Int × Nat) (out : List Rp), (runF l w nx out).2.2.length ≤ out.length + l.length
  | [], _, _, out => by simp [runF]
  | r :: l, w, nx, out => by
    rw [runF]
    split
    · have := runF_out l w nx out
      simp only [List.length_cons]
      omega
    · have := runF_out l (doneF w nx r) (actF w nx r).2.1 (out ++ [repF w nx r])
      simp only [List.length_append, List.length_cons, List.length_nil] at this ⊢
      omega
theorem execF_out (w : Wd) (l : List Rq) : (execF w l).2.length ≤ l.length := by
  have := runF_out l (begF w) w.view []
  simpa [execF] using this
def longF (L : List (List Rq)) : Bool := decide (30 < L.length) || L.any fun l => decide (10 < l.length)
theorem lgl (L : List (List Rq)) : ∀ (l : List (List Rq)) (k : Nat), L.drop k = l → k ≤ L.length → ∀ (Q : Exit → S → Prop),
   ((l.any fun l => decide (10 < l.length)) = false → ∀ a b c d, Q (.exit 0) (mk [(0, a), (8, b), (9, c), (10, d)] [])) →
   ((l.any fun l => decide (10 < l.length)) = true → Q .ret (mk [(2, .pv (.bool true))] [])) →
   L.length ≤ 1000000 → LoopW Try.prog [0, 8, 9] [] irLaw15Long_L1 (mk [(0, .pv (.sl 1 (bRows L))), (8, .pv (.int .i64 (L.length : Nat))), (9, .pv (.int .i64 (k : Nat)))] []) Q := by
  intro l
  induction l with
  | nil =>
    intro k hd hk Q hQ _ hL
    have hk2 : k = L.length := by
      have := congrArg List.length hd
      simp at this
      omega
    subst hk2
    refine LoopW.go irLaw15Long_L1.eq_1 (by simp) ?_
    simp
    exact hQ rfl _ _ _ _
  | cons r l ih =>
    intro k hd hk Q hQ hQ2 hL
    have hlt : k < L.length := by
      have := congrArg List.length hd
      simp at this
      omega
    have hr : L[k]? = some r := by
      have := congrArg (·[0]?) hd
      simpa using this
    have hd' : L.drop (k + 1) = l := by
      have := congrArg (List.drop 1) hd
      simpa [List.drop_drop, Nat.add_comm] using this
    have i1 : (k : Int) < (L.length : Int) := by omega
    have w : IntKind.i64.wrap ((k : Int) + 1) = (k + 1 : Nat) := by rw [wrap_i64] <;> omega
    by_cases h : 10 < r.length
    · have h' : (10 : Int) < (r.length : Int) := by omega
      refine LoopW.go irLaw15Long_L1.eq_1 (by simp) ?_
      simp [-getElem?_pos, i1, hlt, bRows_len, bRows_get, hr, rqRows_len, h, h']
      exact hQ2 (by simp [h])
    · have h' : ¬ (10 : Int) < (r.length : Int) := by omega
      have hn := ih (k + 1) hd' (by omega) Q (fun hh => hQ (by simp only [List.any_cons, h, decide_false, Bool.false_or]; exact hh)) (fun hh => hQ2 (by simp only [List.any_cons, h, decide_false, Bool.false_or]; exact hh)) hL
      refine LoopW.go irLaw15Long_L1.eq_1 (by simp) ?_
      simp [-getElem?_pos, i1, hlt, bRows_len, bRows_get, hr, rqRows_len, h, h', w]
      exact hn
theorem long_c (L : List (List Rq)) : ACall Try.prog 9 [.pv (.sl 1 (bRows L))] [] (.pv (.bool (longF L))) [] [] := by
  refine ACall.fn (fn := Try.f9) rfl okLaw15Long rfl (by simp) ?_
  simp only [argT, irLaw15Long.eq_1]
  unfold longF
  by_cases h : 30 < L.length
  · have h' : (30 : Int) < (L.length : Int) := by omega
    simp [bRows_len, h, h']
  · have h' : ¬ (30 : Int) < (L.length : Int) := by omega
    simp only [h, decide_false, Bool.false_or]
    generalize hg : (L.any fun l => decide (10 < l.length)) = g
    simp [bRows_len, h, h']
    refine lgl L L 0 rfl (Nat.zero_le _) _ (fun hh a b c d => ?_) (fun hh => ?_) (by omega)
    · rw [hg] at hh
      subst hh
      simp
    · rw [hg] at hh
      subst hh
      simp
end Go.Proofs.Ytdbbbaaopngbcaa
