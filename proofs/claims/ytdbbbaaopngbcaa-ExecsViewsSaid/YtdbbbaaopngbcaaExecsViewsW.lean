/- The law ExecsViews. -/
import Derived.Test.YtdbbbaaopngbcaaExecsF
set_option linter.unusedVariables false
set_option linter.unusedSimpArgs false
namespace Go.Proofs.Ytdbbbaaopngbcaa
open Go.Abs Go.RowKit Go.Ours

/-- The next view is the view, or the view behind it. -/
def nxOk (w : Wd) (nx : Int × Nat) : Prop := nx = w.view ∨ (nx ≠ w.view ∧ nx.1 = w.view.1 + 1 ∧ 0 ≤ w.view.1 ∧ w.view.1 ≤ 60)
theorem runF_nx : ∀ (l : List Rq) (w : Wd) (nx : Int × Nat) (out : List Rp), nxOk w nx → nxOk w (runF l w nx out).2.1
  | [], _, _, _, h => h
  | r :: l, w, nx, out, h => by
    rw [runF]
    split
    · exact runF_nx l w nx out h
    · refine runF_nx l (doneF w nx r) (actF w nx r).2.1 _ ?_
      show nxOk w (actF w nx r).2.1
      unfold actF
      split
      · split
        · rename_i hh
          obtain ⟨h0, _⟩ := hh
          unfold nextF at h0 ⊢
          split at h0
          · rename_i hc
            rw [if_pos hc]
            have hr := hc.1
            unfold rightV at hr
            simp at hr
            refine Or.inr ⟨fun e => ?_, rfl, hr.1, hr.2.1⟩
            have := congrArg Prod.fst e
            simp at this
            omega
          · simp at h0
        · exact h
      · exact h
theorem execF_view (w : Wd) (l : List Rq) : ((execF w l).1.view = w.view ∧ (execF w l).1.first = w.first) ∨ ((execF w l).1.view ≠ w.view ∧ (execF w l).1.view.1 = w.view.1 + 1 ∧ 0 ≤ w.view.1 ∧ w.view.1 ≤ 60 ∧ (execF w l).1.first = IntKind.i64.wrap (IntKind.i64.wrap (w.slot + 1) + 1)) := by
  have hn := runF_nx l (begF w) w.view [] (Or.inl rfl)
  obtain ⟨s1, s2, s3⟩ := runF_same l (begF w) w.view []
  have hv := runF_view l (begF w) w.view []
  unfold execF endF
  simp only
  split
  · exact Or.inl ⟨hv, s2⟩
  · rename_i hne
    rcases hn with h | ⟨h1, h2, h3, h4⟩
    · rw [hv] at hne
      exact absurd h hne
    · refine Or.inr ⟨h1, h2, h3, h4, ?_⟩
      simp only
      rw [s1]
      rfl
set_option maxRecDepth 100000 in
set_option maxHeartbeats 4000000 in
theorem vil (L : List (List Rq)) (hL : L.length ≤ 900) (hLl : ∀ l ∈ L, l.length ≤ 10) : ∀ (l : List (List Rq)) (k : Nat), L.drop k = l → k ≤ L.length → ∀ (w : Wd), WOk w → 0 ≤ w.slot → w.slot ≤ k → ∀ (Q : Exit → S → Prop),
   (∀ a b c d z, Q (.exit 0) (mk [(0, a), (3, .ptr 3 0), (14, b), (15, c), (16, d)] [(3, .pagg z)])) →
   LoopW Try.prog [0, 3, 14, 15] [3] irLaw15ExecsViews_L1 (mk [(0, .pv (.sl 1 (bRows L))), (3, .ptr 3 0), (14, .pv (.int .i64 (L.length : Nat))), (15, .pv (.int .i64 (k : Nat)))] [(3, .pagg (wP w))]) Q := by
  intro l
  induction l with
  | nil =>
    intro k hd hk w hw hs0 hs1 Q hQ
    have hk2 : k = L.length := by
      have := congrArg List.length hd
      simp at this
      omega
    subst hk2
    refine LoopW.go irLaw15ExecsViews_L1.eq_1 (by simp) ?_
    simp
    exact hQ _ _ _ _ _
  | cons r l ih =>
    intro k hd hk w hw hs0 hs1 Q hQ
    have hlt : k < L.length := by
      have := congrArg List.length hd
      simp at this
      omega
    have hr : L[k]? = some r := by
      have := congrArg (·[0]?) hd
      simpa using this
    have hd' : L.drop (k + 1) = l := by
      have := congrArg (List.drop 1) hd
      simpa [List.drop_drop, Nat.add_comm] using this
    have i1 : (k : Int) < (L.length : Int) := by omega
    have wk : IntKind.i64.wrap ((k : Int) + 1) = (k + 1 : Nat) := by rw [wrap_i64] <;> omega
    have hrl := hLl r (List.mem_of_getElem? hr)
    have hok := execF_ok hw r
    obtain ⟨ws1, ws2⟩ := slot_wrap (s := w.slot) ⟨by omega, by omega⟩
    have hsl := execF_slot w r
    rw [ws1] at hsl
    have ws3 : IntKind.i64.wrap w.slot = w.slot := by rw [wrap_i64] <;> omega
    have hn := ih (k + 1) hd' (by omega) (execF w r).1 hok (by omega) (by omega) Q hQ
    have c1 := execs_c w hw r (by omega)
    have hwl := wP_len hw
    have hwl2 := wP_len hok
    have hwas := execF_was w r
    have hview := execF_view w r
    have e1 := wP_was (execF w r).1
    rw [hwas] at e1
    have e2 := wP_view w
    have e3 := wP_view (execF w r).1
    have e4 := wP_slot w
    have e5 := wP_slot (execF w r).1
    rw [hsl] at e5
    have e6 := wP_first w
    have e7 := wP_first (execF w r).1
    have e8 := wP_num w
    have e9 := wP_num (execF w r).1
    have q1 := vw_eq w.view w.view
    have q2 := vw_eq (execF w r).1.view w.view
    generalize (execF w r).2 = out at *
    generalize (execF w r).1 = x at *
    rcases hview with ⟨v1, v2⟩ | ⟨v1, v2, v3, v4, v5⟩
    · rw [v2] at e7
      simp only [v1, decide_true] at q2
      simp only [decide_true] at q1
      rw [v1] at e3
      refine LoopW.go irLaw15ExecsViews_L1.eq_1 (by simp) ?_
      simp [-getElem?_pos, i1, hlt, bRows_len, bRows_get, hr, hwl]
      refine CallG.go c1 ?_
      simp [-getElem?_pos, hwl, hwl2, wk, e1, e2, e3, e4, e5, e6, e7, vw_ck, q1, ws2, ws3]
      exact hn
    · have w2 : IntKind.i64.wrap (w.view.1 + 1 - 1) = w.view.1 := by rw [wrap_i64] <;> omega
      rw [ws1] at v5
      have w3 : IntKind.i64.wrap (w.slot + 1 + 1) = w.slot + 1 + 1 := by rw [wrap_i64] <;> omega
      have w4 : IntKind.i64.wrap (w.slot + 1 + 1 - 1) = w.slot + 1 := by rw [wrap_i64] <;> omega
      rw [w3] at v5
      have w5 : IntKind.i64.wrap w.view.1 = w.view.1 := by rw [wrap_i64] <;> omega
      have w6 : IntKind.i64.wrap (w.slot + 1) = w.slot + 1 := ws1
      rw [v5] at e7
      rw [v2] at e9
      simp only [v1, decide_false] at q2
      simp only [decide_true] at q1
      refine LoopW.go irLaw15ExecsViews_L1.eq_1 (by simp) ?_
      simp [-getElem?_pos, i1, hlt, bRows_len, bRows_get, hr, hwl]
      refine CallG.go c1 ?_
      simp [-getElem?_pos, hwl, hwl2, wk, e1, e2, e3, e4, e5, e6, e7, e8, e9, vw_ck, q1, q2, ws2, ws3, w2, w4, w5, w6]
      exact hn
theorem lawViews_c (L : List (List Rq)) (hL : L.length ≤ maxLen) : ACall Try.prog 5 [.pv (.sl 1 (bRows L))] [] (.pv (.bool true)) [] [] := by
  refine ACall.fn (fn := Try.f5) rfl okLaw15ExecsViews rfl (by simp) ?_
  simp only [argT, irLaw15ExecsViews.eq_1]
  have cl := long_c L
  simp
  refine CallG.go wakes_c ?_
  simp
  refine CallG.go cl ?_
  cases hlong : longF L
  · have hlen : L.length ≤ 30 ∧ ∀ l ∈ L, l.length ≤ 10 := by
      simp only [longF, Bool.or_eq_false_iff, decide_eq_false_iff_not, List.any_eq_false] at hlong
      refine ⟨by omega, fun l hl => ?_⟩
      have := hlong.2 l hl
      simp at this
      omega
    have c1 := first_c (0, 31)
    have hok := firstF_ok (0, 31) (by decide)
    have hl0 := wP_len hok
    have hs0 : (firstF (0, 31)).slot = 0 := rfl
    have hlp := vil L (by omega) hlen.2 L 0 rfl (Nat.zero_le _) (firstF (0, 31)) hok (by rw [hs0]; decide) (by rw [hs0]; decide)
    generalize firstF (0, 31) = x0 at *
    simp only [vwP] at c1
    simp
    refine CallG.go c1 ?_
    simp [-getElem?_pos, hl0, bRows_len]
    refine hlp _ fun a b c d z => ?_
    simp
  · simp
theorem walkExecsViews (a1 : Option Addr) (l1 c1 : Nat) (w : World) (k1 : Shp.Reads w (.slice (.slice shQ)) [.slice a1 l1 c1]) :
     Calls Try.prog 5 #[.slice a1 l1 c1] w fun e w' => e = .returned (.bool true) ∧ Below w.heap.size w w' := by
  obtain ⟨L, q1, g4, _⟩ := arg_batches k1
  refine lawCalls (lawViews_c L g4) rfl fun i v av hv ha => ?_
  match i with
  | 0 => cases hv; cases ha; exact q1
  | n + 1 => simp at hv
end Go.Proofs.Ytdbbbaaopngbcaa
