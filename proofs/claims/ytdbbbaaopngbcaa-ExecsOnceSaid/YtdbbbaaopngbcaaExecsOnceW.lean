/- The law ExecsOnce. -/
import Derived.Test.YtdbbbaaopngbcaaExecsF
set_option linter.unusedVariables false
set_option linter.unusedSimpArgs false
namespace Go.Proofs.Ytdbbbaaopngbcaa
open Go.Abs Go.RowKit Go.Ours

theorem onl1 (L : List (List Rq)) (hL : L.length ≤ 1000000) (hLl : ∀ l ∈ L, l.length ≤ 10) (R : List Rq) : ∀ (l : List (List Rq)) (k : Nat), L.drop k = l → k ≤ L.length → ∀ (w : Wd), WOk w → ∀ (Q : Exit → S → Prop),
   (∀ a b c d, Q (.exit 0) (mk [(0, .pv (.sl 7 (rqRows R))), (1, a), (5, .ptr 5 0), (28, b), (29, c), (30, d)] [(5, .pagg (wP (worldsF w l)))])) →
   LoopW Try.prog [0, 1, 5, 28, 29] [5] irLaw15ExecsOnce_L1 (mk [(0, .pv (.sl 7 (rqRows R))), (1, .pv (.sl 1 (bRows L))), (5, .ptr 5 0), (28, .pv (.int .i64 (L.length : Nat))), (29, .pv (.int .i64 (k : Nat)))] [(5, .pagg (wP w))]) Q := by
  intro l
  induction l with
  | nil =>
    intro k hd hk w hw Q hQ
    have hk2 : k = L.length := by
      have := congrArg List.length hd
      simp at this
      omega
    subst hk2
    refine LoopW.go irLaw15ExecsOnce_L1.eq_1 (by simp) ?_
    simp
    exact hQ _ _ _ _
  | cons r l ih =>
    intro k hd hk w hw Q hQ
    have hlt : k < L.length := by
      have := congrArg List.length hd
      simp at this
      omega
    have hr : L[k]? = some r := by
      have := congrArg (·[0]?) hd
      simpa using this
    have hd' : L.drop (k + 1) = l := by
      have := congrArg (List.drop 1) hd
      simpa [List.drop_drop, Nat.add_comm] using this
    have i1 : (k : Int) < (L.length : Int) := by omega
    have wk : IntKind.i64.wrap ((k : Int) + 1) = (k + 1 : Nat) := by rw [wrap_i64] <;> omega
    have hrl := hLl r (List.mem_of_getElem? hr)
    have hok := execF_ok hw r
    have hn := ih (k + 1) hd' (by omega) (execF w r).1 hok Q hQ
    have c1 := execs_c w hw r (by omega)
    have hwl := wP_len hw
    have hwl2 := wP_len hok
    generalize (execF w r).2 = out at *
    generalize (execF w r).1 = x at *
    refine LoopW.go irLaw15ExecsOnce_L1.eq_1 (by simp) ?_
    simp [-getElem?_pos, i1, hlt, bRows_len, bRows_get, hr, hwl]
    refine CallG.go c1 ?_
    simp [-getElem?_pos, hwl, hwl2, wk]
    exact hn
theorem onl2 (L : List Rq) (hL : L.length ≤ 1000000) (z5 z7 : List PV) (z8 : AV) : ∀ (l : List Rq) (k : Nat), L.drop k = l → k ≤ L.length → ∀ (Q : Exit → S → Prop),
   (∀ a b c d, Q (.exit 2) (mk [(0, a), (5, .ptr 5 0), (7, .ptr 7 0), (8, z8), (49, b), (50, c), (51, d)] [(5, .pagg z5), (7, .pagg z7)])) →
   Q .ret (mk [(4, .pv (.bool true))] []) →
   LoopW Try.prog [0, 5, 7, 8, 49, 50] [5, 7] irLaw15ExecsOnce_L2 (mk [(0, .pv (.sl 7 (rqRows L))), (5, .ptr 5 0), (7, .ptr 7 0), (8, z8), (49, .pv (.int .i64 (L.length : Nat))), (50, .pv (.int .i64 (k : Nat)))] [(5, .pagg z5), (7, .pagg z7)]) Q := by
  intro l
  induction l with
  | nil =>
    intro k hd hk Q hQ hQ2
    have hk2 : k = L.length := by
      have := congrArg List.length hd
      simp at this
      omega
    subst hk2
    refine LoopW.go irLaw15ExecsOnce_L2.eq_1 (by simp) ?_
    simp
    exact hQ _ _ _ _
  | cons r l ih =>
    intro k hd hk Q hQ hQ2
    have hlt : k < L.length := by
      have := congrArg List.length hd
      simp at this
      omega
    have hr : L[k]? = some r := by
      have := congrArg (·[0]?) hd
      simpa using this
    have hd' : L.drop (k + 1) = l := by
      have := congrArg (List.drop 1) hd
      simpa [List.drop_drop, Nat.add_comm] using this
    have i1 : (k : Int) < (L.length : Int) := by omega
    have wk : IntKind.i64.wrap ((k : Int) + 1) = (k + 1 : Nat) := by rw [wrap_i64] <;> omega
    have hn := ih (k + 1) hd' (by omega) Q hQ hQ2
    by_cases h1 : r.client < 0
    · refine LoopW.go irLaw15ExecsOnce_L2.eq_1 (by simp) ?_
      simp [-getElem?_pos, i1, hlt, rqRows_len, rqRows_get, hr, rq0, h1]
      exact hQ2
    · by_cases h2 : 5 < r.client
      · refine LoopW.go irLaw15ExecsOnce_L2.eq_1 (by simp) ?_
        simp [-getElem?_pos, i1, hlt, rqRows_len, rqRows_get, hr, rq0, h1, h2]
        exact hQ2
      · refine LoopW.go irLaw15ExecsOnce_L2.eq_1 (by simp) ?_
        simp [-getElem?_pos, i1, hlt, rqRows_len, rqRows_get, hr, rq0, h1, h2, wk]
        exact hn
set_option maxRecDepth 100000 in
set_option maxHeartbeats 4000000 in
theorem lawOnce_c (l : List Rq) (L : List (List Rq)) (hl : l.length ≤ maxLen) (hL : L.length ≤ maxLen) : ACall Try.prog 4 [.pv (.sl 7 (rqRows l)), .pv (.sl 1 (bRows L))] [] (.pv (.bool true)) [] [] := by
  refine ACall.fn (fn := Try.f4) rfl okLaw15ExecsOnce rfl (by simp) ?_
  simp only [argT, irLaw15ExecsOnce.eq_1]
  have cl := long_c L
  simp
  refine CallG.go wakes_c ?_
  simp
  refine CallG.go cl ?_
  cases hlong : longF L
  · by_cases h10 : 10 < l.length
    · have h10' : (10 : Int) < (l.length : Int) := by omega
      simp [rqRows_len, h10, h10']
    · have h10' : ¬ (10 : Int) < (l.length : Int) := by omega
      have hlen : L.length ≤ 30 ∧ ∀ l ∈ L, l.length ≤ 10 := by
        simp only [longF, Bool.or_eq_false_iff, decide_eq_false_iff_not, List.any_eq_false] at hlong
        refine ⟨by omega, fun l hl => ?_⟩
        have := hlong.2 l hl
        simp at this
        omega
      have c1 := first_c (0, 15)
      have hok := firstF_ok (0, 15) (by decide)
      have hl0 := wP_len hok
      have c2 := execs_c (firstF (0, 15)) hok l (by omega)
      have hok1 := execF_ok hok l
      have hl1 := wP_len hok1
      have hs1 : (execF (firstF (0, 15)) l).1.slot = 1 := by rw [execF_slot]; rfl
      have hla := execF_last (firstF (0, 15)) l rfl
      have hok2 := worlds_ok hok1 L
      have hw2 := worlds_last L _ hla.1
      have hs2 := worlds_slot L (execF (firstF (0, 15)) l).1 (by omega) (by omega)
      have hlp := onl1 L (by omega) hlen.2 l L 0 rfl (Nat.zero_le _) (execF (firstF (0, 15)) l).1 hok1
      have hag := execF_again (worldsF (execF (firstF (0, 15)) l).1 L) l (fun r hr hk => by
        have h1 := hla.2.2 r hr hk
        have h2 := hw2 r.client (by obtain ⟨k, hk1, _⟩ := known_lt hk; omega)
        omega)
      have c3 := execs_c (worldsF (execF (firstF (0, 15)) l).1 L) hok2 l (by omega)
      rw [hag] at c3
      have hl2 := wP_len hok2
      generalize (execF (firstF (0, 15)) l).2 = out1 at *
      generalize hgx : worldsF (execF (firstF (0, 15)) l).1 L = x at *
      generalize (execF (firstF (0, 15)) l).1 = x1 at *
      generalize firstF (0, 15) = x0 at *
      have hok3 := begF_ok hok2
      have hl3 := wP_len hok3
      have e1 := wP_cells hok2
      have e2 := wP_cells hok3
      have e3 := wP_lastPart hok2
      have e4 := wP_lastPart hok3
      have e5 := wP_view x
      have e6 := wP_view (begF x)
      have e7 := wP_was (begF x)
      have e8 := wP_first x
      have e9 := wP_first (begF x)
      have e10 := wP_slot x
      have e11 := wP_slot (begF x)
      have b1 : (begF x).cells = x.cells := rfl
      have b2 : (begF x).last = x.last := rfl
      have b3 : (begF x).view = x.view := rfl
      have b4 : (begF x).was = x.view := rfl
      have b5 : (begF x).first = x.first := rfl
      have b6 : (begF x).slot = IntKind.i64.wrap (x.slot + 1) := rfl
      rw [b1] at e2
      rw [b2] at e4
      rw [b3] at e6
      rw [b4] at e7
      rw [b5] at e9
      obtain ⟨ws1, ws2⟩ := slot_wrap (s := x.slot) ⟨by omega, by omega⟩
      rw [b6, ws1] at e11
      have ws3 : IntKind.i64.wrap x.slot = x.slot := by rw [wrap_i64] <;> omega
      have q1 := cells_ck hok2.cl
      have q2 := reps_ck hok2.ll
      have q3 := eqPVs_refl q1
      have q4 := eqPVs_refl q2
      have q5 := vw_ck x.view
      have q6 := eqPVs_refl q5
      generalize begF x = y at *
      simp only [vwP] at c1
      simp [rqRows_len, h10, h10']
      refine CallG.go c1 ?_
      simp [-getElem?_pos, hl0]
      refine CallG.go c2 ?_
      simp [-getElem?_pos, hl0, hl1, bRows_len]
      refine hlp _ fun a b c d => ?_
      simp [-getElem?_pos, hl2]
      refine CallG.go c3 ?_
      simp [-getElem?_pos, hl2, hl3, rqRows_len, rpRows]
      refine onl2 l (by omega) _ _ _ l 0 rfl (Nat.zero_le _) _ (fun a b c d => ?_) ?_
      · simp [-getElem?_pos, hl2, hl3, e1, e2, e3, e4, e5, e6, e7, e8, e9, e10, e11, q1, q2, q3, q4, q5, q6, ws2, ws3]
      · simp
  · simp
theorem walkExecsOnce (a0 : Option Addr) (l0 c0 : Nat) (a1 : Option Addr) (l1 c1 : Nat) (w : World) (k0 : Shp.Reads w (.slice shQ) [.slice a0 l0 c0]) (k1 : Shp.Reads w (.slice (.slice shQ)) [.slice a1 l1 c1]) :
     Calls Try.prog 4 #[.slice a0 l0 c0, .slice a1 l1 c1] w fun e w' => e = .returned (.bool true) ∧ Below w.heap.size w w' := by
  obtain ⟨l, q0, g0⟩ := arg_batch k0
  obtain ⟨L, q1, g4, _⟩ := arg_batches k1
  refine lawCalls (lawOnce_c l L g0 g4) rfl fun i v av hv ha => ?_
  match i with
  | 0 => cases hv; cases ha; exact q0
  | 1 => cases hv; cases ha; exact q1
  | n + 2 => simp at hv
end Go.Proofs.Ytdbbbaaopngbcaa
