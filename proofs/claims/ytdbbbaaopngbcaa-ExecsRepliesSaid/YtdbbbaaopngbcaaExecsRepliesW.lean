/- The law ExecsReplies. -/
import Derived.Test.YtdbbbaaopngbcaaExecsG
set_option linter.unusedVariables false
set_option linter.unusedSimpArgs false
namespace Go.Proofs.Ytdbbbaaopngbcaa
open Go.Abs Go.RowKit Go.Ours

theorem rel1 (L : List (List Rq)) (hL : L.length ≤ 1000000) (hLl : ∀ l ∈ L, l.length ≤ 10) (R : List Rq) : ∀ (l : List (List Rq)) (k : Nat), L.drop k = l → k ≤ L.length → ∀ (w : Wd), WOk w → ∀ (Q : Exit → S → Prop),
   (∀ a b c d, Q (.exit 0) (mk [(0, a), (1, .pv (.sl 7 (rqRows R))), (5, .ptr 5 0), (27, b), (28, c), (29, d)] [(5, .pagg (wP (worldsF w l)))])) →
   LoopW Try.prog [0, 1, 5, 27, 28] [5] irLaw15ExecsReplies_L1 (mk [(0, .pv (.sl 1 (bRows L))), (1, .pv (.sl 7 (rqRows R))), (5, .ptr 5 0), (27, .pv (.int .i64 (L.length : Nat))), (28, .pv (.int .i64 (k : Nat)))] [(5, .pagg (wP w))]) Q := by
  intro l
  induction l with
  | nil =>
    intro k hd hk w hw Q hQ
    have hk2 : k = L.length := by
      have := congrArg List.length hd
      simp at this
      omega
    subst hk2
    refine LoopW.go irLaw15ExecsReplies_L1.eq_1 (by simp) ?_
    simp
    exact hQ _ _ _ _
  | cons r l ih =>
    intro k hd hk w hw Q hQ
    have hlt : k < L.length := by
      have := congrArg List.length hd
      simp at this
      omega
    have hr : L[k]? = some r := by
      have := congrArg (·[0]?) hd
      simpa using this
    have hd' : L.drop (k + 1) = l := by
      have := congrArg (List.drop 1) hd
      simpa [List.drop_drop, Nat.add_comm] using this
    have i1 : (k : Int) < (L.length : Int) := by omega
    have wk : IntKind.i64.wrap ((k : Int) + 1) = (k + 1 : Nat) := by rw [wrap_i64] <;> omega
    have hrl := hLl r (List.mem_of_getElem? hr)
    have hok := execF_ok hw r
    have hn := ih (k + 1) hd' (by omega) (execF w r).1 hok Q hQ
    have c1 := execs_c w hw r (by omega)
    have hwl := wP_len hw
    have hwl2 := wP_len hok
    generalize (execF w r).2 = out at *
    generalize (execF w r).1 = x at *
    refine LoopW.go irLaw15ExecsReplies_L1.eq_1 (by simp) ?_
    simp [-getElem?_pos, i1, hlt, bRows_len, bRows_get, hr, hwl]
    refine CallG.go c1 ?_
    simp [-getElem?_pos, hwl, hwl2, wk]
    exact hn
theorem sub_tail {α : Type} {a b : α} {l m : List α} (h : (a :: l).Sublist (b :: m)) : l.Sublist m := by
  cases h with
  | cons _ h => exact (List.sublist_cons_self a l).trans h
  | cons_cons _ h => exact h
theorem sub_other {α : Type} {a b : α} {l m : List α} (h : (a :: l).Sublist (b :: m)) (hne : b ≠ a) : (a :: l).Sublist m := by
  cases h with
  | cons _ h => exact h
  | cons_cons _ h => exact absurd rfl hne
theorem rp0 (r : Rp) : (rpP r)[0]? = some (.int .i64 r.client) := rfl
theorem rp1 (r : Rp) : (rpP r)[1]? = some (.int .i64 r.seq) := rfl
theorem rp2 (r : Rp) : (rpP r)[2]? = some (.int .i64 r.slot) := rfl
theorem rpRows_drop (l : List Rp) (n : Nat) : (rpRows l).drop n = rpRows (l.drop n) := by simp [rpRows]
theorem rel3 (L : List Rq) (hL : L.length ≤ 1000000) (q : Rp) (ks : List (Int × Int)) (z5 z7 : List PV) (O : List (List PV)) (z8 z10 z48 z49 : PV) : ∀ (l : List Rq) (k : Nat), L.drop k = l → k ≤ L.length → (keyR q :: ks).Sublist (l.map keyQ) → ∀ (Q : Exit → S → Prop),
   (∀ k', k' < L.length → ks.Sublist ((L.drop (k' + 1)).map keyQ) → ∀ t54 t55 t56 t57 t58 t59 t60 t61 t62 t63 t64 t65 t66 t67 t68 t69 t70 t71 t72 t73 t74 t75 t76 t77, Q (.exit 4) (mk [(1, .pv (.sl 7 (rqRows L))), (5, .ptr 5 0), (7, .ptr 7 0), (8, .pv z8), (9, .pv (.int .i64 (k' : Nat))), (10, .pv z10), (11, .ptr 11 0), (47, .pv (.sl 5 O)), (48, .pv z48), (49, .pv z49), (54, t54), (55, t55), (56, t56), (57, t57), (58, t58), (59, t59), (60, t60), (61, t61), (62, t62), (63, t63), (64, t64), (65, t65), (66, t66), (67, t67), (68, t68), (69, t69), (70, t70), (71, t71), (72, t72), (73, t73), (74, t74), (75, t75), (76, t76), (77, t77)] [(5, .pagg z5), (7, .pagg z7), (11, .pagg (rpP q))])) →
   LoopW Try.prog [1, 5, 7, 8, 9, 10, 11, 47, 48, 49] [5, 7, 11] irLaw15ExecsReplies_L3 (mk [(1, .pv (.sl 7 (rqRows L))), (5, .ptr 5 0), (7, .ptr 7 0), (8, .pv z8), (9, .pv (.int .i64 (k : Nat))), (10, .pv z10), (11, .ptr 11 0), (47, .pv (.sl 5 O)), (48, .pv z48), (49, .pv z49)] [(5, .pagg z5), (7, .pagg z7), (11, .pagg (rpP q))]) Q := by
  intro l
  induction l with
  | nil =>
    intro k hd hk hsub Q hQ
    simp at hsub
  | cons r l ih =>
    intro k hd hk hsub Q hQ
    have hlt : k < L.length := by
      have := congrArg List.length hd
      simp at this
      omega
    have hr : L[k]? = some r := by
      have := congrArg (·[0]?) hd
      simpa using this
    have hd' : L.drop (k + 1) = l := by
      have := congrArg (List.drop 1) hd
      simpa [List.drop_drop, Nat.add_comm] using this
    have i1 : (k : Int) < (L.length : Int) := by omega
    have wk : IntKind.i64.wrap ((k : Int) + 1) = (k + 1 : Nat) := by rw [wrap_i64] <;> omega
    rw [List.map_cons] at hsub
    by_cases hkey : keyQ r = keyR q
    · have e1 : r.client = q.client := congrArg Prod.fst hkey
      have e2 : r.seq = q.seq := congrArg Prod.snd hkey
      have hs2 := sub_tail hsub
      rw [← hd'] at hs2
      refine LoopW.go irLaw15ExecsReplies_L3.eq_1 (by simp) ?_
      simp [-getElem?_pos, i1, hlt, rqRows_len, rqRows_get, hr, rq0, rq1, rp0, rp1, e1, e2]
      exact hQ k hlt hs2 _ _ _ _ _ _ _ _ _ _ _ _ _ _ _ _ _ _ _ _ _ _ _ _
    · have hn := ih (k + 1) hd' (by omega) (sub_other hsub hkey) Q hQ
      by_cases e1 : r.client = q.client
      · have e2 : ¬ r.seq = q.seq := fun h => hkey (by simp [keyQ, keyR, e1, h])
        refine LoopW.go irLaw15ExecsReplies_L3.eq_1 (by simp) ?_
        simp [-getElem?_pos, i1, hlt, rqRows_len, rqRows_get, hr, rq0, rq1, rp0, rp1, e1, e2, wk]
        exact hn
      · refine LoopW.go irLaw15ExecsReplies_L3.eq_1 (by simp) ?_
        simp [-getElem?_pos, i1, hlt, rqRows_len, rqRows_get, hr, rq0, rq1, rp0, rp1, e1, wk]
        exact hn
theorem rel4 (L : List Rp) (hL : L.length ≤ 1000000) (q : Rp) (z5 z7 : List PV) (z1 z8 z9 z47 z48 z49 : PV) : ∀ (l : List Rp) (k : Nat) (b : Bool), L.drop k = l → k ≤ L.length → ∀ (Q : Exit → S → Prop),
   (∀ a c d e, Q (.exit 6) (mk [(1, .pv z1), (5, .ptr 5 0), (7, .ptr 7 0), (8, .pv z8), (9, .pv z9), (11, .ptr 11 0), (12, .pv (.bool (b && l.all fun s => s.client != q.client))), (47, .pv z47), (48, .pv z48), (49, .pv z49), (107, a), (108, c), (109, d), (110, e)] [(5, .pagg z5), (7, .pagg z7), (11, .pagg (rpP q))])) →
   LoopW Try.prog [1, 5, 7, 8, 9, 11, 12, 47, 48, 49, 107, 108, 109] [5, 7, 11] irLaw15ExecsReplies_L4 (mk [(1, .pv z1), (5, .ptr 5 0), (7, .ptr 7 0), (8, .pv z8), (9, .pv z9), (11, .ptr 11 0), (12, .pv (.bool b)), (47, .pv z47), (48, .pv z48), (49, .pv z49), (107, .pv (.sl 5 (rpRows L))), (108, .pv (.int .i64 (L.length : Nat))), (109, .pv (.int .i64 (k : Nat)))] [(5, .pagg z5), (7, .pagg z7), (11, .pagg (rpP q))]) Q := by
  intro l
  induction l with
  | nil =>
    intro k b hd hk Q hQ
    have hk2 : k = L.length := by
      have := congrArg List.length hd
      simp at this
      omega
    subst hk2
    rw [List.all_nil, Bool.and_true] at hQ
    refine LoopW.go irLaw15ExecsReplies_L4.eq_1 (by simp) ?_
    simp
    exact hQ _ _ _ _
  | cons r l ih =>
    intro k b hd hk Q hQ
    have hlt : k < L.length := by
      have := congrArg List.length hd
      simp at this
      omega
    have hr : L[k]? = some r := by
      have := congrArg (·[0]?) hd
      simpa using this
    have hd' : L.drop (k + 1) = l := by
      have := congrArg (List.drop 1) hd
      simpa [List.drop_drop, Nat.add_comm] using this
    have i1 : (k : Int) < (L.length : Int) := by omega
    have wk : IntKind.i64.wrap ((k : Int) + 1) = (k + 1 : Nat) := by rw [wrap_i64] <;> omega
    rw [List.all_cons, ← Bool.and_assoc] at hQ
    have hn := ih (k + 1) (b && r.client != q.client) hd' (by omega) Q hQ
    cases b
    · rw [Bool.false_and] at hn
      refine LoopW.go irLaw15ExecsReplies_L4.eq_1 (by simp) ?_
      simp [-getElem?_pos, i1, hlt, rpRows_len, rpRows_get, hr, rpP_len, wk]
      exact hn
    · rw [Bool.true_and] at hn
      by_cases e : r.client = q.client
      · have e' : (r.client != q.client) = false := by simp [e]
        rw [e'] at hn
        refine LoopW.go irLaw15ExecsReplies_L4.eq_1 (by simp) ?_
        simp [-getElem?_pos, i1, hlt, rpRows_len, rpRows_get, hr, rpP_len, rp0, e, wk]
        exact hn
      · have e' : (r.client != q.client) = true := by simp [e]
        rw [e'] at hn
        refine LoopW.go irLaw15ExecsReplies_L4.eq_1 (by simp) ?_
        simp [-getElem?_pos, i1, hlt, rpRows_len, rpRows_get, hr, rpP_len, rp0, e, e', wk]
        exact hn
theorem last_seq {w : Wd} {k : Nat} (h : w.last.length = 6) (hk : k < 6) : ∃ r, w.last[k]? = some r ∧ lastSeq w (k : Int) = r.seq :=
  ⟨w.last[k], List.getElem?_eq_getElem (by omega), lastSeq_at (List.getElem?_eq_getElem (by omega))⟩
theorem wP_rp {w : Wd} (h : WOk w) {k : Nat} {r : Rp} (hr : w.last[k]? = some r) : ((wP w).drop (38 + k * 5)).take 5 = rpP r := by
  obtain ⟨A, C, h1, h2, _⟩ := wP_last h hr
  rw [h1]
  exact mid_part h2 (rpP_len r)
set_option maxRecDepth 100000 in
set_option maxHeartbeats 4000000 in
theorem rel2 (R : List Rq) (hR : R.length ≤ 1000000) (W X : Wd) (hW : WOk W) (hX : WOk X) (L : List Rp) (hL : L.length ≤ 1000000)
   (h1 : ∀ q ∈ L, q.slot = X.slot ∧ lastSeq W q.client < q.seq ∧ 0 ≤ q.client ∧ q.client < 6) (h2 : ∀ A q B, L = A ++ q :: B → (∀ s ∈ B, s.client ≠ q.client) → X.last[q.client.toNat]? = some q) :
   ∀ (l : List Rp) (k m : Nat), L.drop k = l → k ≤ L.length → m ≤ R.length → (l.map keyR).Sublist ((R.drop m).map keyQ) → ∀ (Q : Exit → S → Prop),
   (∀ a b c d e, Q (.exit 2) (mk [(1, .pv (.sl 7 (rqRows R))), (5, .ptr 5 0), (7, .ptr 7 0), (8, .pv (.sl 5 (rpRows L))), (9, a), (47, b), (48, c), (49, d), (50, e)] [(5, .pagg (wP W)), (7, .pagg (wP X))])) →
   LoopW Try.prog [1, 5, 7, 8, 9, 47, 48, 49] [5, 7] irLaw15ExecsReplies_L2 (mk [(1, .pv (.sl 7 (rqRows R))), (5, .ptr 5 0), (7, .ptr 7 0), (8, .pv (.sl 5 (rpRows L))), (9, .pv (.int .i64 (m : Nat))), (47, .pv (.sl 5 (rpRows L))), (48, .pv (.int .i64 (L.length : Nat))), (49, .pv (.int .i64 (k : Nat)))] [(5, .pagg (wP W)), (7, .pagg (wP X))]) Q := by
  intro l
  induction l with
  | nil =>
    intro k m hd hk hm hsub Q hQ
    have hk2 : k = L.length := by
      have := congrArg List.length hd
      simp at this
      omega
    subst hk2
    refine LoopW.go irLaw15ExecsReplies_L2.eq_1 (by simp) ?_
    simp
    exact hQ _ _ _ _ _
  | cons r l ih =>
    intro k m hd hk hm hsub Q hQ
    have hlt : k < L.length := by
      have := congrArg List.length hd
      simp at this
      omega
    have hr : L[k]? = some r := by
      have := congrArg (·[0]?) hd
      simpa using this
    have hd' : L.drop (k + 1) = l := by
      have := congrArg (List.drop 1) hd
      simpa [List.drop_drop, Nat.add_comm] using this
    have i1 : (k : Int) < (L.length : Int) := by omega
    have wk : IntKind.i64.wrap ((k : Int) + 1) = (k + 1 : Nat) := by rw [wrap_i64] <;> omega
    obtain ⟨s1, s2, s3, s4⟩ := h1 r (List.mem_of_getElem? hr)
    obtain ⟨c, hc⟩ : ∃ c : Nat, r.client = c := ⟨r.client.toNat, by omega⟩
    have hc6 : c < 6 := by omega
    have hc6' : (c : Int) < 6 := by omega
    obtain ⟨x, hx, hxs⟩ := last_seq hW.ll hc6
    rw [hc, hxs] at s2
    have hnle : ¬ r.seq ≤ x.seq := by omega
    have g1 := wP_seq hW hx
    have hwl := wP_len hW
    have hwl2 := wP_len hX
    have hb : 38 + c * 5 + 1 < 68 := by omega
    have hb5 : 38 + c * 5 + 5 ≤ 68 := by omega
    have g2 := wP_slot X
    have hsplit : L = L.take k ++ r :: l := by rw [← hd, List.take_append_drop]
    have hll := congrArg List.length hsplit
    rw [List.length_append, List.length_take, List.length_cons] at hll
    have h4 := rel4 l (by omega) r (wP W) (wP X) (.sl 7 (rqRows R)) (.sl 5 (rpRows L))
    rw [List.map_cons] at hsub
    refine LoopW.go irLaw15ExecsReplies_L2.eq_1 (by simp) ?_
    simp [-getElem?_pos, i1, hlt, rpRows_len, rpRows_get, hr, rpP_len]
    refine rel3 R hR r (l.map keyR) (wP W) (wP X) (rpRows L) _ _ _ _ (R.drop m) m rfl hm hsub _ fun k' hk' hs' => ?_
    intro t54 t55 t56 t57 t58 t59 t60 t61 t62 t63 t64 t65 t66 t67 t68 t69 t70 t71 t72 t73 t74 t75 t76 t77
    have wk' : IntKind.i64.wrap ((k' : Int) + 1) = (k' + 1 : Nat) := by rw [wrap_i64] <;> omega
    have hne : ¬ (k' : Int) = (R.length : Int) := by omega
    have hne' : ¬ k' = R.length := by omega
    have hn := ih (k + 1) (k' + 1) hd' (by omega) (by omega) hs' Q hQ
    have i5 : (k : Int) + 1 ≤ (L.length : Int) := by omega
    have i6 : k + 1 ≤ L.length := by omega
    have htd : List.drop (k + 1) (List.take L.length (rpRows L)) = rpRows l := by rw [List.take_of_length_le (by rw [rpRows_len]; omega), rpRows_drop, hd']
    have hlen2 : L.length - (k + 1) = l.length := by omega
    simp [-getElem?_pos, rqRows_len, hne, hne', rp0, rp1, rp2, s1, g2, hc, hc6, hc6', g1, hnle, hwl, hwl2, hb, wk, wk', rpRows_len, i5, i6, htd, hlen2]
    refine h4 _ _ _ _ l 0 true rfl (Nat.zero_le _) _ fun a b d e => ?_
    rw [Bool.true_and]
    cases hall : l.all fun s => s.client != r.client
    · simp [-getElem?_pos, wk]
      exact hn
    · have hlast := h2 (L.take k) r l hsplit (fun s hs => by
        have := List.all_eq_true.1 hall s hs
        simpa using this)
      rw [hc, Int.toNat_natCast] at hlast
      have g3 := wP_rp hX hlast
      have q1 := rpP_ck r
      have q2 := eqPVs_refl q1
      simp [-getElem?_pos, rp0, hc, hc6, hc6', hwl2, hb5, g3, q1, q2, rpP_len, wk]
      exact hn
set_option maxHeartbeats 4000000 in
theorem lawReplies_c (L : List (List Rq)) (l : List Rq) (hL : L.length ≤ maxLen) (hl : l.length ≤ maxLen) : ACall Try.prog 6 [.pv (.sl 1 (bRows L)), .pv (.sl 7 (rqRows l))] [] (.pv (.bool true)) [] [] := by
  refine ACall.fn (fn := Try.f6) rfl okLaw15ExecsReplies rfl (by simp) ?_
  simp only [argT, irLaw15ExecsReplies.eq_1]
  have cl := long_c L
  simp
  refine CallG.go wakes_c ?_
  simp
  refine CallG.go cl ?_
  cases hlong : longF L
  · by_cases h10 : 10 < l.length
    · have h10' : (10 : Int) < (l.length : Int) := by omega
      simp [rqRows_len, h10, h10']
    · have h10' : ¬ (10 : Int) < (l.length : Int) := by omega
      have hlen : L.length ≤ 30 ∧ ∀ l ∈ L, l.length ≤ 10 := by
        simp only [longF, Bool.or_eq_false_iff, decide_eq_false_iff_not, List.any_eq_false] at hlong
        refine ⟨by omega, fun l hl => ?_⟩
        have := hlong.2 l hl
        simp at this
        omega
      have c1 := first_c (0, 15)
      have hok := firstF_ok (0, 15) (by decide)
      have hl0 := wP_len hok
      have hlp := rel1 L (by omega) hlen.2 l L 0 rfl (Nat.zero_le _) (firstF (0, 15)) hok
      have hok1 := worlds_ok hok L
      have hl1 := wP_len hok1
      have c2 := execs_c (worldsF (firstF (0, 15)) L) hok1 l (by omega)
      have hok2 := execF_ok hok1 l
      have hl2 := wP_len hok2
      obtain ⟨o1, o2, o3⟩ := exec_out (worldsF (firstF (0, 15)) L) l hok1.ll
      have hol := execF_out (worldsF (firstF (0, 15)) L) l
      have h2 := rel2 l (by omega) (worldsF (firstF (0, 15)) L) (execF (worldsF (firstF (0, 15)) L) l).1 hok1 hok2 (execF (worldsF (firstF (0, 15)) L) l).2 (by omega) o2 o3 _ 0 0 rfl (Nat.zero_le _) (Nat.zero_le _) o1
      generalize (execF (worldsF (firstF (0, 15)) L) l).2 = out at *
      generalize (execF (worldsF (firstF (0, 15)) L) l).1 = x at *
      generalize worldsF (firstF (0, 15)) L = w at *
      generalize firstF (0, 15) = x0 at *
      have hle : (out.length : Int) ≤ (l.length : Int) := by omega
      simp only [vwP] at c1
      simp [rqRows_len, h10, h10']
      refine CallG.go c1 ?_
      simp [-getElem?_pos, hl0, bRows_len]
      refine hlp _ fun a b c d => ?_
      simp [-getElem?_pos, hl1]
      refine CallG.go c2 ?_
      simp [-getElem?_pos, hl1, hl2, rpRows_len]
      refine h2 _ fun a b c d e => ?_
      simp [-getElem?_pos, rpRows_len, rqRows_len, hle]
  · simp
theorem walkExecsReplies (a1 : Option Addr) (l1 c1 : Nat) (a0 : Option Addr) (l0 c0 : Nat) (w : World) (k1 : Shp.Reads w (.slice (.slice shQ)) [.slice a1 l1 c1]) (k0 : Shp.Reads w (.slice shQ) [.slice a0 l0 c0]) :
     Calls Try.prog 6 #[.slice a1 l1 c1, .slice a0 l0 c0] w fun e w' => e = .returned (.bool true) ∧ Below w.heap.size w w' := by
  obtain ⟨l, q0, g0⟩ := arg_batch k0
  obtain ⟨L, q1, g4, _⟩ := arg_batches k1
  refine lawCalls (lawReplies_c L l g4 g0) rfl fun i v av hv ha => ?_
  match i with
  | 0 => cases hv; cases ha; exact q1
  | 1 => cases hv; cases ha; exact q0
  | n + 2 => simp at hv
end Go.Proofs.Ytdbbbaaopngbcaa
