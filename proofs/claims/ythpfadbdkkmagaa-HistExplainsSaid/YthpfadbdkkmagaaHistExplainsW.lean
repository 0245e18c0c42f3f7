/- The law HistExplains. -/
import Derived.Test.YthpfadbdkkmagaaHistG
set_option linter.unusedVariables false
set_option linter.unusedSimpArgs false
namespace Go.Proofs.Ythpfadbdkkmagaa
open Go.Abs Go.RowKit Go.Ours

theorem rallDl (l : List Ev) (ll : l.length ≤ 12) (L : List Nat) (hL : L.length ≤ 5000) : ∀ (n k : Nat), k + n = l.length → (∀ (j : Nat) e, j < k → l[j]? = some e → e.dn = true → (mkM L).testBit j = true) → ∀ (Q : Exit → S → Prop),
    (allD l (mkM L) → ∀ a b c d f g h, Q (.exit 2) (mk [(1, a), (7, b), (12, c), (57, d), (58, f), (59, g), (60, h)] [])) →
    (¬ allD l (mkM L) → Q .ret (mk [(6, .pv (.bool false))] [])) →
    LoopW Try.prog [1, 7, 12] [] irRef26Explains_L2 (mk [(1, .pv (.sl 9 (evs l))), (7, .os 3 1 (krows .i64 L)), (12, .pv (.int .i64 (k : Nat)))] []) Q := by
  intro n
  induction n with
  | zero =>
    intro k hk hq Q h1 h2
    obtain rfl : k = l.length := by omega
    refine LoopW.go irRef26Explains_L2.eq_1 (by simp) ?_
    have h := h1 (fun i e he hd => hq i e (List.getElem?_eq_some_iff.1 he).1 he hd)
    simp [evs_length] at h ⊢
    exact h _ _ _ _ _ _ _
  | succ n ih =>
    intro k hk hq Q h1 h2
    have i1 : k < l.length := by omega
    obtain ⟨e, he⟩ : ∃ e, l[k]? = some e := ⟨_, List.getElem?_eq_getElem (by omega)⟩
    have w : IntKind.i64.wrap ((k : Int) + 1) = (k + 1 : Nat) := by rw [wrap_i64] <;> omega
    have c1 := in_c L k hL
    have hb := mkM_bit L k
    have ih' := fun hn => ih (k + 1) (by omega) hn Q h1 h2
    have hst : (e.dn = true → (mkM L).testBit k = true) → ∀ (j : Nat) e, j < k + 1 → l[j]? = some e → e.dn = true → (mkM L).testBit j = true := fun h j y hj hy hd => by
      by_cases hjk : j = k
      · subst hjk
        rw [he] at hy
        cases hy
        exact h hd
      · exact hq j y (by omega) hy hd
    refine LoopW.go irRef26Explains_L2.eq_1 (by simp) ?_
    cases hdn : e.dn
    · have f := ih' (hst fun h => by rw [hdn] at h; cases h)
      simp at f
      simp [-getElem?_pos, i1, evs_get, evs_length, he, evP, hdn, w]
      exact f
    · by_cases hin : k ∈ L
      · rw [decide_eq_true hin] at c1 hb
        have f := ih' (hst fun _ => hb)
        simp at f
        simp [-getElem?_pos, i1, evs_get, evs_length, he, evP, hdn]
        refine CallG.go c1 ?_
        simp [w]
        exact f
      · rw [decide_eq_false hin] at c1 hb
        simp [-getElem?_pos, i1, evs_get, evs_length, he, evP, hdn]
        refine CallG.go c1 ?_
        simp
        exact h2 fun h => by
          have := h k e he hdn
          rw [hb] at this; cases this
theorem rexpl (l : List Ev) (ll : l.length ≤ 12) (o : List Int) (lo : o.length ≤ 20) : ∀ (n k : Nat) (L : List Nat) (c : List Cl), k + n = o.length → L.length ≤ k → c.length = 16 →
    ∃ (r : Option (List Nat × List Cl)), (r = none → ¬ ExplP l (o.drop k) (mkM L) c) ∧ (∀ L' c', r = some (L', c') → L'.length ≤ 20 ∧ (ExplP l (o.drop k) (mkM L) c ↔ allD l (mkM L'))) ∧ ∀ (Q : Exit → S → Prop),
    (∀ L' c', r = some (L', c') → ∀ a b d e f g h i, Q (.exit 0) (mk [(1, .pv (.sl 9 (evs l))), (2, a), (3, b), (7, .os 3 1 (krows .i64 L')), (8, d), (13, e), (14, f), (15, g), (16, h)] [(3, i)])) →
    (r = none → Q .ret (mk [(6, .pv (.bool false))] [])) →
    LoopW Try.prog [1, 2, 3, 7, 8] [3] irRef26Explains_L1 (mk [(1, .pv (.sl 9 (evs l))), (2, .pv (.sl 1 (irows o))), (3, .ptr 3 0), (7, .os 3 1 (krows .i64 L)), (8, .pv (.int .i64 (k : Nat)))] [(3, .pagg (cellsP c))]) Q := by
  intro n
  induction n with
  | zero =>
    intro k L c hk hLk hc
    obtain rfl : k = o.length := by omega
    refine ⟨some (L, c), by simp, fun L' c' h => ?_, fun Q h1 h2 => ?_⟩
    · cases h
      exact ⟨by omega, by rw [List.drop_length]; exact Iff.rfl⟩
    · refine LoopW.go irRef26Explains_L1.eq_1 (by simp) ?_
      have h := h1 L c rfl
      simp [irows_length] at h ⊢
      exact h _ _ _ _ _ _ _ _
  | succ n ih =>
    intro k L c hk hLk hc
    have i1 : k < o.length := by omega
    obtain ⟨i, hi⟩ : ∃ i, o[k]? = some i := ⟨_, List.getElem?_eq_getElem (by omega)⟩
    have w : IntKind.i64.wrap ((k : Int) + 1) = (k + 1 : Nat) := by rw [wrap_i64] <;> omega
    have hd : o.drop k = i :: o.drop (k + 1) := by
      rw [List.drop_eq_getElem_cons i1]
      rw [List.getElem?_eq_getElem i1] at hi
      simp only [Option.some.injEq] at hi
      rw [hi]
    rw [hd]
    have hcl : (cellsP c).length = 32 := by rw [cellsP_len, hc]
    have ht32 := cellsP_take32 hc
    have hll : L.length ≤ 99999999999 := by omega
    obtain ⟨b, c1, hb⟩ := rmay_c l ll L (by omega) i
    cases b
    · refine ⟨none, (fun _ h => ?_), by simp, fun Q h1 h2 => ?_⟩
      · obtain ⟨q0, e, he, q1, _⟩ := h
        have := (List.getElem?_eq_some_iff.1 he).1
        have := hb.2 ⟨q0, by omega, q1⟩
        cases this
      · refine LoopW.go irRef26Explains_L1.eq_1 (by simp) ?_
        simp [-getElem?_pos, i1, irows_get, irows_length, hi]
        refine CallG.go c1 ?_
        simp
        exact h2 rfl
    · obtain ⟨h0, hl, hmay⟩ := hb.1 rfl
      obtain ⟨j, rfl⟩ : ∃ j : Nat, i = j := ⟨i.toNat, by omega⟩
      rw [Int.toNat_natCast] at hmay
      have hj : j < l.length := by omega
      obtain ⟨e, he⟩ : ∃ e, l[j]? = some e := ⟨_, List.getElem?_eq_getElem hj⟩
      have hE : ExplP l ((j : Int) :: o.drop (k + 1)) (mkM L) c ↔ okE c e ∧ ExplP l (o.drop (k + 1)) (mkM (L ++ [j])) (doE c e).1 := by
        rw [mkM_append]
        simp only [ExplP, Int.toNat_natCast]
        constructor
        · rintro ⟨_, e', he', q1, q2, q3⟩
          rw [he] at he'
          cases he'
          exact ⟨q2, q3⟩
        · rintro ⟨q2, q3⟩
          exact ⟨by omega, e, he, hmay, q2, q3⟩
      rw [hE]
      have c2 := refDo_c c hc e.kd e.ky e.a e.b
      have hdl : (doE c e).1.length = 16 := by rw [doE_len, hc]
      have hd32 := cellsP_take32 hdl
      have hdc : (cellsP (doE c e).1).length = 32 := by rw [cellsP_len, hdl]
      have hdE : doG c e.kd e.ky e.a e.b = doE c e := rfl
      rw [hdE] at c2
      have hok : okE c e ↔ (e.dn = true → (doE c e).2 = e.rs) := Iff.rfl
      obtain ⟨r, g1, g2, g3⟩ := ih (k + 1) (L ++ [j]) (doE c e).1 (by omega) (by simp; omega) hdl
      generalize (doE c e).1 = E1 at *
      generalize (doE c e).2 = E2 at *
      simp [opP] at c2
      simp only [← krows_one] at g3
      obtain ⟨x1, x2⟩ := E2
      have go1 : okE c e → (∃ (r : Option (List Nat × List Cl)), (r = none → ¬ (okE c e ∧ ExplP l (o.drop (k + 1)) (mkM (L ++ [j])) E1)) ∧ (∀ L' c', r = some (L', c') → L'.length ≤ 20 ∧ (okE c e ∧ ExplP l (o.drop (k + 1)) (mkM (L ++ [j])) E1 ↔ allD l (mkM L'))) ∧ ∀ (Q : Exit → S → Prop),
          (∀ L' c', r = some (L', c') → ∀ a b d e f g h i, Q (.exit 0) (mk [(1, .pv (.sl 9 (evs l))), (2, a), (3, b), (7, .os 3 1 (krows .i64 L')), (8, d), (13, e), (14, f), (15, g), (16, h)] [(3, i)])) →
          (r = none → Q .ret (mk [(6, .pv (.bool false))] [])) →
          LoopW Try.prog [1, 2, 3, 7, 8] [3] irRef26Explains_L1 (mk [(1, .pv (.sl 9 (evs l))), (2, .pv (.sl 1 (irows o))), (3, .ptr 3 0), (7, .os 3 1 (krows .i64 L)), (8, .pv (.int .i64 (k : Nat)))] [(3, .pagg (cellsP c))]) Q) := fun ho => by
        refine ⟨r, fun h q => g1 h q.2, fun L' c' h => ⟨(g2 L' c' h).1, by rw [← (g2 L' c' h).2]; simp [ho]⟩, fun Q h1 h2 => ?_⟩
        have f := g3 Q h1 h2
        simp at f
        refine LoopW.go irRef26Explains_L1.eq_1 (by simp) ?_
        simp [-getElem?_pos, i1, irows_get, irows_length, hi]
        refine CallG.go c1 ?_
        simp [-getElem?_pos, hcl, ht32, evs_get, evs_length, he, hj, evP]
        refine CallG.go c2 ?_
        cases hdn : e.dn
        · simp [-getElem?_pos, clP, hdn, ht32, hd32, hcl, hdc, evs_get, evs_length, he, hj, evP, krows_length, hll, w]
          exact f
        · have hrs := hok.1 ho hdn
          simp [-getElem?_pos, ← hrs, clP, ckAll, ckOne, eqPVs, eqPV, hdn, ht32, hd32, hcl, hdc, evs_get, evs_length, he, hj, evP, krows_length, hll, w]
          exact f
      cases hdn : e.dn
      · exact go1 fun h => by rw [hdn] at h; cases h
      · by_cases hrs : (x1, x2) = e.rs
        · exact go1 (hok.2 fun _ => hrs)
        · have hne : eqPVs [.bool x1, .int .i64 x2] [.bool e.rs.1, .int .i64 e.rs.2] = false := by
            have := clP_eq (x1, x2) e.rs
            simp only [clP] at this
            rw [this]
            simpa using hrs
          refine ⟨none, fun _ h => hrs (hok.1 h.1 hdn), by simp, fun Q h1 h2 => ?_⟩
          refine LoopW.go irRef26Explains_L1.eq_1 (by simp) ?_
          simp [-getElem?_pos, i1, irows_get, irows_length, hi]
          refine CallG.go c1 ?_
          simp [-getElem?_pos, hcl, ht32, evs_get, evs_length, he, hj, evP]
          refine CallG.go c2 ?_
          simp [-getElem?_pos, clP, ckAll, ckOne, hne, hdn, ht32, hd32, hcl, hdc, evs_get, evs_length, he, hj, evP]
          exact h2 rfl
theorem rexplains_c (l : List Ev) (c : List Cl) (hc : c.length = 16) (ll : l.length ≤ 12) (o : List Int) (lo : o.length ≤ 20) : ∃ b, ACall Try.prog 14 [.pagg (cellsP c), .pv (.sl 9 (evs l)), .pv (.sl 1 (irows o))] [] (.pv (.bool b)) [] [] ∧ (b = true ↔ ExplP l o 0 c) := by
  obtain ⟨r, g1, g2, g3⟩ := rexpl l ll o lo o.length 0 [] c (by omega) (by simp) hc
  rw [List.drop_zero] at g1 g2
  have m0 : mkM [] = 0 := rfl
  rw [m0] at g1 g2
  simp [krows] at g3
  cases r with
  | none =>
    refine ⟨false, ?_, by simp [g1 rfl]⟩
    refine ACall.fn (fn := Try.f14) rfl okRef26Explains rfl (by simp) ?_
    simp only [argT, irRef26Explains.eq_1]
    simp
    refine g3 _ (fun L' c' h => by cases h) (fun _ => ?_)
    simp
  | some p =>
    obtain ⟨L, d⟩ := p
    obtain ⟨hL, hiff⟩ := g2 L d rfl
    have lp := rallDl l ll L (by omega) l.length 0 (by omega) (fun j e h => by omega)
    simp at lp
    by_cases hd : allD l (mkM L)
    · refine ⟨true, ?_, by rw [hiff]; simp [hd]⟩
      refine ACall.fn (fn := Try.f14) rfl okRef26Explains rfl (by simp) ?_
      simp only [argT, irRef26Explains.eq_1]
      simp
      refine g3 _ (fun L' c' h a b d e f g h i => ?_) (fun h => by cases h)
      rename_i hh
      cases hh
      simp
      refine lp _ (fun _ a b c d f g h => ?_) (fun h => absurd hd h)
      simp
    · refine ⟨false, ?_, by rw [hiff]; simp [hd]⟩
      refine ACall.fn (fn := Try.f14) rfl okRef26Explains rfl (by simp) ?_
      simp only [argT, irRef26Explains.eq_1]
      simp
      refine g3 _ (fun L' c' h a b d e f g h i => ?_) (fun h => by cases h)
      rename_i hh
      cases hh
      simp
      refine lp _ (fun h a b c d f g h' => absurd h hd) (fun _ => ?_)
      simp
theorem lawExplains_c (c : List Cl) (hc : c.length = 16) (l : List Ev) (o : List Int) : ACall Try.prog 8 [.pagg (cellsP c), .pv (.sl 9 (evs l)), .pv (.sl 1 (irows o))] [] (.pv (.bool true)) [] [] := by
  refine ACall.fn (fn := Try.f8) rfl okLaw26HistExplains rfl (by simp) ?_
  simp only [argT, irLaw26HistExplains.eq_1]
  have hcl : (cellsP c).length = 32 := by rw [cellsP_len, hc]
  have ht32 := cellsP_take32 hc
  simp
  refine CallG.go wakes_c ?_
  by_cases h1 : 12 < l.length
  · have h1' : (12 : Int) < (l.length : Int) := by omega
    simp [evs_length, h1, h1']
  · have h1' : ¬ (12 : Int) < (l.length : Int) := by omega
    by_cases h2 : 20 < o.length
    · have h2' : (20 : Int) < (o.length : Int) := by omega
      simp [evs_length, irows_length, h1, h1', h2, h2']
    · have h2' : ¬ (20 : Int) < (o.length : Int) := by omega
      obtain ⟨b1, c1, g1⟩ := explains_c l c hc (by omega) o (by omega)
      obtain ⟨b2, c2, g2⟩ := rexplains_c l c hc (by omega) o (by omega)
      obtain ⟨b3, c3, g3⟩ := linear_c l c hc (by omega)
      have e : b1 = b2 := by rw [Bool.eq_iff_iff, g1, g2]
      subst e
      simp [evs_length, irows_length, h1, h1', h2, h2', hcl, ht32]
      refine CallG.go c1 ?_
      simp [hcl, ht32]
      refine CallG.go c2 ?_
      cases b1
      · simp
      · simp [hcl, ht32]
        refine CallG.go c3 ?_
        have hlin := (g1.1 rfl).lin
        by_cases hr : l.all rightE = true
        · have he : linE l = 0 := by rw [linE, if_neg h1, if_pos hr]
          have hb : b3 = true := g3.2 ⟨he, hlin⟩
          subst hb
          simp
        · have he : linE l = 15 := by rw [linE, if_neg h1, if_neg hr]
          cases b3
          · simp [he]
          · simp
theorem walkHistExplains (c0 : Array Value) (a1 : Option Addr) (l1 c1 : Nat) (a2 : Option Addr) (l2 c2 : Nat) (w : World) (k0 : Shp.Reads w (.arr 16 shC) c0.toList) (k1 : Shp.Reads w (.slice shE) [.slice a1 l1 c1]) (k2 : Shp.Reads w (.slice (.int .i64)) [.slice a2 l2 c2]) :
     Calls Try.prog 8 #[.agg c0, .slice a1 l1 c1, .slice a2 l2 c2] w fun e w' => e = .returned (.bool true) ∧ Below w.heap.size w w' := by
  obtain ⟨C, q0, hC⟩ := arg_cells k0
  obtain ⟨l, q1, hl⟩ := arg_evs k1
  obtain ⟨o, q2, ho⟩ := arg_ints k2
  refine lawCalls (lawExplains_c C hC l o) rfl fun i v av hv ha => ?_
  match i with
  | 0 => cases hv; cases ha; exact q0
  | 1 => cases hv; cases ha; exact q1
  | 2 => cases hv; cases ha; exact q2
  | n + 3 => simp at hv
end Go.Proofs.Ythpfadbdkkmagaa
