/- Contracts of consistoryref26: in, May, from, Linear, Explains. No condition. -/
import Derived.Test.YthpfadbdkkmagaaHistE
set_option linter.unusedVariables false
set_option linter.unusedSimpArgs false
namespace Go.Proofs.Ythpfadbdkkmagaa
open Go.Abs Go.RowKit Go.Ours

/-- The mask of a list of places. -/
def mkM (L : List Nat) : Nat := L.foldl (fun t i => t ||| 2 ^ i) 0
theorem mkM_append (L : List Nat) (i : Nat) : mkM (L ++ [i]) = mkM L ||| 2 ^ i := by simp [mkM]
theorem mkF_bit (i : Nat) : ∀ (L : List Nat) (t : Nat), (L.foldl (fun t i => t ||| 2 ^ i) t).testBit i = (t.testBit i || decide (i ∈ L))
  | [], t => by simp
  | x :: L, t => by
    rw [List.foldl_cons, mkF_bit i L, or_bit]
    have e : decide (x = i) = decide (i = x) := by rw [decide_eq_decide]; exact eq_comm
    rw [e]
    simp only [List.mem_cons, Bool.decide_or, Bool.or_assoc]
theorem mkM_bit (L : List Nat) (i : Nat) : (mkM L).testBit i = decide (i ∈ L) := by
  rw [mkM, mkF_bit]; simp
theorem inl (L : List Nat) (i : Nat) (hL : L.length ≤ 5000) : ∀ (l : List Nat) (k : Nat), L.drop k = l → k ≤ L.length → ∀ (Q : Exit → S → Prop),
   (i ∉ l → ∀ a b c d e f, Q (.exit 0) (mk [(0, a), (1, b), (5, c), (6, d), (7, e), (8, f), (9, .pv (.bool false))] [])) →
   (i ∈ l → Q .ret (mk [(4, .pv (.bool true))] [])) →
   LoopW Try.prog [0, 1, 5] [] irRef26In_L1 (mk [(0, .pv (.sl 1 (krows .i64 L))), (1, .pv (.int .i64 (i : Nat))), (5, .pv (.int .i64 (k : Nat)))] []) Q := by
  intro l
  induction l with
  | nil =>
    intro k hd hk Q hQ _
    have hk2 : k = L.length := by
      have := congrArg List.length hd
      simp at this
      omega
    subst hk2
    refine LoopW.go irRef26In_L1.eq_1 (by simp) ?_
    simp [krows_length]
    exact hQ (by simp) _ _ _ _ _ _
  | cons r l ih =>
    intro k hd hk Q hQ hQ2
    have hlt : k < L.length := by
      have := congrArg List.length hd
      simp at this
      omega
    have hr : L[k]? = some r := by
      have := congrArg (·[0]?) hd
      simpa using this
    have hd' : L.drop (k + 1) = l := by
      have := congrArg (List.drop 1) hd
      simpa [List.drop_drop, Nat.add_comm] using this
    have i1 : (k : Int) < (L.length : Int) := by omega
    have wk : IntKind.i64.wrap ((k : Int) + 1) = (k + 1 : Nat) := by rw [wrap_i64] <;> omega
    by_cases h : r = i
    · subst h
      refine LoopW.go irRef26In_L1.eq_1 (by simp) ?_
      simp [-getElem?_pos, i1, hlt, krows_length, krows_get, hr]
      exact hQ2 (by simp)
    · have h' : ¬ i = r := fun e => h e.symm
      have hn := ih (k + 1) hd' (by omega) Q (fun hh => hQ (by simp only [List.mem_cons, h', false_or]; exact hh)) (fun hh => hQ2 (by simp only [List.mem_cons, h', false_or]; exact hh))
      refine LoopW.go irRef26In_L1.eq_1 (by simp) ?_
      simp [-getElem?_pos, i1, hlt, krows_length, krows_get, hr, h, wk]
      exact hn
theorem in_c (L : List Nat) (i : Nat) (hL : L.length ≤ 5000) : ACall Try.prog 22 [.pv (.sl 1 (krows .i64 L)), .pv (.int .i64 (i : Nat))] [] (.pv (.bool (decide (i ∈ L)))) [] [] := by
  refine ACall.fn (fn := Try.f22) rfl okRef26In rfl (by simp) ?_
  simp only [argT, irRef26In.eq_1]
  simp
  have lp := inl L i hL L 0 rfl (Nat.zero_le _)
  simp at lp
  refine lp _ (fun hh a b c d e f => ?_) (fun hh => ?_)
  · simp [hh]
  · simp [hh]
theorem rmayl (l : List Ev) (ll : l.length ≤ 12) (L : List Nat) (hL : L.length ≤ 5000) (i : Nat) (e : Ev) (he : l[i]? = some e) :
    ∀ (n k : Nat), k + n = l.length → mayQ l (mkM L) i e k → ∀ (Q : Exit → S → Prop),
    (mayQ l (mkM L) i e l.length → ∀ a b c d f g h, Q (.exit 0) (mk [(0, a), (1, b), (2, c), (7, d), (21, f), (22, g), (23, h), (24, .pv (.bool false))] [])) →
    ((∃ (j : Nat) (x : Ev), l[j]? = some x ∧ j ≠ i ∧ (mkM L).testBit j = false ∧ aheadB x e = true) → Q .ret (mk [(6, .pv (.bool false))] [])) →
    LoopW Try.prog [0, 1, 2, 7] [] irRef26May_L1 (mk [(0, .pv (.sl 9 (evs l))), (1, .pv (.sl 1 (krows .i64 L))), (2, .pv (.int .i64 (i : Nat))), (7, .pv (.int .i64 (k : Nat)))] []) Q := by
  intro n
  induction n with
  | zero =>
    intro k hk' hq Q h1 h2
    obtain rfl : k = l.length := by omega
    refine LoopW.go irRef26May_L1.eq_1 (by simp) ?_
    simp [evs_length]
    exact h1 hq _ _ _ _ _ _ _
  | succ n ih =>
    intro k hk' hq Q h1 h2
    have i1 : k < l.length := by omega
    have i2 : i < l.length := (List.getElem?_eq_some_iff.1 he).1
    obtain ⟨x, hx⟩ : ∃ x, l[k]? = some x := ⟨_, List.getElem?_eq_getElem (by omega)⟩
    have w : IntKind.i64.wrap ((k : Int) + 1) = (k + 1 : Nat) := by rw [wrap_i64] <;> omega
    have c := in_c L k hL
    have hb := mkM_bit L k
    refine LoopW.go irRef26May_L1.eq_1 (by simp) ?_
    by_cases hki : k = i
    · have ih' := ih (k + 1) (by omega) (mayQ_step hq hx fun h => absurd hki h) Q h1 h2
      subst hki
      simp at ih'
      simp [-getElem?_pos, i1, evs_length, w]
      exact ih'
    · by_cases hin : k ∈ L
      · rw [decide_eq_true hin] at c hb
        have ih' := ih (k + 1) (by omega) (mayQ_step hq hx fun _ h => by rw [hb] at h; cases h) Q h1 h2
        simp at ih'
        simp [-getElem?_pos, i1, evs_length, hki]
        refine CallG.go c ?_
        simp [w]
        exact ih'
      · rw [decide_eq_false hin] at c hb
        cases hdn : x.dn
        · have ih' := ih (k + 1) (by omega) (mayQ_step hq hx fun _ _ => by simp [aheadB, hdn]) Q h1 h2
          simp at ih'
          simp [-getElem?_pos, i1, evs_length, hki]
          refine CallG.go c ?_
          simp [-getElem?_pos, i1, evs_length, evs_get, hx, evP, hdn, w]
          exact ih'
        · by_cases hlt : x.en < e.bg
          · simp [-getElem?_pos, i1, evs_length, hki]
            refine CallG.go c ?_
            simp [-getElem?_pos, i1, i2, evs_length, evs_get, hx, he, evP, hdn, hlt]
            exact h2 ⟨k, x, hx, hki, hb, by simp [aheadB, hdn, hlt]⟩
          · have ih' := ih (k + 1) (by omega) (mayQ_step hq hx fun _ _ => by simp [aheadB, hdn]; omega) Q h1 h2
            simp at ih'
            simp [-getElem?_pos, i1, evs_length, hki]
            refine CallG.go c ?_
            simp [-getElem?_pos, i1, i2, evs_length, evs_get, hx, he, evP, hdn, hlt, w]
            exact ih'
theorem rmay_c (l : List Ev) (ll : l.length ≤ 12) (L : List Nat) (hL : L.length ≤ 5000) (i : Int) : ∃ b, ACall Try.prog 21 [.pv (.sl 9 (evs l)), .pv (.sl 1 (krows .i64 L)), .pv (.int .i64 i)] [] (.pv (.bool b)) [] [] ∧ (b = true ↔ 0 ≤ i ∧ i < l.length ∧ mayP l (mkM L) i.toNat) := by
  by_cases h0 : i < 0
  · refine ⟨false, ?_, by simp; omega⟩
    refine ACall.fn (fn := Try.f21) rfl okRef26May rfl (by simp) ?_
    simp only [argT, irRef26May.eq_1]
    simp [h0]
  · by_cases hl : (l.length : Int) ≤ i
    · refine ⟨false, ?_, by simp; omega⟩
      refine ACall.fn (fn := Try.f21) rfl okRef26May rfl (by simp) ?_
      simp only [argT, irRef26May.eq_1]
      simp [h0, evs_length, hl]
    · obtain ⟨j, rfl⟩ : ∃ j : Nat, i = j := ⟨i.toNat, by omega⟩
      have hj : j < l.length := by omega
      have hj' : ¬ l.length ≤ j := by omega
      have hj0 : ¬ (j : Int) < 0 := by omega
      obtain ⟨e, he⟩ : ∃ e, l[j]? = some e := ⟨_, List.getElem?_eq_getElem hj⟩
      have hiff : (0 ≤ (j : Int) ∧ (j : Int) < l.length ∧ mayP l (mkM L) (j : Int).toNat) ↔ mayP l (mkM L) j := by
        rw [Int.toNat_natCast]
        exact ⟨fun h => h.2.2, fun h => ⟨by omega, by omega, h⟩⟩
      rw [hiff]
      have c := in_c L j hL
      have hb := mkM_bit L j
      by_cases hin : j ∈ L
      · rw [decide_eq_true hin] at c hb
        refine ⟨false, ?_, by simp [mayP, hb]⟩
        refine ACall.fn (fn := Try.f21) rfl okRef26May rfl (by simp) ?_
        simp only [argT, irRef26May.eq_1]
        simp [hj0, hj', evs_length]
        refine CallG.go c ?_
        simp
      · rw [decide_eq_false hin] at c hb
        have lp := rmayl l ll L hL j e he l.length 0 (by omega) (fun j x h => by omega)
        simp at lp
        by_cases hm : mayP l (mkM L) j
        · refine ⟨true, ?_, by simp [hm]⟩
          refine ACall.fn (fn := Try.f21) rfl okRef26May rfl (by simp) ?_
          simp only [argT, irRef26May.eq_1]
          simp [hj0, hj', evs_length]
          refine CallG.go c ?_
          simp
          refine lp _ (fun _ a b c d f g h => ?_) (fun k x h1 h2 h3 h4 => ?_)
          · simp
          · rw [hm.2 k x e h1 he h2 h3] at h4; cases h4
        · refine ⟨false, ?_, by simp [hm]⟩
          refine ACall.fn (fn := Try.f21) rfl okRef26May rfl (by simp) ?_
          simp only [argT, irRef26May.eq_1]
          simp [hj0, hj', evs_length]
          refine CallG.go c ?_
          simp
          refine lp _ (fun h a b c d f g h' => absurd ((mayQ_all he hb).1 h) hm) (fun k x h1 h2 h3 h4 => ?_)
          simp
/-- All that must be taken is. -/
theorem ralll (l : List Ev) (ll : l.length ≤ 12) (L : List Nat) (hL : L.length ≤ 5000) (c : List Cl) : ∀ (n k : Nat) (v : Bool), k + n = l.length → (v = true ↔ ∀ (j : Nat) e, j < k → l[j]? = some e → e.dn = true → (mkM L).testBit j = true) → ∀ (Q : Exit → S → Prop),
    (∀ v, (v = true ↔ allD l (mkM L)) → ∀ d f g h i, Q (.exit 0) (mk [(1, .pv (.sl 9 (evs l))), (2, .pv (.sl 1 (krows .i64 L))), (3, .ptr 3 0), (7, .pv (.bool v)), (8, d), (13, f), (14, g), (15, h), (16, i)] [(3, .pagg (cellsP c))])) →
    LoopW Try.prog [1, 2, 3, 7, 8] [3] irRef26From_L1 (mk [(1, .pv (.sl 9 (evs l))), (2, .pv (.sl 1 (krows .i64 L))), (3, .ptr 3 0), (7, .pv (.bool v)), (8, .pv (.int .i64 (k : Nat)))] [(3, .pagg (cellsP c))]) Q := by
  intro n
  induction n with
  | zero =>
    intro k v hk hv Q h1
    obtain rfl : k = l.length := by omega
    refine LoopW.go irRef26From_L1.eq_1 (by simp) ?_
    have h := h1 v (by
      rw [hv]
      exact ⟨fun h i e he hd => h i e (List.getElem?_eq_some_iff.1 he).1 he hd, fun h i e _ he hd => h i e he hd⟩)
    simp [evs_length] at h ⊢
    exact h _ _ _ _ _
  | succ n ih =>
    intro k v hk hv Q h1
    have i1 : k < l.length := by omega
    obtain ⟨e, he⟩ : ∃ e, l[k]? = some e := ⟨_, List.getElem?_eq_getElem (by omega)⟩
    have w : IntKind.i64.wrap ((k : Int) + 1) = (k + 1 : Nat) := by rw [wrap_i64] <;> omega
    have c1 := in_c L k hL
    have hb := mkM_bit L k
    have hst : (e.dn = true → (mkM L).testBit k = true) → (v = true ↔ ∀ (j : Nat) e, j < k + 1 → l[j]? = some e → e.dn = true → (mkM L).testBit j = true) := fun h => by
      rw [hv]
      constructor
      · intro q j y hj hy hd
        by_cases hjk : j = k
        · subst hjk
          rw [he] at hy
          cases hy
          exact h hd
        · exact q j y (by omega) hy hd
      · intro q j y hj hy hd
        exact q j y (by omega) hy hd
    refine LoopW.go irRef26From_L1.eq_1 (by simp) ?_
    cases hdn : e.dn
    · have f := ih (k + 1) v (by omega) (hst fun h => by rw [hdn] at h; cases h) Q h1
      simp at f
      simp [-getElem?_pos, i1, evs_get, evs_length, he, evP, hdn, w]
      exact f
    · by_cases hin : k ∈ L
      · rw [decide_eq_true hin] at c1 hb
        have f := ih (k + 1) v (by omega) (hst fun _ => hb) Q h1
        simp at f
        simp [-getElem?_pos, i1, evs_get, evs_length, he, evP, hdn]
        refine CallG.go c1 ?_
        simp [w]
        exact f
      · rw [decide_eq_false hin] at c1 hb
        have f := ih (k + 1) false (by omega) (by
          constructor
          · intro h; cases h
          · intro q
            have := q k e (by omega) he hdn
            rw [hb] at this; cases this) Q h1
        simp at f
        simp [-getElem?_pos, i1, evs_get, evs_length, he, evP, hdn]
        refine CallG.go c1 ?_
        simp [w]
        exact f
/-- The search's promise. -/
def RFrom (l : List Ev) (L : List Nat) (c : List Cl) : Prop := ∃ b, ACall Try.prog 18 [.pagg (cellsP c), .pv (.sl 9 (evs l)), .pv (.sl 1 (krows .i64 L))] [] (.pv (.bool b)) [] [] ∧ (b = true ↔ Lin l (mkM L) c)
theorem rfroml (l : List Ev) (ll : l.length ≤ 12) (L : List Nat) (hM : mkM L < 4096) (hL : L.length ≤ mkM L) (c : List Cl) (hc : c.length = 16)
    (ih0 : ∀ M d, mkM L < mkM M → mkM M < 4096 → M.length ≤ mkM M → d.length = 16 → RFrom l M d) : ∀ (n k : Nat), k + n = l.length → noQ l (mkM L) c k → ∀ (Q : Exit → S → Prop),
    (noQ l (mkM L) c l.length → ∀ a b d e f g h i ms, Q (.exit 2) (mk [(1, a), (2, b), (3, d), (9, e), (31, f), (32, g), (33, h), (34, i)] ms)) →
    (Lin l (mkM L) c → Q .ret (mk [(6, .pv (.bool true))] [])) →
    LoopW Try.prog [1, 2, 3, 9] [3] irRef26From_L2 (mk [(1, .pv (.sl 9 (evs l))), (2, .pv (.sl 1 (krows .i64 L))), (3, .ptr 3 0), (9, .pv (.int .i64 (k : Nat)))] [(3, .pagg (cellsP c))]) Q := by
  intro n
  induction n with
  | zero =>
    intro k hk hq Q h1 h2
    obtain rfl : k = l.length := by omega
    refine LoopW.go irRef26From_L2.eq_1 (by simp) ?_
    have h := h1 hq
    simp [evs_length] at h ⊢
    exact h _ _ _ _ _ _ _ _ _
  | succ n ih =>
    intro k hk hq Q h1 h2
    have i1 : k < l.length := by omega
    obtain ⟨e, he⟩ : ∃ e, l[k]? = some e := ⟨_, List.getElem?_eq_getElem (by omega)⟩
    have w : IntKind.i64.wrap ((k : Int) + 1) = (k + 1 : Nat) := by rw [wrap_i64] <;> omega
    have hcl : (cellsP c).length = 32 := by rw [cellsP_len, hc]
    have ht32 := cellsP_take32 hc
    obtain ⟨b, c1, hb⟩ := rmay_c l ll L (by omega) k
    rw [Int.toNat_natCast] at hb
    refine LoopW.go irRef26From_L2.eq_1 (by simp) ?_
    simp [i1, evs_length]
    refine CallG.go c1 ?_
    cases b
    · have ih' := ih (k + 1) (by omega) (noQ_step hq he fun h => absurd (hb.2 ⟨by omega, by omega, h⟩) (by simp)) Q h1 h2
      simp at ih'
      simp [w]
      exact ih'
    · have hmay := (hb.1 rfl).2.2
      have c2 := refDo_c c hc e.kd e.ky e.a e.b
      have hdl : (doE c e).1.length = 16 := by rw [doE_len, hc]
      have hd32 := cellsP_take32 hdl
      have hdc : (cellsP (doE c e).1).length = 32 := by rw [cellsP_len, hdl]
      have hgt : mkM L < mkM L ||| 2 ^ k := or_gt hmay.1
      have hlt : mkM L ||| 2 ^ k < 4096 := by
        have := Nat.or_lt_two_pow (n := 12) (x := mkM L) (y := 2 ^ k) (by simpa using hM) (Nat.pow_lt_pow_right (by decide) (by omega))
        simpa using this
      have hdE : doG c e.kd e.ky e.a e.b = doE c e := rfl
      rw [hdE] at c2
      have hlin : okE c e → Lin l (mkM L ||| 2 ^ k) (doE c e).1 → Lin l (mkM L) c := fun h1 h => .step _ c k e he hmay h1 h
      have hmk := mkM_append L k
      obtain ⟨b', c3, hb'⟩ := ih0 (L ++ [k]) (doE c e).1 (by rw [hmk]; exact hgt) (by rw [hmk]; exact hlt) (by rw [hmk]; simp; omega) hdl
      rw [hmk] at hb'
      have hok : okE c e ↔ (e.dn = true → (doE c e).2 = e.rs) := Iff.rfl
      have fin1 : ¬ (okE c e ∧ Lin l (mkM L ||| 2 ^ k) (doE c e).1) → noQ l (mkM L) c (k + 1) := fun h => noQ_step hq he fun _ q1 q2 => h ⟨q1, q2⟩
      have fin2 : noQ l (mkM L) c (k + 1) → _ := fun g1 => ih (k + 1) (by omega) g1 Q h1 h2
      have hll : L.length ≤ 100000000000 := by omega
      have hl2 : L.length ≤ 99999999999 := by omega
      generalize (doE c e).1 = E1 at *
      generalize (doE c e).2 = E2 at *
      simp [opP] at c2
      obtain ⟨x1, x2⟩ := E2
      simp only [← krows_one] at c3
      simp [-getElem?_pos, hcl, ht32, evs_get, evs_length, he, i1, evP]
      refine CallG.go c2 ?_
      have go : okE c e → (e.dn = true → (x1, x2) = e.rs) → _ := fun hoke _ => c3
      cases hdn : e.dn
      · have hoke : okE c e := fun h => by rw [hdn] at h; cases h
        simp [-getElem?_pos, clP, hdn, ht32, hd32, hcl, hdc, evs_get, evs_length, he, i1, evP, krows_length, hll, hl2]
        refine CallG.go c3 ?_
        cases b'
        · have f := fin2 (fin1 fun h => absurd (hb'.2 h.2) (by simp))
          simp at f
          simp [w]
          exact f
        · simp
          exact h2 (hlin hoke (hb'.1 rfl))
      · by_cases hrs : (x1, x2) = e.rs
        · have hoke : okE c e := hok.2 fun _ => hrs
          simp [-getElem?_pos, ← hrs, clP, ckAll, ckOne, eqPVs, eqPV, hdn, ht32, hd32, hcl, hdc, evs_get, evs_length, he, i1, evP, krows_length, hll, hl2]
          refine CallG.go c3 ?_
          cases b'
          · have f := fin2 (fin1 fun h => absurd (hb'.2 h.2) (by simp))
            simp at f
            simp [w]
            exact f
          · simp
            exact h2 (hlin hoke (hb'.1 rfl))
        · have hne : eqPVs [.bool x1, .int .i64 x2] [.bool e.rs.1, .int .i64 e.rs.2] = false := by
            have := clP_eq (x1, x2) e.rs
            simp only [clP] at this
            rw [this]
            simpa using hrs
          have f := fin2 (fin1 fun h => hrs (hok.1 h.1 hdn))
          simp at f
          simp [-getElem?_pos, clP, ckAll, ckOne, hne, hdn, ht32, hd32, hcl, hdc, evs_get, evs_length, he, i1, evP, w]
          exact f
theorem rfrom_all (l : List Ev) (ll : l.length ≤ 12) : ∀ (n : Nat) (L : List Nat) (c : List Cl), 4096 - mkM L ≤ n → mkM L < 4096 → L.length ≤ mkM L → c.length = 16 → RFrom l L c := by
  intro n
  induction n with
  | zero => intro L c h ht; omega
  | succ n ih =>
    intro L c hn ht hL hc
    have lp1 := ralll l ll L (by omega) c l.length 0 true (by omega) (by simp)
    have lp2 := rfroml l ll L ht hL c hc (fun M d h1 h2 h3 h4 => ih M d (by omega) h2 h3 h4) l.length 0 (by omega) (fun j e h => by omega)
    simp at lp2
    by_cases hd : allD l (mkM L)
    · refine ⟨true, ?_, by simp [Lin.done _ c hd]⟩
      refine ACall.fn (fn := Try.f18) rfl okRef26From rfl (by simp) ?_
      simp only [argT, irRef26From.eq_1]
      simp
      refine lp1 _ fun v hv d f g h i => ?_
      have : v = true := hv.2 hd
      subst this
      simp
    · by_cases hl : Lin l (mkM L) c
      · refine ⟨true, ?_, by simp [hl]⟩
        refine ACall.fn (fn := Try.f18) rfl okRef26From rfl (by simp) ?_
        simp only [argT, irRef26From.eq_1]
        simp
        refine lp1 _ fun v hv d f g h i => ?_
        have : v = false := by
          cases v
          · rfl
          · exact absurd (hv.1 rfl) hd
        subst this
        simp
        refine lp2 _ (fun hn => absurd hl (noQ_all hd hn)) (fun _ => ?_)
        simp
      · refine ⟨false, ?_, by simp [hl]⟩
        refine ACall.fn (fn := Try.f18) rfl okRef26From rfl (by simp) ?_
        simp only [argT, irRef26From.eq_1]
        simp
        refine lp1 _ fun v hv d f g h i => ?_
        have : v = false := by
          cases v
          · rfl
          · exact absurd (hv.1 rfl) hd
        subst this
        simp
        refine lp2 _ (fun _ a b d e f g h i ms => ?_) (fun h => absurd h hl)
        simp
theorem rlinl (l : List Ev) (ll : l.length ≤ 12) (c : List Cl) : ∀ (n k : Nat), k + n = l.length → ∀ (Q : Exit → S → Prop),
    ((l.drop k).all rightE = true → ∀ d f g h i, Q (.exit 0) (mk [(1, .pv (.sl 9 (evs l))), (2, .ptr 2 0), (6, d), (10, f), (11, g), (12, h), (13, i)] [(2, .pagg (cellsP c))])) →
    ((l.drop k).all rightE = false → Q .ret (mk [(4, .pv (.bool false)), (5, .pv (.int .i64 15))] [])) →
    LoopW Try.prog [1, 2, 6] [2] irRef26Linear_L1 (mk [(1, .pv (.sl 9 (evs l))), (2, .ptr 2 0), (6, .pv (.int .i64 (k : Nat)))] [(2, .pagg (cellsP c))]) Q := by
  intro n
  induction n with
  | zero =>
    intro k hk Q h1 h2
    obtain rfl : k = l.length := by omega
    refine LoopW.go irRef26Linear_L1.eq_1 (by simp) ?_
    have h := h1 (by simp)
    simp [evs_length] at h ⊢
    exact h _ _ _ _ _
  | succ n ih =>
    intro k hk Q h1 h2
    have i1 : k < l.length := by omega
    obtain ⟨e, he⟩ : ∃ e, l[k]? = some e := ⟨_, List.getElem?_eq_getElem (by omega)⟩
    have w : IntKind.i64.wrap ((k : Int) + 1) = (k + 1 : Nat) := by rw [wrap_i64] <;> omega
    have hd : l.drop k = e :: l.drop (k + 1) := by
      rw [List.drop_eq_getElem_cons i1]
      rw [List.getElem?_eq_getElem i1] at he
      simp only [Option.some.injEq] at he
      rw [he]
    rw [hd, List.all_cons] at h1 h2
    have c1 := refRight_c e
    refine LoopW.go irRef26Linear_L1.eq_1 (by simp) ?_
    cases hr : rightE e
    · rw [hr] at c1 h2
      simp [-getElem?_pos, i1, evs_get, evs_length, he, evP] at c1 ⊢
      refine CallG.go c1 ?_
      simp
      exact h2 rfl
    · rw [hr, Bool.true_and] at h1 h2
      rw [hr] at c1
      have ih' := ih (k + 1) (by omega) Q h1 h2
      simp at ih'
      simp [-getElem?_pos, i1, evs_get, evs_length, he, evP] at c1 ⊢
      refine CallG.go c1 ?_
      simp [w]
      exact ih'
theorem rlinear_c (l : List Ev) (c : List Cl) (hc : c.length = 16) (hL : l.length ≤ 10000000000) : ∃ b, ACall Try.prog 11 [.pagg (cellsP c), .pv (.sl 9 (evs l))] [] (.tup [.pv (.bool b), .pv (.int .i64 (linE l : Nat))]) [] [] ∧ (b = true ↔ linE l = 0 ∧ Lin l 0 c) := by
  have hcl : (cellsP c).length = 32 := by rw [cellsP_len, hc]
  have ht32 := cellsP_take32 hc
  by_cases hl : 12 < l.length
  · have he : linE l = 4 := by rw [linE, if_pos hl]
    have hl' : (12 : Int) < (l.length : Int) := by omega
    refine ⟨false, ?_, by simp [he]⟩
    refine ACall.fn (fn := Try.f11) rfl okRef26Linear rfl (by simp) ?_
    simp only [argT, irRef26Linear.eq_1, he]
    simp [evs_length, hl, hl']
  · have ll : l.length ≤ 12 := by omega
    have hl' : ¬ (12 : Int) < (l.length : Int) := by omega
    have lp := rlinl l ll c l.length 0 (by omega)
    rw [List.drop_zero] at lp
    simp at lp
    by_cases hr : l.all rightE = true
    · have he : linE l = 0 := by rw [linE, if_neg hl, if_pos hr]
      obtain ⟨b, c1, hb⟩ := rfrom_all l ll 4096 [] c (by simp [mkM]) (by simp [mkM]) (by simp [mkM]) hc
      have hb2 : b = true ↔ Lin l 0 c := hb
      refine ⟨b, ?_, by rw [hb2]; simp [he]⟩
      refine ACall.fn (fn := Try.f11) rfl okRef26Linear rfl (by simp) ?_
      simp only [argT, irRef26Linear.eq_1, he]
      simp [evs_length, hl, hl']
      refine lp _ (fun _ d f g h i => ?_) (fun x hx hx2 => ?_)
      · simp only [krows, List.map_nil] at c1
        simp [hcl, ht32]
        refine CallG.go c1 ?_
        simp
      · have := List.all_eq_true.1 hr x hx
        rw [this] at hx2; cases hx2
    · have he : linE l = 15 := by rw [linE, if_neg hl, if_neg hr]
      refine ⟨false, ?_, by simp [he]⟩
      refine ACall.fn (fn := Try.f11) rfl okRef26Linear rfl (by simp) ?_
      simp only [argT, irRef26Linear.eq_1, he]
      simp [evs_length, hl, hl']
      refine lp _ (fun h d f g h' i => ?_) (fun x hx hx2 => ?_)
      · exact absurd (by simpa using h) hr
      · simp
end Go.Proofs.Ythpfadbdkkmagaa
