/- The law SnapsCrash. No condition. -/
import Derived.Test.YtlbfpnckoblppaaSnapM
import Derived.Test.YtlbfpnckoblppaaSnapF
import Derived.Test.YtlbfpnckoblppaaSnapsTwoW
import Derived.Test.YtlbfpnckoblppaaIrCrash
set_option linter.unusedVariables false
set_option linter.unusedSimpArgs false
namespace Go.Proofs.Ytlbfpnckoblppaa
open Go.Abs Go.RowKit Go.Ours

abbrev nmC : ByteArray := strLaw12SnapsCrash_1
theorem nmc1 : (newN nmC == nmC) = false := by decide
theorem sm_C : small nmC := small_of (by decide)
/-- What was saved last: nothing, or a text. -/
def Sv (F : Fs) (W : List Nat) (was : Nat) : Prop := (F = [] ∧ W = [] ∧ was = 13) ∨ (F = [(nmC, toldF W)] ∧ was = 0 ∧ W.length ≤ 500 ∧ ∀ x ∈ W, x < 256)
theorem Sv.no {F : Fs} {W : List Nat} {was : Nat} (h : Sv F W was) : ffind (newN nmC) F = none := by
  rcases h with ⟨rfl, _, _⟩ | ⟨rfl, _⟩
  · rfl
  · simp [ffind, nmc1]
theorem Sv.len {F : Fs} {W : List Nat} {was : Nat} (h : Sv F W was) : total F ≤ 3018 := by
  rcases h with ⟨rfl, _, _⟩ | ⟨rfl, _, h, _⟩
  · simp [total]
  · have := toldF_len W (by omega)
    simpa [total] using this
theorem Sv.put {F : Fs} {W : List Nat} {was : Nat} (h : Sv F W was) (t : List Nat) : fput nmC (toldF t) F = [(nmC, toldF t)] := by
  rcases h with ⟨rfl, _, _⟩ | ⟨rfl, _, h, _⟩
  · rfl
  · simp [fput, ba_refl]
theorem svC (t : List Nat) (ht : t.length ≤ 500) (hb : ∀ x ∈ t, x < 256) {F : Fs} {W : List Nat} {was : Nat} (h : Sv F W was) : ACall Try.prog 15 [.ptr 1000 0, .pv (.str nmC), .pv (.sl 1 (krows .u8 t))] [dkA 131072 [], mcF F, mcF F] (.pv (.int .i64 0)) [.agg [.pv (.int .i64 131072), .mp 2000, .mp 2001, .os 61 4 [], .pv (.int .i64 (-1)), .pv (.bool false)], mcF F, mcF (fput (newN nmC) (toldF t) F)] [mcF [(nmC, toldF t)], mcF [(nmC, toldF t)]] := by
  have la := toldF_len t (by omega)
  have hl := h.len
  have c := save_c 131072 [] (fcs F) F nmC t (by simp) sm_C (by decide) (by omega) hb (by omega) (by decide) h.no (by omega)
  rw [h.put] at c
  exact c
def texts (T : List (List Nat)) : List (List PV) := T.map fun t => [.sl 1 (krows .u8 t)]
abbrev cS (M : List (List PV)) (T : List (List Nat)) (p : List PV) (x y : Nat) (F : Fs) (W : List Nat) (was k : Nat) : S :=
  mk [(1, .pv (.sl 8 M)), (5, .ptr 5 0), (7, .ptr 26 0), (8, .pv (.sl 1 (krows .u8 W))), (9, .pv (.int .i64 (was : Nat))), (27, .pv (.sl 1 (texts T))), (28, .pv (.int .i64 (T.length : Nat))), (29, .pv (.int .i64 (k : Nat)))]
   [(5, .pagg p), (26, .agg [.pv (.int .i64 131072), .mp x, .mp y, .os 61 4 [], .pv (.int .i64 (-1)), .pv (.bool false)]), (x, mcF F), (y, mcF F)]
abbrev cE (M : List (List PV)) (T : List (List Nat)) (p : List PV) (x y : Nat) (F : Fs) (W : List Nat) (was : Nat) (a : AV) : S :=
  mk [(1, .pv (.sl 8 M)), (5, .ptr 5 0), (7, .ptr 26 0), (8, .pv (.sl 1 (krows .u8 W))), (9, .pv (.int .i64 (was : Nat))), (27, .pv (.sl 1 (texts T))), (28, .pv (.int .i64 (T.length : Nat))), (29, .pv (.int .i64 (T.length : Nat))), (30, a)]
   [(5, .pagg p), (26, .agg [.pv (.int .i64 131072), .mp x, .mp y, .os 61 4 [], .pv (.int .i64 (-1)), .pv (.bool false)]), (x, mcF F), (y, mcF F)]
theorem crashL1 (M : List (List PV)) (T : List (List Nat)) (p : List PV) (hT : T.length ≤ 12) (hb : ∀ t ∈ T, ∀ x ∈ t, x < 256) (Q : Exit → S → Prop)
    (h1 : ∀ F W was a, Sv F W was → Q (.exit 0) (cE M T p 526 626 F W was a)) (h2 : ∀ F W was a, Sv F W was → Q (.exit 0) (cE M T p 726 826 F W was a)) (hr : Q .ret (mk [(6, .pv (.bool true))] [])) :
    ∀ (n k : Nat), k + n = T.length → ∀ (F : Fs) (W : List Nat) (was : Nat), Sv F W was →
     LoopW Try.prog [1, 5, 7, 8, 9, 27, 28, 29] [5, 26, 526, 626, 726, 826] irC_L1 (cS M T p 526 626 F W was k) Q ∧
     LoopW Try.prog [1, 5, 7, 8, 9, 27, 28, 29] [5, 26, 526, 626, 726, 826] irC_L1 (cS M T p 726 826 F W was k) Q := by
  intro n
  induction n with
  | zero =>
    intro k hk F W was hS
    have hk2 : k = T.length := by omega
    subst hk2
    have e1 := fun a => h1 F W was a hS
    have e2 := fun a => h2 F W was a hS
    have hl : (texts T).length = T.length := by rw [texts, List.length_map]
    simp only [mcF, cS, cE] at e1 e2 ⊢
    constructor
    · refine LoopW.go irC_L1.eq_1 (by simp) ?_
      refine Alt.one ?_
      rw [irC_L1a.eq_1]
      simp
      exact e1 _
    · refine LoopW.go irC_L1.eq_1 (by simp) ?_
      refine Alt.two ?_
      rw [irC_L1b.eq_1]
      simp
      exact e2 _
  | succ n ih =>
    intro k hk F W was hS
    have hlt : k < T.length := by omega
    have hl : (texts T).length = T.length := by rw [texts, List.length_map]
    have hx : T[k]? = some T[k] := List.getElem?_eq_getElem hlt
    have hbt := hb _ (List.getElem_mem hlt)
    generalize T[k] = t at hx hbt
    have hx2 : (texts T)[k]? = some [.sl 1 (krows .u8 t)] := by rw [texts, List.getElem?_map, hx]; rfl
    have i1 : (k : Int) < (T.length : Int) := by omega
    have wk : IntKind.i64.wrap ((k : Int) + 1) = (k + 1 : Nat) := by rw [wrap_i64] <;> omega
    by_cases h5 : 500 < t.length
    · have h5' : (500 : Int) < (t.length : Int) := by omega
      clear ih h1 h2
      simp only [mcF, cS]
      generalize texts T = R at *
      rw [← hl] at i1 hlt
      constructor
      · refine LoopW.go irC_L1.eq_1 (by simp) ?_
        refine Alt.one ?_
        rw [irC_L1a.eq_1]
        simp [-getElem?_pos, ← hl, i1, hlt, hx2, krows_length, h5, h5']
        exact hr
      · refine LoopW.go irC_L1.eq_1 (by simp) ?_
        refine Alt.two ?_
        rw [irC_L1b.eq_1]
        simp [-getElem?_pos, ← hl, i1, hlt, hx2, krows_length, h5, h5']
        exact hr
    · have h5' : ¬ (500 : Int) < (t.length : Int) := by omega
      have c := svC t (by omega) hbt hS
      obtain ⟨n1, n2⟩ := ih (k + 1) (by omega) [(nmC, toldF t)] t 0 (Or.inr ⟨rfl, rfl, by omega, hbt⟩)
      clear ih h1 h2 hr
      have e0 : ((0 : Nat) : Int) = 0 := rfl
      simp only [mcF, cS, dkA, e0] at c n1 n2 ⊢
      have e2 : ((131072 : Nat) : Int) = 131072 := rfl
      rw [e2] at c
      generalize fcs (fput (newN nmC) (toldF t) F) = g1 at *
      generalize fcs [(nmC, toldF t)] = f1 at *
      generalize fcs F = f0 at *
      generalize texts T = R at *
      rw [← hl] at i1 hlt
      constructor
      · refine LoopW.go irC_L1.eq_1 (by simp) ?_
        refine Alt.one ?_
        rw [irC_L1a.eq_1]
        simp [-getElem?_pos, ← hl, i1, hlt, hx2, krows_length, h5, h5']
        refine CallG.go c ?_
        simp [wk]
        rw [hl]
        exact n2
      · refine LoopW.go irC_L1.eq_1 (by simp) ?_
        refine Alt.two ?_
        rw [irC_L1b.eq_1]
        simp [-getElem?_pos, ← hl, i1, hlt, hx2, krows_length, h5, h5']
        refine CallG.go c ?_
        simp [wk]
        rw [hl]
        exact n1
-- GENERATED by gen_crashw.py from here on
/-- An act, as it comes in. -/
structure AC where
  kd : Int
  nm : ByteArray
  to : ByteArray
  v : List Nat
  a : Int
  b : Int
  c : Int
  n : Int
def AC.row (q : AC) : List PV := [.int .i64 q.kd, .str q.nm, .str q.to, .sl 1 (krows .u8 q.v), .int .u64 q.a, .int .i64 q.b, .int .i64 q.c, .int .i64 q.n]
theorem nm_ne {n : ByteArray} (h : (n.toList == nmC.toList) = false) : (nmC == n) = false := by
  rw [Bool.eq_false_iff]
  intro he
  have := ba_eq he
  subst this
  simp at h
/-- What is pending: appends to other files. -/
def Pn (A : List (ByteArray × List Nat)) (k : Nat) : Prop := A.length ≤ k ∧ ∀ q ∈ A, q.2.length ≤ 300 ∧ (nmC == q.1) = false
theorem Pn.up {A : List (ByteArray × List Nat)} {k : Nat} (h : Pn A k) : Pn A (k + 1) := ⟨Nat.le_succ_of_le h.1, h.2⟩
theorem Pn.snoc {A : List (ByteArray × List Nat)} {k : Nat} (h : Pn A k) {n : ByteArray} {v : List Nat} (hv : v.length ≤ 300) (hn : (nmC == n) = false) : Pn (A ++ [(n, v)]) (k + 1) := by
  refine ⟨by rw [List.length_append]; exact Nat.succ_le_succ h.1, fun q hq => ?_⟩
  rcases List.mem_append.1 hq with hq | hq
  · exact h.2 q hq
  · rw [List.mem_singleton] at hq
    subst hq
    exact ⟨hv, hn⟩
theorem actsR_snoc (A : List (ByteArray × List Nat)) (n : ByteArray) (v : List Nat) : actsR A ++ [actP 1 n .empty v] = actsR (A ++ [(n, v)]) := by simp [actsR]
theorem crashL2a (M : List AC) (p : List PV) (hM : M.length ≤ 20) (W : List Nat) (was : Nat) (F : Fs) (Q : Exit → S → Prop)
    (h1 : ∀ A G x, Pn A 20 → Q (.exit 2) (mk [(5, .ptr 5 0), (7, .ptr 26 0), (8, .pv (.sl 1 (krows .u8 W))), (9, .pv (.int .i64 (was : Nat))), (42, .pv (.sl 8 (M.map AC.row))), (43, .pv (.int .i64 (M.length : Nat))), (44, .pv (.int .i64 (M.length : Nat))), (45, x)]
      [(5, .pagg p), (26, .agg [.pv (.int .i64 131072), .mp 526, .mp 626, .os 61 4 (actsR A), .pv (.int .i64 (-1)), .pv (.bool false)]), (526, mcF F), (626, mcF G)])) (hr : Q .ret (mk [(6, .pv (.bool true))] [])) :
    ∀ (n k : Nat), k + n = M.length → ∀ (A : List (ByteArray × List Nat)) (G : Fs), Pn A k → total G ≤ 3018 + 300 * k →
     LoopW Try.prog [5, 7, 8, 9, 42, 43, 44] [5, 26, 526, 626] irC_L2a (mk [(5, .ptr 5 0), (7, .ptr 26 0), (8, .pv (.sl 1 (krows .u8 W))), (9, .pv (.int .i64 (was : Nat))), (42, .pv (.sl 8 (M.map AC.row))), (43, .pv (.int .i64 (M.length : Nat))), (44, .pv (.int .i64 (k : Nat)))]
      [(5, .pagg p), (26, .agg [.pv (.int .i64 131072), .mp 526, .mp 626, .os 61 4 (actsR A), .pv (.int .i64 (-1)), .pv (.bool false)]), (526, mcF F), (626, mcF G)]) Q := by
  intro n
  induction n with
  | zero =>
    intro k hk A G hA hG
    have hk2 : k = M.length := by omega
    subst hk2
    have e1 := fun x => h1 A G x ⟨Nat.le_trans hA.1 hM, hA.2⟩
    simp only [mcF] at e1 ⊢
    refine LoopW.go irC_L2a.eq_1 (by simp) ?_
    simp
    exact e1 _
  | succ n ih =>
    intro k hk A G hA hG
    have hlt : k < M.length := by omega
    have hl : (M.map AC.row).length = M.length := by rw [List.length_map]
    have hx : M[k]? = some M[k] := List.getElem?_eq_getElem hlt
    generalize M[k] = q at hx
    have hx2 : (M.map AC.row)[k]? = some q.row := by rw [List.getElem?_map, hx]; rfl
    have i1 : (k : Int) < (M.length : Int) := by omega
    have wk : IntKind.i64.wrap ((k : Int) + 1) = (k + 1 : Nat) := by rw [wrap_i64] <;> omega
    have hA1 := hA.1
    have n0 := ih (k + 1) (by omega) A G hA.up (by omega)
    have nA := fun (hv : q.v.length ≤ 300) (hn : (nmC == q.nm) = false) => ih (k + 1) (by omega) (A ++ [(q.nm, q.v)]) (fcat q.nm q.v G) (hA.snoc hv hn) (by rw [total_cat]; omega)
    clear ih h1
    obtain ⟨kd, nm, to, v, aa, bb, cc, nn⟩ := q
    simp only [AC.row] at hx2 nA
    by_cases h3 : 300 < v.length
    · have h3' : (300 : Int) < (v.length : Int) := by omega
      clear nA n0
      simp only [mcF]
      generalize M.map AC.row = R at *
      rw [← hl] at i1 hlt
      refine LoopW.go irC_L2a.eq_1 (by simp) ?_
      simp [-getElem?_pos, ← hl, i1, hlt, hx2, krows_length, h3, h3']
      exact hr
    have h3' : ¬ (300 : Int) < (v.length : Int) := by omega
    clear hr
    cases q1 : nm.toList == nmC.toList with
    | true =>
      clear nA
      simp only [mcF] at n0 ⊢
      generalize M.map AC.row = R at *
      rw [← hl] at i1 hlt
      refine LoopW.go irC_L2a.eq_1 (by simp) ?_
      simp [-getElem?_pos, ← hl, i1, hlt, hx2, krows_length, h3, h3', q1, wk]
      rw [hl]
      exact n0
    | false =>
      cases q2 : to.toList == nmC.toList with
      | true =>
        clear nA
        simp only [mcF] at n0 ⊢
        generalize M.map AC.row = R at *
        rw [← hl] at i1 hlt
        refine LoopW.go irC_L2a.eq_1 (by simp) ?_
        simp [-getElem?_pos, ← hl, i1, hlt, hx2, krows_length, h3, h3', q1, q2, wk]
        rw [hl]
        exact n0
      | false =>
        by_cases hz : 1 ≤ nm.size ∧ nm.size ≤ 24
        · have c := append_d 131072 (actsR A) (fcs F) G nm v (by rw [actsR, List.length_map]; omega) hz (by omega) (by omega) (by decide) (by omega)
          have n1 := nA (by omega) (nm_ne q1)
          clear nA n0
          rw [actsR_snoc] at c
          simp only [mcF, dkA] at c n1 ⊢
          have e2 : ((131072 : Nat) : Int) = 131072 := rfl
          rw [e2] at c
          generalize fcs (fcat nm v G) = g1 at *
          generalize actsR (A ++ [(nm, v)]) = A1 at *
          generalize actsR A = A0 at *
          generalize fcs F = f0 at *
          generalize fcs G = g0 at *
          generalize M.map AC.row = R at *
          rw [← hl] at i1 hlt
          refine LoopW.go irC_L2a.eq_1 (by simp) ?_
          simp [-getElem?_pos, ← hl, i1, hlt, hx2, krows_length, h3, h3', q1, q2]
          refine CallG.go c ?_
          simp [wk]
          rw [hl]
          exact n1
        · have c := appendN_d 131072 (actsR A) (fcs F) (fcs G) nm v hz
          clear nA
          simp only [mcF, dkA] at c n0 ⊢
          have e2 : ((131072 : Nat) : Int) = 131072 := rfl
          rw [e2] at c
          generalize actsR A = A0 at *
          generalize fcs F = f0 at *
          generalize fcs G = g0 at *
          generalize M.map AC.row = R at *
          rw [← hl] at i1 hlt
          refine LoopW.go irC_L2a.eq_1 (by simp) ?_
          simp [-getElem?_pos, ← hl, i1, hlt, hx2, krows_length, h3, h3', q1, q2]
          refine CallG.go c ?_
          simp [wk]
          rw [hl]
          exact n0
/-- Behind the first loop. -/
theorem crashRa (M : List AC) (hM : M.length ≤ 20) (T : List (List Nat)) (keep torn cut : Int) (F : Fs) (W : List Nat) (was : Nat) (a : AV) (hS : Sv F W was) (Q : Exit → S → Prop) (hr : ∀ ts, Q .ret (mk ((6, .pv (.bool true)) :: ts) [])) :
    iwp Try.prog irC_Ra (cE (M.map AC.row) T (planP keep torn cut) 526 626 F W was a) (KK Try.prog [] Q) := by
  rw [irC_Ra.eq_1]
  have lp := fun Q h1 hr => crashL2a M (planP keep torn cut) hM W was F Q h1 hr M.length 0 (by omega) [] F ⟨Nat.le_refl _, fun q hq => by cases hq⟩ hS.len
  have e0 : ((0 : Nat) : Int) = 0 := rfl
  have e1 : actsR [] = [] := rfl
  have hl : (M.map AC.row).length = M.length := by rw [List.length_map]
  rw [e0, e1] at lp
  have lpl : (planP keep torn cut).length = 3 := rfl
  have e2 : ((131072 : Nat) : Int) = 131072 := rfl
  have e3 : krows .u8 [] = [] := rfl
  simp only [cE]
  generalize hR : M.map AC.row = R at *
  simp
  rw [hl]
  refine lp _ (fun A G x hA => ?_) ?_
  · obtain ⟨F', g, c1⟩ := crashN_d 131072 A F (fcs G) keep torn cut nmC hA.2 (by have := hA.1; omega) (by have := hS.len; omega)
    rcases hS with ⟨rfl, rfl, rfl⟩ | ⟨rfl, rfl, hW, hWb⟩
    · have c2 := loadNone_c 131072 [] (fcs F') F' nmC sm_C (by decide) (by rw [g]; rfl)
      have c3 := same_c [] [] (by simp)
      rw [decide_eq_true rfl, e3] at c3
      have e13 : ((13 : Nat) : Int) = 13 := rfl
      simp only [mcF, dkA] at c1 c2 ⊢
      rw [e2] at c1 c2
      clear lp
      generalize planP keep torn cut = p at *
      generalize fcs F' = f1 at *
      generalize fcs G = g0 at *
      generalize fcs [] = f0 at *
      generalize actsR A = A0 at *
      rw [e3, e13]
      simp [lpl]
      refine CallG.go c1 ?_
      simp
      refine CallG.go c2 ?_
      simp
      refine CallG.go c3 ?_
      simp
      exact hr _
    · have q1 : ffind nmC [(nmC, toldF W)] = some (toldF W) := by simp [ffind, ba_refl]
      have c2 := load_c 131072 [] (fcs F') F' nmC W sm_C (by decide) (by omega) hWb (by rw [g, q1])
      have c3 := same_c W W (by omega)
      rw [decide_eq_true rfl] at c3
      simp only [mcF, dkA] at c1 c2 ⊢
      rw [e2] at c1 c2
      clear lp
      generalize planP keep torn cut = p at *
      generalize fcs F' = f1 at *
      generalize fcs G = g0 at *
      generalize fcs [(nmC, toldF W)] = f0 at *
      generalize actsR A = A0 at *
      rw [e0]
      simp [lpl]
      refine CallG.go c1 ?_
      simp
      refine CallG.go c2 ?_
      simp
      refine CallG.go c3 ?_
      simp
      exact hr _
  · simp
    exact hr _
theorem crashL2b (M : List AC) (p : List PV) (hM : M.length ≤ 20) (W : List Nat) (was : Nat) (F : Fs) (Q : Exit → S → Prop)
    (h1 : ∀ A G x, Pn A 20 → Q (.exit 2) (mk [(5, .ptr 5 0), (7, .ptr 26 0), (8, .pv (.sl 1 (krows .u8 W))), (9, .pv (.int .i64 (was : Nat))), (42, .pv (.sl 8 (M.map AC.row))), (43, .pv (.int .i64 (M.length : Nat))), (44, .pv (.int .i64 (M.length : Nat))), (45, x)]
      [(5, .pagg p), (26, .agg [.pv (.int .i64 131072), .mp 726, .mp 826, .os 61 4 (actsR A), .pv (.int .i64 (-1)), .pv (.bool false)]), (726, mcF F), (826, mcF G)])) (hr : Q .ret (mk [(6, .pv (.bool true))] [])) :
    ∀ (n k : Nat), k + n = M.length → ∀ (A : List (ByteArray × List Nat)) (G : Fs), Pn A k → total G ≤ 3018 + 300 * k →
     LoopW Try.prog [5, 7, 8, 9, 42, 43, 44] [5, 26, 726, 826] irC_L2b (mk [(5, .ptr 5 0), (7, .ptr 26 0), (8, .pv (.sl 1 (krows .u8 W))), (9, .pv (.int .i64 (was : Nat))), (42, .pv (.sl 8 (M.map AC.row))), (43, .pv (.int .i64 (M.length : Nat))), (44, .pv (.int .i64 (k : Nat)))]
      [(5, .pagg p), (26, .agg [.pv (.int .i64 131072), .mp 726, .mp 826, .os 61 4 (actsR A), .pv (.int .i64 (-1)), .pv (.bool false)]), (726, mcF F), (826, mcF G)]) Q := by
  intro n
  induction n with
  | zero =>
    intro k hk A G hA hG
    have hk2 : k = M.length := by omega
    subst hk2
    have e1 := fun x => h1 A G x ⟨Nat.le_trans hA.1 hM, hA.2⟩
    simp only [mcF] at e1 ⊢
    refine LoopW.go irC_L2b.eq_1 (by simp) ?_
    simp
    exact e1 _
  | succ n ih =>
    intro k hk A G hA hG
    have hlt : k < M.length := by omega
    have hl : (M.map AC.row).length = M.length := by rw [List.length_map]
    have hx : M[k]? = some M[k] := List.getElem?_eq_getElem hlt
    generalize M[k] = q at hx
    have hx2 : (M.map AC.row)[k]? = some q.row := by rw [List.getElem?_map, hx]; rfl
    have i1 : (k : Int) < (M.length : Int) := by omega
    have wk : IntKind.i64.wrap ((k : Int) + 1) = (k + 1 : Nat) := by rw [wrap_i64] <;> omega
    have hA1 := hA.1
    have n0 := ih (k + 1) (by omega) A G hA.up (by omega)
    have nA := fun (hv : q.v.length ≤ 300) (hn : (nmC == q.nm) = false) => ih (k + 1) (by omega) (A ++ [(q.nm, q.v)]) (fcat q.nm q.v G) (hA.snoc hv hn) (by rw [total_cat]; omega)
    clear ih h1
    obtain ⟨kd, nm, to, v, aa, bb, cc, nn⟩ := q
    simp only [AC.row] at hx2 nA
    by_cases h3 : 300 < v.length
    · have h3' : (300 : Int) < (v.length : Int) := by omega
      clear nA n0
      simp only [mcF]
      generalize M.map AC.row = R at *
      rw [← hl] at i1 hlt
      refine LoopW.go irC_L2b.eq_1 (by simp) ?_
      simp [-getElem?_pos, ← hl, i1, hlt, hx2, krows_length, h3, h3']
      exact hr
    have h3' : ¬ (300 : Int) < (v.length : Int) := by omega
    clear hr
    cases q1 : nm.toList == nmC.toList with
    | true =>
      clear nA
      simp only [mcF] at n0 ⊢
      generalize M.map AC.row = R at *
      rw [← hl] at i1 hlt
      refine LoopW.go irC_L2b.eq_1 (by simp) ?_
      simp [-getElem?_pos, ← hl, i1, hlt, hx2, krows_length, h3, h3', q1, wk]
      rw [hl]
      exact n0
    | false =>
      cases q2 : to.toList == nmC.toList with
      | true =>
        clear nA
        simp only [mcF] at n0 ⊢
        generalize M.map AC.row = R at *
        rw [← hl] at i1 hlt
        refine LoopW.go irC_L2b.eq_1 (by simp) ?_
        simp [-getElem?_pos, ← hl, i1, hlt, hx2, krows_length, h3, h3', q1, q2, wk]
        rw [hl]
        exact n0
      | false =>
        by_cases hz : 1 ≤ nm.size ∧ nm.size ≤ 24
        · have c := append_d 131072 (actsR A) (fcs F) G nm v (by rw [actsR, List.length_map]; omega) hz (by omega) (by omega) (by decide) (by omega)
          have n1 := nA (by omega) (nm_ne q1)
          clear nA n0
          rw [actsR_snoc] at c
          simp only [mcF, dkA] at c n1 ⊢
          have e2 : ((131072 : Nat) : Int) = 131072 := rfl
          rw [e2] at c
          generalize fcs (fcat nm v G) = g1 at *
          generalize actsR (A ++ [(nm, v)]) = A1 at *
          generalize actsR A = A0 at *
          generalize fcs F = f0 at *
          generalize fcs G = g0 at *
          generalize M.map AC.row = R at *
          rw [← hl] at i1 hlt
          refine LoopW.go irC_L2b.eq_1 (by simp) ?_
          simp [-getElem?_pos, ← hl, i1, hlt, hx2, krows_length, h3, h3', q1, q2]
          refine CallG.go c ?_
          simp [wk]
          rw [hl]
          exact n1
        · have c := appendN_d 131072 (actsR A) (fcs F) (fcs G) nm v hz
          clear nA
          simp only [mcF, dkA] at c n0 ⊢
          have e2 : ((131072 : Nat) : Int) = 131072 := rfl
          rw [e2] at c
          generalize actsR A = A0 at *
          generalize fcs F = f0 at *
          generalize fcs G = g0 at *
          generalize M.map AC.row = R at *
          rw [← hl] at i1 hlt
          refine LoopW.go irC_L2b.eq_1 (by simp) ?_
          simp [-getElem?_pos, ← hl, i1, hlt, hx2, krows_length, h3, h3', q1, q2]
          refine CallG.go c ?_
          simp [wk]
          rw [hl]
          exact n0
/-- Behind the first loop. -/
theorem crashRb (M : List AC) (hM : M.length ≤ 20) (T : List (List Nat)) (keep torn cut : Int) (F : Fs) (W : List Nat) (was : Nat) (a : AV) (hS : Sv F W was) (Q : Exit → S → Prop) (hr : ∀ ts, Q .ret (mk ((6, .pv (.bool true)) :: ts) [])) :
    iwp Try.prog irC_Rb (cE (M.map AC.row) T (planP keep torn cut) 726 826 F W was a) (KK Try.prog [] Q) := by
  rw [irC_Rb.eq_1]
  have lp := fun Q h1 hr => crashL2b M (planP keep torn cut) hM W was F Q h1 hr M.length 0 (by omega) [] F ⟨Nat.le_refl _, fun q hq => by cases hq⟩ hS.len
  have e0 : ((0 : Nat) : Int) = 0 := rfl
  have e1 : actsR [] = [] := rfl
  have hl : (M.map AC.row).length = M.length := by rw [List.length_map]
  rw [e0, e1] at lp
  have lpl : (planP keep torn cut).length = 3 := rfl
  have e2 : ((131072 : Nat) : Int) = 131072 := rfl
  have e3 : krows .u8 [] = [] := rfl
  simp only [cE]
  generalize hR : M.map AC.row = R at *
  simp
  rw [hl]
  refine lp _ (fun A G x hA => ?_) ?_
  · obtain ⟨F', g, c1⟩ := crashN_d 131072 A F (fcs G) keep torn cut nmC hA.2 (by have := hA.1; omega) (by have := hS.len; omega)
    rcases hS with ⟨rfl, rfl, rfl⟩ | ⟨rfl, rfl, hW, hWb⟩
    · have c2 := loadNone_c 131072 [] (fcs F') F' nmC sm_C (by decide) (by rw [g]; rfl)
      have c3 := same_c [] [] (by simp)
      rw [decide_eq_true rfl, e3] at c3
      have e13 : ((13 : Nat) : Int) = 13 := rfl
      simp only [mcF, dkA] at c1 c2 ⊢
      rw [e2] at c1 c2
      clear lp
      generalize planP keep torn cut = p at *
      generalize fcs F' = f1 at *
      generalize fcs G = g0 at *
      generalize fcs [] = f0 at *
      generalize actsR A = A0 at *
      rw [e3, e13]
      simp [lpl]
      refine CallG.go c1 ?_
      simp
      refine CallG.go c2 ?_
      simp
      refine CallG.go c3 ?_
      simp
      exact hr _
    · have q1 : ffind nmC [(nmC, toldF W)] = some (toldF W) := by simp [ffind, ba_refl]
      have c2 := load_c 131072 [] (fcs F') F' nmC W sm_C (by decide) (by omega) hWb (by rw [g, q1])
      have c3 := same_c W W (by omega)
      rw [decide_eq_true rfl] at c3
      simp only [mcF, dkA] at c1 c2 ⊢
      rw [e2] at c1 c2
      clear lp
      generalize planP keep torn cut = p at *
      generalize fcs F' = f1 at *
      generalize fcs G = g0 at *
      generalize fcs [(nmC, toldF W)] = f0 at *
      generalize actsR A = A0 at *
      rw [e0]
      simp [lpl]
      refine CallG.go c1 ?_
      simp
      refine CallG.go c2 ?_
      simp
      refine CallG.go c3 ?_
      simp
      exact hr _
  · simp
    exact hr _
theorem lawCrash_c (T : List (List Nat)) (M : List AC) (keep torn cut : Int) (hb : ∀ t ∈ T, ∀ x ∈ t, x < 256) : ACall Try.prog 7 [.pv (.sl 1 (texts T)), .pv (.sl 8 (M.map AC.row)), .pagg (planP keep torn cut)] [] (.pv (.bool true)) [] [] := by
  refine ACall.fn (fn := Try.f7) rfl okC rfl (by simp) ?_
  simp only [argT, irC.eq_1]
  have hlT : (texts T).length = T.length := by rw [texts, List.length_map]
  have hlM : (M.map AC.row).length = M.length := by rw [List.length_map]
  by_cases h1 : 12 < T.length
  · have h1' : (12 : Int) < (T.length : Int) := by omega
    generalize texts T = R at *
    generalize M.map AC.row = R2 at *
    simp
    refine CallG.go swakes_c ?_
    simp [hlT, hlM, h1, h1']
  have h1' : ¬ (12 : Int) < (T.length : Int) := by omega
  by_cases h2 : 20 < M.length
  · have h2' : (20 : Int) < (M.length : Int) := by omega
    generalize texts T = R at *
    generalize M.map AC.row = R2 at *
    simp
    refine CallG.go swakes_c ?_
    simp [hlT, hlM, h1, h1', h2, h2']
  have h2' : ¬ (20 : Int) < (M.length : Int) := by omega
  have c1 := new_d 131072 (by decide)
  have e2 : ((131072 : Nat) : Int) = 131072 := rfl
  have e0 : ((0 : Nat) : Int) = 0 := rfl
  have e3 : krows .u8 [] = [] := rfl
  have e13 : ((13 : Nat) : Int) = 13 := rfl
  rw [e2] at c1
  have lp := fun Q g1 g2 g3 => (crashL1 (M.map AC.row) T (planP keep torn cut) (by omega) hb Q g1 g2 g3 T.length 0 (by omega) [] [] 13 (Or.inl ⟨rfl, rfl, rfl⟩)).1
  simp only [cS, e0, e3, e13] at lp
  have k1 := fun F W was a hS Q hr => crashRa M (by omega) T keep torn cut F W was a hS Q hr
  have k2 := fun F W was a hS Q hr => crashRb M (by omega) T keep torn cut F W was a hS Q hr
  simp only [cE, mcF] at lp k1 k2 c1
  generalize planP keep torn cut = p at *
  generalize texts T = R at *
  generalize M.map AC.row = R2 at *
  simp
  refine CallG.go swakes_c ?_
  simp [hlT, hlM, h1, h1', h2, h2']
  refine CallG.go c1 ?_
  simp [hlT]
  refine lp _ (fun F W was a hS => ?_) (fun F W was a hS => ?_) ?_
  · simp
    refine Alt.one ?_
    refine k1 F W was a hS _ fun ts => ?_
    simp
  · simp
    refine Alt.two ?_
    refine k2 F W was a hS _ fun ts => ?_
    simp
  · simp
theorem ok_pair' {a b : Shp} {ps : List PV} (h : OKs (.pair a b) ps) : ∃ p q, ps = p ++ q ∧ OKs a p ∧ OKs b q := ⟨_, _, (List.take_append_drop _ _).symm, h.1, h.2⟩
theorem ok_int' {k : IntKind} {ps : List PV} (h : OKs (.int k) ps) : ∃ n, ps = [.int k n] := by
  obtain ⟨n, h, _⟩ := h
  exact ⟨n, h⟩
theorem ok_unit' {ps : List PV} (h : OKs .unit ps) : ps = [] := h
def shPlanC : Shp := .pair (.int .u64) (.pair (.int .i64) (.pair (.int .i64) .unit))
theorem ok_planC {ps : List PV} (h2 : OKs shPlanC ps) : ∃ keep torn cut : Int, ps = planP keep torn cut := by
  obtain ⟨p, q, rfl, g1, g⟩ := ok_pair' h2
  obtain ⟨q, r, rfl, g2, g⟩ := ok_pair' g
  obtain ⟨r, t, rfl, g3, g4⟩ := ok_pair' g
  obtain ⟨a, rfl⟩ := ok_int' g1
  obtain ⟨b, rfl⟩ := ok_int' g2
  obtain ⟨c', rfl⟩ := ok_int' g3
  rw [ok_unit' g4]
  exact ⟨a, b, c', rfl⟩
theorem arg_planC {w : World} {c : Array Value} (h : Shp.Reads w shPlanC c.toList) : ∃ keep torn cut : Int, ArgR w (.agg c) (.pagg (planP keep torn cut)) := by
  obtain ⟨ps, h1, h2, h3⟩ := pvs_of_reads rfl h
  obtain ⟨a, b, c', rfl⟩ := ok_planC h2
  exact ⟨a, b, c', ArgR.agg h1⟩
def shActC : Shp := .pair (.int .i64) (.pair .str (.pair .str (.pair (.slice (.int .u8)) (.pair shPlanC (.pair (.int .i64) .unit)))))
theorem ok_actC {ps : List PV} (h : OKs shActC ps) : ∃ q : AC, ps = q.row := by
  obtain ⟨p1, q, rfl, g1, h1⟩ := ok_pair' h
  obtain ⟨p2, q, rfl, g2, h2⟩ := ok_pair' h1
  obtain ⟨p3, q, rfl, g3, h3⟩ := ok_pair' h2
  obtain ⟨p4, q, rfl, g4, h4⟩ := ok_pair' h3
  obtain ⟨p5, q, rfl, g5, h5⟩ := ok_pair' h4
  obtain ⟨p6, q, rfl, g6, h6⟩ := ok_pair' h5
  obtain ⟨a, rfl⟩ := ok_int' g1
  obtain ⟨n, rfl⟩ := g2
  obtain ⟨t, rfl⟩ := g3
  obtain ⟨v, rfl, _, _⟩ := ok_sln rfl g4
  obtain ⟨x, y, z, rfl⟩ := ok_planC g5
  obtain ⟨b, rfl⟩ := ok_int' g6
  rw [ok_unit' h6]
  exact ⟨⟨a, n, t, v, x, y, z, b⟩, rfl⟩
theorem rows_acts : ∀ {es : List (List PV)}, (∀ r ∈ es, OKs shActC r) → ∃ M : List AC, es = M.map AC.row
  | [], _ => ⟨[], rfl⟩
  | r :: es, h => by
    obtain ⟨q, rfl⟩ := ok_actC (h r List.mem_cons_self)
    obtain ⟨M, rfl⟩ := rows_acts (es := es) fun x hx => h x (List.mem_cons_of_mem _ hx)
    exact ⟨q :: M, rfl⟩
theorem arg_acts {w : World} {a : Option Addr} {n c : Nat} (h : Shp.Reads w (.slice shActC) [.slice a n c]) : ∃ M : List AC, ArgR w (.slice a n c) (.pv (.sl 8 (M.map AC.row))) := by
  obtain ⟨ps, h1, h2, h3⟩ := pvs_of_reads rfl h
  obtain ⟨es, rfl, q1, q2⟩ := h2
  obtain ⟨M, rfl⟩ := rows_acts q2
  exact ⟨M, ArgR.pv (h1.2 0 _ _ rfl rfl)⟩
theorem walkSnapsCrash (a0 : Option Addr) (l0 c0 : Nat) (a1 : Option Addr) (l1 c1 : Nat) (c2 : Array Value) (w : World) (k0 : Shp.Reads w (.slice (.slice (.int .u8))) [.slice a0 l0 c0]) (k1 : Shp.Reads w (.slice shActC) [.slice a1 l1 c1]) (k2 : Shp.Reads w shPlanC c2.toList) :
     Calls Try.prog 7 #[.slice a0 l0 c0, .slice a1 l1 c1, .agg c2] w fun e w' => e = .returned (.bool true) ∧ Below w.heap.size w w' := by
  obtain ⟨T, q0, _, _, hb⟩ := arg_ssl8 k0
  obtain ⟨M, q1⟩ := arg_acts k1
  obtain ⟨keep, torn, cut, q2⟩ := arg_planC k2
  refine lawCalls (lawCrash_c T M keep torn cut hb) rfl fun i v av hv hav => ?_
  match i with
  | 0 => cases hv; cases hav; exact q0
  | 1 => cases hv; cases hav; exact q1
  | 2 => cases hv; cases hav; exact q2
  | n + 3 => simp at hv
end Go.Proofs.Ytlbfpnckoblppaa
