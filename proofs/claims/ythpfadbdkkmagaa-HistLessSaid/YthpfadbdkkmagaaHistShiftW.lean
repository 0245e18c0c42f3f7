/- The law HistShift. -/
import Derived.Test.YthpfadbdkkmagaaHistG
import Derived.Test.YthpfadbdkkmagaaIrHistO
set_option linter.unusedVariables false
set_option linter.unusedSimpArgs false
namespace Go.Proofs.Ythpfadbdkkmagaa
open Go.Abs Go.RowKit Go.Ours

def evF (l : List Ev) : List PV := (evs l).flatten
theorem evF_cons (e : Ev) (l : List Ev) : evF (e :: l) = evP e ++ evF l := rfl
theorem evF_len : ∀ l : List Ev, (evF l).length = l.length * 9
  | [] => rfl
  | e :: l => by rw [evF_cons, List.length_append, evF_len l, List.length_cons]; simp [evP]; omega
theorem evF_part : ∀ (l : List Ev) (k : Nat) (e : Ev), l[k]? = some e → ((evF l).drop (k * 9)).take 9 = evP e
  | [], k, e, h => by simp at h
  | x :: l, 0, e, h => by
    simp at h
    subst h
    rw [evF_cons]
    exact List.take_left' rfl
  | x :: l, k + 1, e, h => by
    rw [evF_cons, show (k + 1) * 9 = 9 + k * 9 by omega, ← List.drop_drop, show (evP x ++ evF l).drop 9 = evF l from List.drop_left' rfl]
    exact evF_part l k e (by simpa using h)
theorem evF_get {l : List Ev} {k : Nat} {e : Ev} (h : l[k]? = some e) (j : Nat) (hj : j < 9) : (evF l)[k * 9 + j]? = (evP e)[j]? := by
  have hp := evF_part l k e h
  rw [← hp, List.getElem?_take, if_pos hj, List.getElem?_drop]
theorem evF_set : ∀ (l : List Ev) (k : Nat) (e : Ev) (j : Nat) (p : PV) (e' : Ev), l[k]? = some e → j < 9 → (evP e).set j p = evP e' → (evF l).set (k * 9 + j) p = evF (l.set k e')
  | [], k, e, j, p, e', h, _, _ => by simp at h
  | x :: l, 0, e, j, p, e', h, hj, hs => by
    simp at h
    subst h
    rw [Nat.zero_mul, Nat.zero_add, List.set_cons_zero, evF_cons, evF_cons, List.set_append_left _ _ (by simpa [evP] using hj), hs]
  | x :: l, k + 1, e, j, p, e', h, hj, hs => by
    rw [List.set_cons_succ, evF_cons, evF_cons, ← evF_set l k e j p e' (by simpa using h) hj hs, List.set_append_right _ _ (by simp [evP]; omega)]
    congr 2
    simp [evP]
    omega
theorem evF_rows (l : List Ev) : rowsN 9 l.length 0 (evF l) = evs l := by
  apply List.ext_getElem?
  intro i
  rw [evs_get]
  by_cases hi : i < l.length
  · simp only [rowsN, List.getElem?_map, List.getElem?_range hi, Option.map_some, Nat.zero_add]
    rw [List.getElem?_eq_getElem hi, Option.map_some, evF_part l i l[i] (List.getElem?_eq_getElem hi)]
  · rw [List.getElem?_eq_none (by simp [rowsN]; omega), List.getElem?_eq_none (by omega)]
    rfl
def shE1 (v y : Int) (e : Ev) : Ev := { e with bg := v * e.bg + y }
def shE2 (v y : Int) (e : Ev) : Ev := { e with en := v * e.en + y }
def shF (v y : Int) (e : Ev) : Ev := { e with bg := v * e.bg + y, en := v * e.en + y }
def inB (e : Ev) : Prop := e.bg ≤ 1073741824 ∧ -1073741824 ≤ e.bg ∧ e.en ≤ 1073741824 ∧ -1073741824 ≤ e.en
theorem sh_bound {v y b : Int} (hv : 1 ≤ v ∧ v ≤ 7) (hy : 0 ≤ y ∧ y ≤ 65535) (h1 : b ≤ 1073741824) (h2 : -1073741824 ≤ b) : -8589934592 ≤ v * b ∧ v * b ≤ 8589934592 := by
  have hc : v = 1 ∨ v = 2 ∨ v = 3 ∨ v = 4 ∨ v = 5 ∨ v = 6 ∨ v = 7 := by omega
  rcases hc with rfl | rfl | rfl | rfl | rfl | rfl | rfl <;> omega
theorem sh_lt {v : Int} (hv : 1 ≤ v) (y a b : Int) : v * a + y < v * b + y ↔ a < b := by
  constructor
  · intro h
    rcases Int.lt_or_le a b with h1 | h1
    · exact h1
    · have := Int.mul_le_mul_of_nonneg_left h1 (by omega : (0 : Int) ≤ v)
      omega
  · intro h
    have := Int.mul_lt_mul_of_pos_left h (by omega : (0 : Int) < v)
    omega
theorem sh_lin (l : List Ev) (v y : Int) (hv : 1 ≤ v) (c : List Cl) : linE (l.map (shF v y)) = linE l ∧ (Lin (l.map (shF v y)) 0 c ↔ Lin l 0 c) := by
  have ha : ∀ a b : Ev, aheadB (shF v y a) (shF v y b) = aheadB a b := fun a b => by
    have := sh_lt hv y a.en b.bg
    unfold aheadB shF
    simp only [this]
  have hr : ∀ a : Ev, rightE (shF v y a) = rightE a := fun a => by
    have := sh_lt hv y a.en a.bg
    have h2 : (v * a.bg + y ≤ v * a.en + y) ↔ (a.bg ≤ a.en) := by omega
    unfold rightE shF
    simp only [h2]
  refine ⟨?_, ?_, ?_⟩
  · have e : (l.map (shF v y)).all rightE = l.all rightE := by
      rw [List.all_map]
      congr 1
      funext a
      exact hr a
    unfold linE
    rw [e, List.length_map]
  · refine Lin.weak (by simp) (fun i e f he hf => ?_) (fun i j e f e' f' he hf he' hf' hh => ?_)
    · rw [List.getElem?_map, hf] at he
      cases he
      exact ⟨rfl, rfl, rfl, rfl, fun h => ⟨h, rfl⟩⟩
    · rw [List.getElem?_map, hf] at he
      rw [List.getElem?_map, hf'] at he'
      cases he
      cases he'
      rw [ha]
      exact hh
  · refine Lin.weak (by simp) (fun i e f he hf => ?_) (fun i j e f e' f' he hf he' hf' hh => ?_)
    · rw [List.getElem?_map, he] at hf
      cases hf
      exact ⟨rfl, rfl, rfl, rfl, fun h => ⟨h, rfl⟩⟩
    · rw [List.getElem?_map, he] at hf
      rw [List.getElem?_map, he'] at hf'
      cases hf
      cases hf'
      rw [ha] at hh
      exact hh
theorem shl (l : List Ev) (ll : l.length ≤ 8) (l0 : 0 < l.length) (c : List Cl) (v y y1 : Nat) (hv : 1 ≤ v ∧ v ≤ 7) (hy : y < 65536) : ∀ (n k : Nat) (m : List Ev), k + n = l.length → m.length = l.length → m.take k = (l.take k).map (shF v y) → m.drop k = l.drop k → ∀ (Q : Exit → S → Prop),
    (∀ a b d e f, Q (.exit 0) (mk [(1, .pv (.sl 9 (evs l))), (3, .ptr 3 0), (5, a), (7, .sr 21 0 l.length 9), (8, b), (28, d), (29, e), (30, .pv (.bool false))] [(3, .pagg (cellsP c)), (5, f), (21, .pagg (evF (l.map (shF v y))))])) →
    Q .ret (mk [(6, .pv (.bool true))] []) →
    LoopW Try.prog [1, 3, 5, 7, 8, 28, 29] [3, 5, 21] irLaw26HistShift_L1 (mk [(1, .pv (.sl 9 (evs l))), (3, .ptr 3 0), (5, .ptr 5 0), (7, .sr 21 0 l.length 9), (8, .pv (.int .i64 (v : Nat))), (28, .pv (.int .i64 (l.length : Nat))), (29, .pv (.int .i64 (k : Nat)))] [(3, .pagg (cellsP c)), (5, .pagg [.int .u16 (y : Nat), .int .u16 (y1 : Nat)]), (21, .pagg (evF m))]) Q := by
  intro n
  induction n with
  | zero =>
    intro k m hk hml ht hd Q h1 h2
    obtain rfl : k = l.length := by omega
    have hm : m = l.map (shF v y) := by
      rw [← hml, List.take_length] at ht
      rw [ht, hml, List.take_length]
    subst hm
    refine LoopW.go irLaw26HistShift_L1.eq_1 (by simp) ?_
    simp
    exact h1 _ _ _ _ _
  | succ n ih =>
    intro k m hk hml ht hd Q h1 h2
    have i1 : k < l.length := by omega
    obtain ⟨e, he⟩ : ∃ e, l[k]? = some e := ⟨_, List.getElem?_eq_getElem (by omega)⟩
    have w : IntKind.i64.wrap ((k : Int) + 1) = (k + 1 : Nat) := by rw [wrap_i64] <;> omega
    have hme : m[k]? = some e := by
      have := congrArg (·[0]?) hd
      simpa [he] using this
    have hfl : (evF m).length = l.length * 9 := by rw [evF_len, hml]
    have g4 := evF_get hme 4 (by omega)
    have g5 := evF_get hme 5 (by omega)
    have hk9 : k * 9 + 4 < l.length * 9 := by omega
    have hk95 : k * 9 + 5 < l.length * 9 := by omega
    simp [evP] at g4 g5
    refine LoopW.go irLaw26HistShift_L1.eq_1 (by simp) ?_
    by_cases b1 : 1073741824 < e.bg
    · simp [-getElem?_pos, i1, g4, g5, hfl, hk9, hk95, b1]
      exact h2
    · by_cases b2 : e.bg < -1073741824
      · simp [-getElem?_pos, i1, g4, g5, hfl, hk9, hk95, b1, b2]
        exact h2
      · by_cases b3 : 1073741824 < e.en
        · simp [-getElem?_pos, i1, g4, g5, hfl, hk9, hk95, b1, b2, b3]
          exact h2
        · by_cases b4 : e.en < -1073741824
          · simp [-getElem?_pos, i1, g4, g5, hfl, hk9, hk95, b1, b2, b3, b4]
            exact h2
          · obtain ⟨q1, q2⟩ := sh_bound (v := v) (y := y) (b := e.bg) (by omega) (by omega) (by omega) (by omega)
            obtain ⟨q3, q4⟩ := sh_bound (v := v) (y := y) (b := e.en) (by omega) (by omega) (by omega) (by omega)
            have w1 : IntKind.i64.wrap ((v : Int) * e.bg) = (v : Int) * e.bg := by rw [wrap_i64] <;> omega
            have w2 : IntKind.i64.wrap ((v : Int) * e.en) = (v : Int) * e.en := by rw [wrap_i64] <;> omega
            have w3 : IntKind.i64.wrap (y : Int) = (y : Int) := by rw [wrap_i64] <;> omega
            have w4 : IntKind.i64.wrap ((v : Int) * e.bg + (y : Int)) = (v : Int) * e.bg + (y : Int) := by rw [wrap_i64] <;> omega
            have w5 : IntKind.i64.wrap ((v : Int) * e.en + (y : Int)) = (v : Int) * e.en + (y : Int) := by rw [wrap_i64] <;> omega
            have s1 := evF_set m k e 4 (.int .i64 ((v : Int) * e.bg + (y : Int))) (shE1 v y e) hme (by omega) rfl
            have hme2 : (m.set k (shE1 v y e))[k]? = some (shE1 v y e) := by
              rw [List.getElem?_set, if_pos rfl, if_pos (by omega)]
            have s2 := evF_set (m.set k (shE1 v y e)) k (shE1 v y e) 5 (.int .i64 ((v : Int) * e.en + (y : Int))) (shF v y e) hme2 (by omega) rfl
            have hfl2 : (evF (m.set k (shE1 v y e))).length = l.length * 9 := by rw [evF_len, List.length_set, hml]
            have g52 : (evF (m.set k (shE1 v y e)))[k * 9 + 5]? = some (.int .i64 e.en) := evF_get hme2 5 (by omega)
            rw [List.set_set] at s2
            have ih' := ih (k + 1) (m.set k (shF v y e)) (by omega) (by rw [List.length_set, hml]) (by
              rw [List.take_add_one, List.take_set_of_le (Nat.le_refl _), ht, List.getElem?_set, if_pos rfl, if_pos (by omega), List.take_add_one, he]
              simp) (by
              rw [List.drop_set_of_lt (by omega)]
              have := congrArg (List.drop 1) hd
              simpa [List.drop_drop, Nat.add_comm] using this) Q h1 h2
            generalize hm1 : m.set k (shE1 v y e) = m1 at *
            generalize hm2 : m.set k (shF v y e) = m2 at *
            simp at ih'
            simp [-getElem?_pos, i1, g4, g5, g52, hfl, hfl2, hk9, hk95, b1, b2, b3, b4, w1, w2, w3, w4, w5, s1, s2, w]
            exact ih'
theorem lawShift_c (c : List Cl) (hc : c.length = 16) (l : List Ev) (y y1 : Nat) (hy : y < 65536) (hy1 : y1 < 65536) : ACall Try.prog 6 [.pagg (cellsP c), .pv (.sl 9 (evs l)), .pagg [.int .u16 (y : Nat), .int .u16 (y1 : Nat)]] [] (.pv (.bool true)) [] [] := by
  refine ACall.fn (fn := Try.f6) rfl okLaw26HistShift rfl (by simp) ?_
  simp only [argT, irLaw26HistShift.eq_1]
  have hcl : (cellsP c).length = 32 := by rw [cellsP_len, hc]
  have ht32 := cellsP_take32 hc
  simp
  refine CallG.go wakes_c ?_
  by_cases h1 : 8 < l.length
  · have h1' : (8 : Int) < (l.length : Int) := by omega
    simp [evs_length, h1, h1']
  · have h1' : ¬ (8 : Int) < (l.length : Int) := by omega
    have hll : l.length ≤ 100000000000 := by omega
    obtain ⟨r, hr⟩ : ∃ r, r = y1 % 7 := ⟨_, rfl⟩
    have w1 : IntKind.i64.wrap (y1 : Int) = y1 := by rw [wrap_i64] <;> omega
    have w2 : (y1 : Int).tmod 7 = (r : Int) := by rw [hr]; rfl
    obtain ⟨v, hv⟩ : ∃ v, v = 1 + r := ⟨_, rfl⟩
    have w3 : IntKind.i64.wrap (1 + (r : Int)) = (v : Int) := by rw [wrap_i64] <;> omega
    obtain ⟨b1, c1, g1⟩ := linear_c l c hc (by omega)
    by_cases h0 : l = []
    · subst h0
      have e0 : evs [] = [] := rfl
      rw [e0] at c1 ⊢
      simp [hcl, ht32, w1, w2, w3]
      refine LoopW.go irLaw26HistShift_L1.eq_1 (by simp) ?_
      simp [hcl, ht32]
      refine CallG.go c1 ?_
      simp [hcl, ht32]
      refine CallG.go c1 ?_
      simp
    · have hpos : 0 < l.length := List.length_pos_iff.2 h0
      have hpos' : ¬ l.length = 0 := by omega
      obtain ⟨q1, q2⟩ := sh_lin l v y (by omega) c
      obtain ⟨b2, c2, g2⟩ := linear_c (l.map (shF v y)) c hc (by simp; omega)
      have eb : b1 = b2 := by rw [Bool.eq_iff_iff, g1, g2, q1, q2]
      subst eb
      rw [q1] at c2
      have lp := shl l (by omega) hpos c v y y1 (by omega) hy l.length 0 l (by omega) rfl (by simp) (by simp)
      have hr := evF_rows (l.map (shF v y))
      rw [List.length_map] at hr
      have hfl : (evF (l.map (shF v y))).length = l.length * 9 := by rw [evF_len, List.length_map]
      simp at lp
      simp [evs_length, h1, h1', h0, hpos', hll, hcl, ht32, w1, w2, w3]
      refine lp _ (fun a b d e f => ?_) ?_
      · simp [hcl, ht32]
        refine CallG.go c1 ?_
        simp [hcl, ht32, hr, hfl, hpos]
        refine CallG.go c2 ?_
        simp
      · simp
theorem arg_u2 {w : World} {c : Array Value} (h : Shp.Reads w (.arr 2 (.int .u16)) c.toList) : ∃ y y1 : Nat, ArgR w (.agg c) (.pagg [.int .u16 (y : Nat), .int .u16 (y1 : Nat)]) ∧ y < 65536 ∧ y1 < 65536 := by
  obtain ⟨ps, h1, h2, h3⟩ := pvs_of_reads rfl h
  obtain ⟨l, rfl, hl, hb⟩ := ok_arrn (k := .u16) rfl h2
  match l, hl, hb with
  | [y, y1], _, hb => exact ⟨y, y1, ArgR.agg h1, hb y (by simp), hb y1 (by simp)⟩
theorem walkHistShift (c0 : Array Value) (a1 : Option Addr) (l1 c1 : Nat) (c2 : Array Value) (w : World) (k0 : Shp.Reads w (.arr 16 shC) c0.toList) (k1 : Shp.Reads w (.slice shE) [.slice a1 l1 c1]) (k2 : Shp.Reads w (.arr 2 (.int .u16)) c2.toList) :
     Calls Try.prog 6 #[.agg c0, .slice a1 l1 c1, .agg c2] w fun e w' => e = .returned (.bool true) ∧ Below w.heap.size w w' := by
  obtain ⟨C, q0, hC⟩ := arg_cells k0
  obtain ⟨l, q1, hl⟩ := arg_evs k1
  obtain ⟨y, y1, q2, hy, hy1⟩ := arg_u2 k2
  refine lawCalls (lawShift_c C hC l y y1 hy hy1) rfl fun i v av hv ha => ?_
  match i with
  | 0 => cases hv; cases ha; exact q0
  | 1 => cases hv; cases ha; exact q1
  | 2 => cases hv; cases ha; exact q2
  | n + 3 => simp at hv
end Go.Proofs.Ythpfadbdkkmagaa
