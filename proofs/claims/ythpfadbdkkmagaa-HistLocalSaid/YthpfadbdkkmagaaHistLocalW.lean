/- The law HistLocal. -/
import Derived.Test.YthpfadbdkkmagaaHistG
set_option linter.unusedVariables false
set_option linter.unusedSimpArgs false
namespace Go.Proofs.Ythpfadbdkkmagaa
open Go.Abs Go.RowKit Go.Ours

theorem evs_one (l : List Ev) (e : Ev) : evs l ++ [evP e] = evs (l ++ [e]) := by simp [evs]
theorem fk_take (l : List Ev) (K : Int) (k : Nat) (e : Ev) (he : l[k]? = some e) : fk K (l.take (k + 1)) = if e.ky = K then fk K (l.take k) ++ [e] else fk K (l.take k) := by
  rw [List.take_add_one, he]
  by_cases h : e.ky = K <;> simp [fk, h]
theorem fk_len (l : List Ev) (K : Int) : (fk K l).length ≤ l.length := List.length_filter_le _ _
theorem ownL (l : List Ev) (ll : l.length ≤ 12) (K : Nat) (c : List Cl) (u v : Bool) : ∀ (n k : Nat), k + n = l.length → ∀ (Q : Exit → S → Prop),
    (∀ a b d e f, Q (.exit 2) (mk [(1, .pv (.sl 9 (evs l))), (2, .ptr 2 0), (5, .pv (.bool u)), (7, .pv (.bool v)), (8, a), (9, .os 40 9 (evs (fk (K : Int) l))), (29, .pv (.int .i64 (K : Nat))), (32, b), (33, d), (34, e), (35, f)] [(2, .pagg (cellsP c))])) →
    LoopW Try.prog [1, 2, 5, 7, 8, 9, 29, 32, 33, 34] [2] irLaw26HistLocal_L2 (mk [(1, .pv (.sl 9 (evs l))), (2, .ptr 2 0), (5, .pv (.bool u)), (7, .pv (.bool v)), (8, .pv (.int .i64 (K : Nat))), (9, .os 40 9 (evs (fk (K : Int) (l.take k)))), (29, .pv (.int .i64 (K : Nat))), (32, .pv (.sl 9 (evs l))), (33, .pv (.int .i64 (l.length : Nat))), (34, .pv (.int .i64 (k : Nat)))] [(2, .pagg (cellsP c))]) Q := by
  intro n
  induction n with
  | zero =>
    intro k hk Q h1
    obtain rfl : k = l.length := by omega
    rw [List.take_length]
    refine LoopW.go irLaw26HistLocal_L2.eq_1 (by simp) ?_
    simp
    exact h1 _ _ _ _ _
  | succ n ih =>
    intro k hk Q h1
    have i1 : k < l.length := by omega
    obtain ⟨e, he⟩ : ∃ e, l[k]? = some e := ⟨_, List.getElem?_eq_getElem (by omega)⟩
    have w : IntKind.i64.wrap ((k : Int) + 1) = (k + 1 : Nat) := by rw [wrap_i64] <;> omega
    have ht := fk_take l K k e he
    have hlen := fk_len (l.take k) K
    have hlen2 : (fk (K : Int) (l.take k)).length ≤ 99999999999 := by
      have := List.length_take_le k l
      omega
    have f := ih (k + 1) (by omega) Q h1
    refine LoopW.go irLaw26HistLocal_L2.eq_1 (by simp) ?_
    by_cases h : e.ky = K
    · rw [ht, if_pos h, ← evs_one] at f
      simp [evP, h] at f
      simp [-getElem?_pos, i1, evs_get, evs_length, he, evP, h, hlen2, w]
      exact f
    · rw [ht, if_neg h] at f
      simp at f
      simp [-getElem?_pos, i1, evs_get, evs_length, he, evP, h, w]
      exact f
theorem fk_right {l : List Ev} (h : l.all rightE = true) (K : Int) : (fk K l).all rightE = true := by
  rw [List.all_eq_true] at h ⊢
  intro x hx
  exact h x (List.mem_filter.1 hx).1
theorem keyl (l : List Ev) (ll : l.length ≤ 7) (hr : l.all rightE = true) (c : List Cl) (hc : c.length = 16) (u : Bool) : ∀ (n K : Nat) (v : Bool), K + n = 16 → (v = true ↔ ∀ j : Nat, j < K → Lin (fk (j : Int) l) 0 c) → ∀ (Q : Exit → S → Prop),
    (∀ v, (v = true ↔ ∀ j : Nat, j < 16 → Lin (fk (j : Int) l) 0 c) → ∀ a b d e f, Q (.exit 0) (mk [(1, a), (2, b), (5, .pv (.bool u)), (7, .pv (.bool v)), (29, d), (30, e)] [(2, f)])) →
    LoopW Try.prog [1, 2, 5, 7, 29] [2] irLaw26HistLocal_L1 (mk [(1, .pv (.sl 9 (evs l))), (2, .ptr 2 0), (5, .pv (.bool u)), (7, .pv (.bool v)), (29, .pv (.int .i64 (K : Nat)))] [(2, .pagg (cellsP c))]) Q := by
  intro n
  have hcl : (cellsP c).length = 32 := by rw [cellsP_len, hc]
  have ht32 := cellsP_take32 hc
  induction n with
  | zero =>
    intro K v hk hv Q h1
    obtain rfl : K = 16 := by omega
    refine LoopW.go irLaw26HistLocal_L1.eq_1 (by simp) ?_
    have h := h1 v hv
    simp at h ⊢
    exact h _ _ _ _ _
  | succ n ih =>
    intro K v hk hv Q h1
    have i1 : K < 16 := by omega
    have i1' : (K : Int) < 16 := by omega
    have w : IntKind.i64.wrap ((K : Int) + 1) = (K + 1 : Nat) := by rw [wrap_i64] <;> omega
    have hlen := fk_len l (K : Int)
    obtain ⟨b, c1, hb⟩ := linear_c (fk (K : Int) l) c hc (by omega)
    have he : linE (fk (K : Int) l) = 0 := by rw [linE, if_neg (by omega), if_pos (fk_right hr _)]
    rw [he] at c1
    simp only [he, true_and] at hb
    have lp := ownL l (by omega) K c u v l.length 0 (by omega)
    simp [fk, evs] at lp
    have f := ih (K + 1) (v && b) (by omega) (by
      rw [Bool.and_eq_true, hv, hb]
      constructor
      · rintro ⟨q1, q2⟩ j hj
        by_cases hjk : j = K
        · subst hjk; exact q2
        · exact q1 j (by omega)
      · intro q
        exact ⟨fun j hj => q j (by omega), q K (by omega)⟩) Q h1
    refine LoopW.go irLaw26HistLocal_L1.eq_1 (by simp) ?_
    simp [i1, i1', evs_length]
    simp only [evs]
    refine lp _ fun a b' d e f' => ?_
    simp only [fk, evs] at c1
    simp [hcl, ht32]
    refine CallG.go c1 ?_
    cases v
    · simp [evs] at f
      simp [w]
      exact f
    · simp [evs] at f
      simp [w]
      exact f
theorem lawLocal_c (c : List Cl) (hc : c.length = 16) (l : List Ev) : ACall Try.prog 7 [.pagg (cellsP c), .pv (.sl 9 (evs l))] [] (.pv (.bool true)) [] [] := by
  refine ACall.fn (fn := Try.f7) rfl okLaw26HistLocal rfl (by simp) ?_
  simp only [argT, irLaw26HistLocal.eq_1]
  have hcl : (cellsP c).length = 32 := by rw [cellsP_len, hc]
  have ht32 := cellsP_take32 hc
  simp
  refine CallG.go wakes_c ?_
  by_cases h1 : 7 < l.length
  · have h1' : (7 : Int) < (l.length : Int) := by omega
    simp [evs_length, h1, h1']
  · have h1' : ¬ (7 : Int) < (l.length : Int) := by omega
    obtain ⟨b, c1, hb⟩ := linear_c l c hc (by omega)
    simp [evs_length, h1, h1', hcl, ht32]
    refine CallG.go c1 ?_
    by_cases hr : l.all rightE = true
    · have he : linE l = 0 := by rw [linE, if_neg (by omega), if_pos hr]
      simp only [he, true_and] at hb
      rw [he]
      have lp := keyl l (by omega) hr c hc b 16 0 true (by omega) (by simp)
      simp
      refine lp _ fun v hv a b' d e f => ?_
      have hloc := local_iff l c hc (List.all_eq_true.1 hr)
      have hbv : b = v := by rw [Bool.eq_iff_iff, hb, hv, hloc]
      subst hbv
      simp
    · have he : linE l = 15 := by rw [linE, if_neg (by omega), if_neg hr]
      have hbf : b = false := by
        cases b
        · rfl
        · have := (hb.1 rfl).1
          omega
      subst hbf
      rw [he]
      simp
theorem walkHistLocal (c0 : Array Value) (a1 : Option Addr) (l1 c1 : Nat) (w : World) (k0 : Shp.Reads w (.arr 16 shC) c0.toList) (k1 : Shp.Reads w (.slice shE) [.slice a1 l1 c1]) :
     Calls Try.prog 7 #[.agg c0, .slice a1 l1 c1] w fun e w' => e = .returned (.bool true) ∧ Below w.heap.size w w' := by
  obtain ⟨C, q0, hC⟩ := arg_cells k0
  obtain ⟨l, q1, hl⟩ := arg_evs k1
  refine lawCalls (lawLocal_c C hC l) rfl fun i v av hv ha => ?_
  match i with
  | 0 => cases hv; cases ha; exact q0
  | 1 => cases hv; cases ha; exact q1
  | n + 2 => simp at hv
end Go.Proofs.Ythpfadbdkkmagaa
