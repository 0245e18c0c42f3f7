/- Contract of hist.Linear. No condition. -/
import Derived.Test.YthpfadbdkkmagaaHistC
set_option linter.unusedVariables false
set_option linter.unusedSimpArgs false
namespace Go.Proofs.Ythpfadbdkkmagaa
open Go.Abs Go.RowKit Go.Ours

/-- The error that Linear tells. -/
def linE (l : List Ev) : Nat := if 12 < l.length then 4 else if l.all rightE = true then 0 else 15
theorem linl (l : List Ev) (ll : l.length ≤ 12) (c : List Cl) (hc : c.length = 16) : ∀ (n k : Nat), k + n = l.length → ∀ (Q : Exit → S → Prop),
    ((l.drop k).all rightE = true → ∀ a b d f, Q (.exit 0) (mk [(2, .ptr 2 0), (6, .ptr 15 0), (16, a), (17, b), (18, d), (19, f)] [(2, .pagg (cellsP c)), (13, .mc true cks []), (15, .agg [.pv (.sl 9 (evs l)), .pv (.int .u16 (dm l : Nat)), .mp 13])])) →
    ((l.drop k).all rightE = false → Q .ret (mk [(4, .pv (.bool false)), (5, .pv (.int .i64 15))] [])) →
    LoopW Try.prog [2, 6, 16, 17, 18] [2, 13, 15] irHistLinear_L1 (mk [(2, .ptr 2 0), (6, .ptr 15 0), (16, .pv (.sl 9 (evs l))), (17, .pv (.int .i64 (l.length : Nat))), (18, .pv (.int .i64 (k : Nat)))] [(2, .pagg (cellsP c)), (13, .mc true cks []), (15, .agg [.pv (.sl 9 (evs l)), .pv (.int .u16 (dmF k l : Nat)), .mp 13])]) Q := by
  intro n
  induction n with
  | zero =>
    intro k hk Q h1 h2
    obtain rfl : k = l.length := by omega
    refine LoopW.go irHistLinear_L1.eq_1 (by simp) ?_
    have h := h1 (by simp)
    simp [dm] at h ⊢
    exact h _ _ _ _
  | succ n ih =>
    intro k hk Q h1 h2
    have i1 : k < l.length := by omega
    obtain ⟨e, he⟩ : ∃ e, l[k]? = some e := ⟨_, List.getElem?_eq_getElem (by omega)⟩
    have w : IntKind.i64.wrap ((k : Int) + 1) = (k + 1 : Nat) := by rw [wrap_i64] <;> omega
    have hd : l.drop k = e :: l.drop (k + 1) := by
      rw [List.drop_eq_getElem_cons i1]
      rw [List.getElem?_eq_getElem i1] at he
      simp only [Option.some.injEq] at he
      rw [he]
    rw [hd, List.all_cons] at h1 h2
    have c1 := right_c e
    have hs : dmF (k + 1) l = if e.dn = true then dmF k l ||| 2 ^ k else dmF k l := by rw [dmF, he]
    cases hr : rightE e
    · rw [hr] at c1 h2
      refine LoopW.go irHistLinear_L1.eq_1 (by simp) ?_
      simp [-getElem?_pos, i1, evs_get, evs_length, he, evP] at c1 ⊢
      refine CallG.go c1 ?_
      simp
      exact h2 rfl
    · rw [hr, Bool.true_and] at h1 h2
      rw [hr] at c1
      have ih' := ih (k + 1) (by omega) Q h1 h2
      rw [hs] at ih'
      refine LoopW.go irHistLinear_L1.eq_1 (by simp) ?_
      simp [-getElem?_pos, i1, evs_get, evs_length, he, evP] at c1 ⊢
      refine CallG.go c1 ?_
      cases hdn : e.dn
      · rw [hdn] at ih'
        simp at ih'
        simp [hdn, w]
        exact ih'
      · rw [hdn, if_pos rfl] at ih'
        have hlt := dmF_lt l k (by omega)
        obtain ⟨p, b1, b2, b3, b4⟩ := bit_set (dmF k l) k (by omega) (by omega)
        generalize dmF k l = t at *
        generalize t ||| 2 ^ k = u at *
        simp at ih'
        simp [hdn, b1, b2, b3, b4, w]
        exact ih'
theorem linear_c (l : List Ev) (c : List Cl) (hc : c.length = 16) (hL : l.length ≤ 10000000000) : ∃ b, ACall Try.prog 10 [.pagg (cellsP c), .pv (.sl 9 (evs l))] [] (.tup [.pv (.bool b), .pv (.int .i64 (linE l : Nat))]) [] [] ∧ (b = true ↔ linE l = 0 ∧ Lin l 0 c) := by
  have hcl : (cellsP c).length = 32 := by rw [cellsP_len, hc]
  have ht32 := cellsP_take32 hc
  by_cases hl : 12 < l.length
  · have he : linE l = 4 := by rw [linE, if_pos hl]
    refine ⟨false, ?_, by simp [he]⟩
    have hl' : (12 : Int) < (l.length : Int) := by omega
    refine ACall.fn (fn := Try.f10) rfl okHistLinear rfl (by simp) ?_
    simp only [argT, irHistLinear.eq_1, he]
    simp [evs_length, hl, hl']
  · have hl' : ¬ (12 : Int) < (l.length : Int) := by omega
    have ll : l.length ≤ 12 := by omega
    have lp := linl l ll c hc l.length 0 (by omega)
    rw [List.drop_zero] at lp
    by_cases hr : l.all rightE = true
    · have he : linE l = 0 := by rw [linE, if_neg hl, if_pos hr]
      obtain ⟨b, m', c1, hb, _⟩ := from_all l ll 4096 0 c (by omega) (by omega) hc (fun _ _ => False) [] (fun _ _ h => h.elim) (fun q h => by simp at h)
      refine ⟨b, ?_, by rw [hb]; simp [he]⟩
      refine ACall.fn (fn := Try.f10) rfl okHistLinear rfl (by simp) ?_
      simp only [argT, irHistLinear.eq_1, he]
      simp only [dmF] at lp
      simp at lp
      simp [evs_length, hl, hl', cksL]
      refine lp _ (fun _ a b' d f => ?_) (fun x hx hx2 => ?_)
      · simp [hcl, ht32, List.idxOf?_cons]
        simp only [srch, metA, spotP, mets, List.map_nil] at c1
        refine CallG.go c1 ?_
        simp
      · have := List.all_eq_true.1 hr x hx
        rw [this] at hx2; cases hx2
    · have he : linE l = 15 := by rw [linE, if_neg hl, if_neg hr]
      refine ⟨false, ?_, by simp [he]⟩
      refine ACall.fn (fn := Try.f10) rfl okHistLinear rfl (by simp) ?_
      simp only [argT, irHistLinear.eq_1, he]
      simp only [dmF] at lp
      simp at lp
      simp [evs_length, hl, hl', cksL]
      refine lp _ (fun h a b' d f => ?_) (fun x hx hx2 => ?_)
      · exact absurd (by simpa using h) hr
      · simp
end Go.Proofs.Ythpfadbdkkmagaa
