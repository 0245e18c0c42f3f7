/- consistoryref02.Word's and sha.rounds' contracts. -/
import Derived.Test.YtlbfpnckoblppaaShaC
set_option linter.unusedVariables false
set_option linter.unusedSimpArgs false
namespace Go.Proofs.Ytlbfpnckoblppaa
open Go.Abs Go.RowKit Go.Ours

theorem fillA_const (s : S) : ∀ (vs : List PV) (pre z : List PV), z.length = vs.length → ∃ c : Prop, c ∧ fillA s (.pagg (pre ++ z)) (((List.range vs.length).zip vs).map fun p => (pre.length + p.1, 1, .c (.pv p.2))) = some (c, .pagg (pre ++ vs)) := by
  intro vs
  induction vs with
  | nil => intro pre z hz; obtain rfl : z = [] := List.eq_nil_of_length_eq_zero (by simpa using hz); exact ⟨True, trivial, by simp [fillA]⟩
  | cons v r ih =>
    intro pre z hz
    cases z with
    | nil => simp at hz
    | cons z0 z =>
      obtain ⟨c, hc, h⟩ := ih (pre ++ [v]) z (by simpa using hz)
      refine ⟨1 = 1 ∧ pre.length < (pre ++ z0 :: z).length ∧ c, ⟨rfl, by simp, hc⟩, ?_⟩
      rw [List.length_cons, List.range_succ_eq_map, List.zip_cons_cons, List.map_cons]
      have e1 : (pre ++ z0 :: z).set (pre.length + 0) v = pre ++ [v] ++ z := by simp
      have e2 : ((List.map Nat.succ (List.range r.length)).zip r).map (fun p => (pre.length + p.1, 1, Opd.c (.pv p.2))) = ((List.range r.length).zip r).map fun p => ((pre ++ [v]).length + p.1, 1, Opd.c (.pv p.2)) := by
        rw [List.zip_map_left, List.map_map]
        apply List.map_congr_left
        intro p _
        simp
        omega
      simp only [fillA, ev, AV.dem2, AV.dem1, AV.dem0, putA, e1, avSize]
      rw [e2, h]
      simp
theorem wp_fill {s : S} {z : List PV} {ps : List (Nat × Nat × Opd)} {d : Nat} {k : List (Key × AV) → Prop} (vs : List PV) (hz : z.length = vs.length) (hps : ps = ((List.range vs.length).zip vs).map fun p => (0 + p.1, 1, .c (.pv p.2)))
    (h : k [(.t d, .pagg vs)]) : wpE (eff s (.build d (.pagg z) ps)) k := by
  subst hps
  obtain ⟨c, hc, e⟩ := fillA_const s vs [] z hz
  simp only [List.nil_append, List.length_nil] at e
  simp only [eff, e, wpE_some]
  exact ⟨hc, h⟩
set_option maxRecDepth 20000 in
theorem word_c (k : Nat) (x : Int) (hx : KW[k]? = some x) : ACall Try.prog 67 [.pv (.int .i64 k)] [] (.pv (.int .u32 x)) [] [] := by
  have hk : k < 64 := (List.getElem?_eq_some_iff.1 hx).1
  have i1 : (k : Int) < 64 := by omega
  have hg : (kis .u32 KW)[k]? = some (.int .u32 x) := by rw [kis_get, hx]; rfl
  have hK : kis .u32 KW = _ := (rfl : kis .u32 KW = KW.map fun n => PV.int .u32 n)
  refine ACall.fn (fn := Try.f67) rfl okRef02Word rfl (by simp) ?_
  simp only [argT, irRef02Word.eq_1]
  simp [-getElem?_pos, -eff, -List.reduceReplicate, eff.eq_1]
  refine wp_fill (kis .u32 KW) rfl rfl ?_
  simp [-getElem?_pos, -List.reduceReplicate, kis_length, KW_len, hg, i1]
end Go.Proofs.Ytlbfpnckoblppaa
