/- The walks of ViewsNext, ViewsCounts. -/
import Derived.Test.YtaekbkjckahccaaDoorViewsC
import Derived.Test.YtaekbkjckahccaaDoorArgTxt
set_option linter.unusedVariables false
set_option linter.unusedSimpArgs false
namespace Go.Proofs.YtaekbkjckahccaaDoor
open Go.Abs Go.RowKit Go.Ours

theorem ok_pair {a b : Shp} {ps : List PV} (h : OKs (.pair a b) ps) : ∃ p q, ps = p ++ q ∧ OKs a p ∧ OKs b q := ⟨_, _, (List.take_append_drop _ _).symm, h.1, h.2⟩
theorem ok_int {k : IntKind} {ps : List PV} (h : OKs (.int k) ps) : ∃ n, ps = [.int k n] := by
  obtain ⟨n, h, _⟩ := h
  exact ⟨n, h⟩
theorem ok_unit {ps : List PV} (h : OKs .unit ps) : ps = [] := h
def shV : Shp := .pair (.int .i64) (.pair (.int .u16) .unit)
theorem ok_v {ps : List PV} (h : OKs shV ps) : ∃ v : Int × Nat, v.2 < 65536 ∧ ps = vwP v := by
  obtain ⟨p, q, rfl, h1, h2⟩ := ok_pair h
  obtain ⟨q, r, rfl, h3, h4⟩ := ok_pair h2
  obtain ⟨n, rfl⟩ := ok_int h1
  obtain ⟨m, rfl, hm⟩ := ok_n rfl h3
  rw [ok_unit h4]
  exact ⟨(n, m), hm, rfl⟩
theorem arg_view {w : World} {c : Array Value} (h : Shp.Reads w shV c.toList) : ∃ (n : Int) (m : Nat), ArgR w (.agg c) (.pagg (vwP (n, m))) ∧ m < 65536 := by
  obtain ⟨ps, h1, h2, h3⟩ := pvs_of_reads rfl h
  obtain ⟨v, hv, rfl⟩ := ok_v h2
  exact ⟨v.1, v.2, ArgR.agg h1, hv⟩
theorem walkViewsNext (c0 : Array Value) (a1 : Int) (w : World) (hg : ∀ (j n : Nat), (Go.Abs.gtOf Tryd.prog)[j]? = some n → w.cell? ⟨0, j, none⟩ = some (.int .u8 (n : Int))) (k0 : Shp.Reads w shV c0.toList) (w1 : (Lit.int .i64 a1).wf = true) :
     Calls Tryd.prog 6 #[.agg c0, .int .i64 a1] w fun e w' => e = .returned (.bool true) ∧ Below w.heap.size w w' := by
  obtain ⟨n, m, q0, hm⟩ := arg_view k0
  refine lawCallsG (lawNext_c n m a1 hm) rfl hg fun i v av hv ha => ?_
  match i with
  | 0 => cases hv; cases ha; exact q0
  | 1 => cases hv; cases ha; exact arg_int _ _
  | n + 2 => simp at hv
theorem walkViewsCounts (c0 : Array Value) (a1 a2 : Int) (w : World) (hg : ∀ (j n : Nat), (Go.Abs.gtOf Tryd.prog)[j]? = some n → w.cell? ⟨0, j, none⟩ = some (.int .u8 (n : Int))) (k0 : Shp.Reads w shV c0.toList) (w1 : (Lit.int .i64 a1).wf = true) (w2 : (Lit.int .i64 a2).wf = true) :
     Calls Tryd.prog 5 #[.agg c0, .int .i64 a1, .int .i64 a2] w fun e w' => e = .returned (.bool true) ∧ Below w.heap.size w w' := by
  obtain ⟨n, m, q0, hm⟩ := arg_view k0
  refine lawCallsG (lawCounts_c n m a1 a2 hm) rfl hg fun i v av hv ha => ?_
  match i with
  | 0 => cases hv; cases ha; exact q0
  | 1 => cases hv; cases ha; exact arg_int _ _
  | 2 => cases hv; cases ha; exact arg_int _ _
  | n + 3 => simp at hv
end Go.Proofs.YtaekbkjckahccaaDoor
