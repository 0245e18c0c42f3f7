/- The law HistLinear. -/
import Derived.Test.YthpfadbdkkmagaaHistG
set_option linter.unusedVariables false
set_option linter.unusedSimpArgs false
namespace Go.Proofs.Ythpfadbdkkmagaa
open Go.Abs Go.RowKit Go.Ours

theorem lawLinear_c (c : List Cl) (hc : c.length = 16) (l : List Ev) (hl : l.length ≤ 10000000000) : ACall Try.prog 3 [.pagg (cellsP c), .pv (.sl 9 (evs l))] [] (.pv (.bool true)) [] [] := by
  refine ACall.fn (fn := Try.f3) rfl okLaw26HistLinear rfl (by simp) ?_
  simp only [argT, irLaw26HistLinear.eq_1]
  have hcl : (cellsP c).length = 32 := by rw [cellsP_len, hc]
  have ht32 := cellsP_take32 hc
  have hll : l.length ≤ 100000000000 := by omega
  simp
  refine CallG.go wakes_c ?_
  by_cases h1 : 6 < l.length ∧ l.length ≤ 12
  · have h2 : (6 : Int) < (l.length : Int) := by omega
    have h3 : (l.length : Int) ≤ 12 := by omega
    simp [evs_length, h1, h2, h3]
  · obtain ⟨b1, c1, g1⟩ := linear_c l c hc hl
    obtain ⟨b2, c2, g2⟩ := rlinear_c l c hc hl
    have e : b1 = b2 := by rw [Bool.eq_iff_iff, g1, g2]
    subst e
    by_cases h2 : 6 < l.length
    · have h2' : (6 : Int) < (l.length : Int) := by omega
      have h3 : ¬ l.length ≤ 12 := by omega
      have h3' : ¬ (l.length : Int) ≤ 12 := by omega
      simp [evs_length, h2, h2', h3, h3', hcl, ht32, hll]
      refine CallG.go c1 ?_
      simp [hcl, ht32]
      refine CallG.go c2 ?_
      simp
    · have h2' : ¬ (6 : Int) < (l.length : Int) := by omega
      simp [evs_length, h2, h2', hcl, ht32, hll]
      refine CallG.go c1 ?_
      simp [hcl, ht32]
      refine CallG.go c2 ?_
      simp
theorem arg_evsL {w : World} {a : Option Addr} {n c : Nat} (h : Shp.Reads w (.slice shE) [.slice a n c]) : ∃ l : List Ev, ArgR w (.slice a n c) (.pv (.sl 9 (evs l))) ∧ l.length = n := by
  obtain ⟨l, q, _⟩ := arg_evs h
  have hq : PR (fp0 w) w (.slice a n c) (.sl 9 (evs l)) := q.1.1
  refine ⟨l, q, ?_⟩
  rw [← evs_length l]
  generalize evs l = es at hq
  cases hq <;> rfl
theorem walkHistLinear (c0 : Array Value) (a1 : Option Addr) (l1 c1 : Nat) (w : World) (k0 : Shp.Reads w (.arr 16 shC) c0.toList) (k1 : Shp.Reads w (.slice shE) [.slice a1 l1 c1]) (hs : l1 ≤ 1048576) :
     Calls Try.prog 3 #[.agg c0, .slice a1 l1 c1] w fun e w' => e = .returned (.bool true) ∧ Below w.heap.size w w' := by
  obtain ⟨C, q0, hC⟩ := arg_cells k0
  obtain ⟨l, q1, hl⟩ := arg_evsL k1
  refine lawCalls (lawLinear_c C hC l (by omega)) rfl fun i v av hv ha => ?_
  match i with
  | 0 => cases hv; cases ha; exact q0
  | 1 => cases hv; cases ha; exact q1
  | n + 2 => simp at hv
end Go.Proofs.Ythpfadbdkkmagaa
