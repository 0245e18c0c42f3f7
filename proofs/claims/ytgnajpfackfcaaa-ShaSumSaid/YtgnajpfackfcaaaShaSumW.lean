/- The law ShaSum. -/
import Derived.Test.YtgnajpfackfcaaaShaP
import Derived.Test.YtgnajpfackfcaaaAbs2
set_option linter.unusedVariables false
set_option linter.unusedSimpArgs false
namespace Go.Proofs.Ytgnajpfackfcaaa
open Go.Abs Go.RowKit Go.Ours

theorem lawSum_c (b : List Nat) (hb : ∀ x ∈ b, x < 256) : ACall Try.prog 3 [.pv (.sl 1 (krows .u8 b))] [] (.pv (.bool true)) [] [] := by
  refine ACall.fn (fn := Try.f3) rfl okLaw02ShaSum rfl (by simp) ?_
  simp only [argT, irLaw02ShaSum.eq_1]
  simp
  refine CallG.go wakes_c ?_
  simp
  by_cases h : 3000 < b.length
  · have h' : (3000 : Int) < b.length := by omega
    simp [krows_length, h, h']
    intro hh
    omega
  · have h' : ¬ (3000 : Int) < b.length := by omega
    have c1 := sum_c b (by omega) hb
    have c2 := refSum_c b (by omega) hb
    have c3 := same_c b b (by omega)
    have hl := shaF_len b
    generalize shaF b = x at *
    simp [krows_length, h, h']
    intro _
    refine ⟨by omega, ?_⟩
    refine CallG.go c1 ?_
    simp
    refine CallG.go c2 ?_
    simp [kns_length, hl]
    refine CallG.go c3 ?_
    simp
theorem walkShaSum (a0 : Option Addr) (l0 c0 : Nat) (w : World) (k0 : Shp.Reads w (.slice (.int .u8)) [.slice a0 l0 c0]) :
     Calls Try.prog 3 #[.slice a0 l0 c0] w fun e w' => e = .returned (.bool true) ∧ Below w.heap.size w w' := by
  obtain ⟨l0, a0, n0, b0⟩ := arg_sl8 k0
  refine lawCalls (lawSum_c l0 b0) rfl fun i v av hv ha => ?_
  match i with
  | 0 => cases hv; cases ha; exact a0
  | n + 1 => simp at hv
end Go.Proofs.Ytgnajpfackfcaaa
