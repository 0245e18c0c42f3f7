import Derived.Test.YtljnacchbbdahaaOtsDL
import Derived.Test.YtljnacchbbdahaaAbsW
set_option linter.unusedVariables false
set_option linter.unusedSimpArgs false
namespace Go.Proofs.Ytljnacchbbdahaa
open Go.Abs Go.RowKit Go.Ours
theorem walkOtsDigits (c0 : Array Value) (c1 : Array Value) (w : World) (k0 : Shp.Reads w (.arr 32 (.int .u8)) c0.toList) (k1 : Shp.Reads w (.arr 32 (.int .u8)) c1.toList) :
     Calls Try.prog 3 #[.agg c0, .agg c1] w fun e w' => e = .returned (.bool true) ∧ Below w.heap.size w w' := by
  obtain ⟨l0, a0, n0, b0⟩ := arg_arr8 k0
  obtain ⟨l1, a1, n1, b1⟩ := arg_arr8 k1
  refine lawCalls (law_c l0 l1 n0 n1 b0 b1) rfl fun i v av hv ha => ?_
  match i with
  | 0 => cases hv; cases ha; exact a0
  | 1 => cases hv; cases ha; exact a1
  | n + 2 => simp at hv
end Go.Proofs.Ytljnacchbbdahaa
