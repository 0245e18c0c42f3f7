/- The document's Fold: its contract. -/
import Derived.Test.YtcceiicpploclaaNumsIrP
set_option linter.unusedVariables false
set_option linter.unusedSimpArgs false
namespace Go.Proofs.Ytcceiicpploclaa
open Go.Abs Go.RowKit Go.Ours

def I64 (n : Int) : Prop := -9223372036854775808 ≤ n ∧ n < 9223372036854775808
end Go.Proofs.Ytcceiicpploclaa
