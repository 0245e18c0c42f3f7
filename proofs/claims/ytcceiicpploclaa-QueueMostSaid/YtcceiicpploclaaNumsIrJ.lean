/- The document's Join: its contract. -/
import Derived.Test.YtcceiicpploclaaIrNums
set_option linter.unusedVariables false
set_option linter.unusedSimpArgs false
namespace Go.Proofs.Ytcceiicpploclaa
open Go.Abs Go.RowKit Go.Ours

end Go.Proofs.Ytcceiicpploclaa
