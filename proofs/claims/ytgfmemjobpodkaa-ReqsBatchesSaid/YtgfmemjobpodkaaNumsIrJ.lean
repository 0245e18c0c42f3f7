/- The document's Join: its contract. -/
import Derived.Test.YtgfmemjobpodkaaIrNums
set_option linter.unusedVariables false
set_option linter.unusedSimpArgs false
namespace Go.Proofs.Ytgfmemjobpodkaa
open Go.Abs Go.RowKit Go.Ours

theorem join_c (a b : List Nat) (ha : a.length ≤ 10000000000) (hb : b.length ≤ 10000000000) : ACall Try.prog 28 [.pv (.sl 1 (krows .u8 a)), .pv (.sl 1 (krows .u8 b))] [] (.os 5 1 (krows .u8 (a ++ b))) [] [] := by
  refine ACall.fn (fn := Try.f28) rfl okRef01Join rfl (by simp) ?_
  simp only [argT, irRef01Join.eq_1]
  simp [krows_length, krows_app]
  refine ⟨by omega, by omega⟩
end Go.Proofs.Ytgfmemjobpodkaa
