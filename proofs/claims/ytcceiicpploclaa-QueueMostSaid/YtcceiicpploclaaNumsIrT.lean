/- Texts, digests' bytes: contracts. -/
import Derived.Test.YtcceiicpploclaaNumsIrP
set_option linter.unusedVariables false
set_option linter.unusedSimpArgs false
namespace Go.Proofs.Ytcceiicpploclaa
open Go.Abs Go.RowKit Go.Ours

theorem putText_c (b t : List Nat) (hb : b.length ≤ 10000000000) (ht : t.length ≤ 10000000000) : ACall Try.prog 29 [.pv (.sl 1 (krows .u8 b)), .pv (.sl 1 (krows .u8 t))] [] (.os 5 1 (krows .u8 (b ++ txt t))) [] [] := by
  refine ACall.fn (fn := Try.f29) rfl okNumsPutText rfl (by simp) ?_
  simp only [argT, irNumsPutText.eq_1]
  have hc := putPacked_c b t.length hb (by omega)
  have w1 : IntKind.u64.wrap (t.length : Int) = t.length := by rw [wrap_u64] <;> omega
  have hp := packed_len64 t.length (by omega)
  simp [krows_length, w1]
  refine CallG.go hc ?_
  simp [krows_length, krows_app, txt]
  omega
end Go.Proofs.Ytcceiicpploclaa
