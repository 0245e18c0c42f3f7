/- Snaps: names, told, Save, Load: contracts. No condition. -/
import Derived.Test.YtlbfpnckoblppaaDiskJ
import Derived.Test.YtlbfpnckoblppaaShaQ
set_option linter.unusedVariables false
set_option linter.unusedSimpArgs false
namespace Go.Proofs.Ytlbfpnckoblppaa
open Go.Abs Go.RowKit Go.Ours

theorem snamed_c (s : ByteArray) (hs : small s) (hl : 1 ≤ s.size ∧ s.size ≤ 16) : ACall Try.prog 44 [.pv (.str s)] [] (.pv (.bool true)) [] [] := by
  refine ACall.fn (fn := Try.f44) rfl okSnapsNamed rfl (by simp) ?_
  simp only [argT, irSnapsNamed.eq_1]
  have c := indexFunc_c s hs (by omega)
  have h1 : (1 : Int) ≤ (s.size : Int) := by omega
  have h2 : (s.size : Int) ≤ 16 := by omega
  simp [h1, h2]
  refine CallG.go c ?_
  simp
theorem asked_c (s : ByteArray) (hs : small s) (hl : 1 ≤ s.size ∧ s.size ≤ 16) (room : Nat) (rows : List (List PV)) (e1 e2 : List (List PV × PV)) : ACall Try.prog 27 [.ptr 1000 0, .pv (.str s)] [dkA room rows, .mc false [.s] e1, .mc false [.s] e2] (.pv (.int .i64 0)) [dkA room rows, .mc false [.s] e1, .mc false [.s] e2] [] := by
  refine ACall.fn (fn := Try.f27) rfl okSnapsAsked rfl (by simp) ?_
  simp only [argT, irSnapsAsked.eq_1, dkA]
  have c := snamed_c s hs hl
  simp
  refine CallG.go c ?_
  simp
  rfl
end Go.Proofs.Ytlbfpnckoblppaa
