/- consistorylaw02.wakes' contract. -/
import Derived.Test.YtgnajpfackfcaaaShaO
import Derived.Test.YtgnajpfackfcaaaPlainRun
import Derived.Test.YtgnajpfackfcaaaIrLaw02
set_option linter.unusedVariables false
set_option linter.unusedSimpArgs false
namespace Go.Proofs.Ytgnajpfackfcaaa
open Go.Abs Go.RowKit Go.Ours

theorem kn_at {l : List Nat} {i x : Nat} (h : l[i]? = some x) (k : IntKind) : (kns k l)[i]? = some (.int k x) := by rw [kns_get, h]; rfl
theorem wakes_c : ACall Try.prog 7 [] [] (.pv (.bool true)) [] [] := by
  refine ACall.fn (fn := Try.f7) rfl okLaw02Wakes rfl (by simp) ?_
  simp only [argT, irLaw02Wakes.eq_1]
  have c1 := sum_c [] (by simp) (by simp)
  have c2 := sum_c [97, 98, 99] (by simp) (by simp)
  have l1 := shaF_len []
  have l2 := shaF_len [97, 98, 99]
  have h1 := wake_e
  have h2 := wake_abc
  generalize shaF [] = x at *
  generalize shaF [97, 98, 99] = y at *
  have g : ∀ {l : List Nat} {a b c d : Nat}, l.take 4 = [a, b, c, d] → l[0]? = some a ∧ l[1]? = some b ∧ l[2]? = some c ∧ l[3]? = some d := fun {l a b c d} h => by
    match l, h with
    | p :: q :: r :: s :: t, h => simpa using h
  obtain ⟨p0, p1, p2, p3⟩ := g h1
  obtain ⟨q0, q1, q2, q3⟩ := g h2
  simp [-List.reduceReplicate, -getElem?_pos]
  refine CallG.go c1 ?_
  simp [-List.reduceReplicate, -getElem?_pos]
  refine CallG.go c2 ?_
  simp [-List.reduceReplicate, -getElem?_pos, kns_length, l1, l2, kns_get, p0, p1, p2, p3, q0, q1, q2, q3]
end Go.Proofs.Ytgnajpfackfcaaa
