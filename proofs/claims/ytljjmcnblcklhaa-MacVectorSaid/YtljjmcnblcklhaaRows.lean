/-
  No cell of these rows narrows 'for every input' (looked for: loops, veiled, ifaces, maps, wideKeys, modest, calm, conditions, laid).
  DERIVED. THE GIVEN ROWS OF THIS SEAT. 4 by the template 'for every input the law returns true; each argument reads behind the call as it read before'; 0 by the template 'total and deterministic' (their statements: YtljjmcnblcklhaaTotals.lean).
  GIVEN WITH THE SEED: the statements are not yours to turn. If you find one false, say at which input.
  Laid BY PROGRAM, IN A SANDBOX (cutbox-rows.mjs): the forced cells as the released guide's own fill.sh prints them over the translation 53fb35e1a4c4d2b7… (all of the seat's roots in one cut). By AI agents, Wed Nov 11 2026. No macro, syntax, notation, axiom, sorry.
-/
import Derived.Test.YtljjmcnblcklhaaChecked
import GoSem.Claim
import GoSem.ClaimJoined
import GoSem.ClaimMapViews
import Derived.JoinedTies
import Derived.KernelRfl
namespace Go.Proofs.Ytljjmcnblcklhaa
/- THE CELL 'sum', in the pinned program and in every row, IS THE sha256 OF THE DUMP (.gsa) THAT YtljjmcnblcklhaaProg.lean LOADS. Nothing in Lean hashes anything: it is a label: what it is worth is what the hold of that sum in a sandbox is worth. -/
noncomputable def Try.pinned : Pinned := { name := "ytljjmcnblcklhaa", sum := "53fb35e1a4c4d2b707ddbdc4cac8f5edb0a33dfe45dd122a7901accbbd57edf5", checked := Try.checked }
namespace Rows
def none {H : Type} : Left H := { results := [], args := [] }

/-- 'consistorylaw03.MacDerive': WHATEVER THE INPUT: true; the input reads as it did. -/
def macDeriveSpec : ChangeSpec := { name := "macDerive", fn := fun _ => fun
  | [d1, d2, d3] => { results := [.lit (.bool true)], args := [d1, d2, d3] }
  | _ => none }
def macDeriveRow : OpenClaim := { program := "ytljjmcnblcklhaa", sum := "53fb35e1a4c4d2b707ddbdc4cac8f5edb0a33dfe45dd122a7901accbbd57edf5", func := "consistory/consistorylaw03.MacDerive", spec := "macDerive", apart := false }
def MacDeriveSaid : Prop := macDeriveRow.holds Try.pinned (OpenSpec.ofChange macDeriveSpec)

/-- ITS FALSE NEIGHBOUR: 'it returns false'. Refute it at one input. -/
def macDeriveWrong : ChangeSpec := { name := "macDerive", fn := fun _ => fun
  | [d1, d2, d3] => { results := [.lit (.bool false)], args := [d1, d2, d3] }
  | _ => none }
def MacDeriveWrongFalsely : Prop := macDeriveRow.holds Try.pinned (OpenSpec.ofChange macDeriveWrong)

/-- 'consistorylaw03.MacVector': WHATEVER THE INPUT: true; the input reads as it did. -/
def macVectorSpec : ChangeSpec := { name := "macVector", fn := fun _ => fun
  | [d1, d2] => { results := [.lit (.bool true)], args := [d1, d2] }
  | _ => none }
def macVectorRow : OpenClaim := { program := "ytljjmcnblcklhaa", sum := "53fb35e1a4c4d2b707ddbdc4cac8f5edb0a33dfe45dd122a7901accbbd57edf5", func := "consistory/consistorylaw03.MacVector", spec := "macVector", apart := false }
def MacVectorSaid : Prop := macVectorRow.holds Try.pinned (OpenSpec.ofChange macVectorSpec)

/-- ITS FALSE NEIGHBOUR: 'it returns false'. Refute it at one input. -/
def macVectorWrong : ChangeSpec := { name := "macVector", fn := fun _ => fun
  | [d1, d2] => { results := [.lit (.bool false)], args := [d1, d2] }
  | _ => none }
def MacVectorWrongFalsely : Prop := macVectorRow.holds Try.pinned (OpenSpec.ofChange macVectorWrong)

/-- 'consistorylaw03.MacTag': WHATEVER THE INPUT: true; the input reads as it did. -/
def macTagSpec : ChangeSpec := { name := "macTag", fn := fun _ => fun
  | [d1, d2] => { results := [.lit (.bool true)], args := [d1, d2] }
  | _ => none }
def macTagRow : OpenClaim := { program := "ytljjmcnblcklhaa", sum := "53fb35e1a4c4d2b707ddbdc4cac8f5edb0a33dfe45dd122a7901accbbd57edf5", func := "consistory/consistorylaw03.MacTag", spec := "macTag", apart := false }
def MacTagSaid : Prop := macTagRow.holds Try.pinned (OpenSpec.ofChange macTagSpec)

/-- ITS FALSE NEIGHBOUR: 'it returns false'. Refute it at one input. -/
def macTagWrong : ChangeSpec := { name := "macTag", fn := fun _ => fun
  | [d1, d2] => { results := [.lit (.bool false)], args := [d1, d2] }
  | _ => none }
def MacTagWrongFalsely : Prop := macTagRow.holds Try.pinned (OpenSpec.ofChange macTagWrong)

/-- 'consistorylaw03.MacCheck': WHATEVER THE INPUT: true; the input reads as it did. -/
def macCheckSpec : ChangeSpec := { name := "macCheck", fn := fun _ => fun
  | [d1, d2, d3] => { results := [.lit (.bool true)], args := [d1, d2, d3] }
  | _ => none }
def macCheckRow : OpenClaim := { program := "ytljjmcnblcklhaa", sum := "53fb35e1a4c4d2b707ddbdc4cac8f5edb0a33dfe45dd122a7901accbbd57edf5", func := "consistory/consistorylaw03.MacCheck", spec := "macCheck", apart := false }
def MacCheckSaid : Prop := macCheckRow.holds Try.pinned (OpenSpec.ofChange macCheckSpec)

/-- ITS FALSE NEIGHBOUR: 'it returns false'. Refute it at one input. -/
def macCheckWrong : ChangeSpec := { name := "macCheck", fn := fun _ => fun
  | [d1, d2, d3] => { results := [.lit (.bool false)], args := [d1, d2, d3] }
  | _ => none }
def MacCheckWrongFalsely : Prop := macCheckRow.holds Try.pinned (OpenSpec.ofChange macCheckWrong)

/- THE SECOND FORM. 'bulk': how many values and letters a reading holds, each counted each time it is reached (what is shared counts as often as it is met; a slice's spare places count too). A statement '..UptoSaid' is the law's where the arguments, and the package variables that the reading takes, are together of bulk at most 1048576: NARROWER than '..Said'. Prove '..Said' where nothing that the law and all that it calls make is longer than what came in: it says more and counts as full. Else prove '..UptoSaid'. A law counts once. -/
mutual
def uptoBulk {H : Type} : DataW H → Nat
  | .lit (.string bytes) => bytes.length + 1
  | .lit _ => 1
  | .nil => 1
  | .ptr d => uptoBulk d + 1
  | .slice elems spare => uptoBulkAll elems + uptoBulkAll spare + 1
  | .agg parts => uptoBulkAll parts + 1
  | .iface _ d => uptoBulk d + 1
  | .map entries => uptoBulkEntries entries + 1
  | .held _ => 1
def uptoBulkAll {H : Type} : List (DataW H) → Nat
  | [] => 0
  | d :: r => uptoBulk d + uptoBulkAll r
def uptoBulkEntries {H : Type} : List (Lit × DataW H) → Nat
  | [] => 0
  | x :: r => uptoBulkEntry x + uptoBulkEntries r
def uptoBulkEntry {H : Type} : Lit × DataW H → Nat
  | (.string bytes, d) => bytes.length + uptoBulk d + 1
  | (_, d) => uptoBulk d + 1
 end
def uptoSmall : (H : Type) → List (DataW H) → Bool := fun _ ds => decide (uptoBulkAll ds ≤ 1048576)
def OpenSpec.upto (s : _root_.Go.ChangeSpec) : _root_.Go.OpenSpec := { _root_.Go.OpenSpec.ofChange s with cond := some uptoSmall }

/-- 'consistorylaw03.MacDerive', WHERE WHAT IT READS IS OF BULK AT MOST 1048576: true; the input reads as it did. -/
def macDeriveUptoRow : OpenClaim := { program := "ytljjmcnblcklhaa", sum := "53fb35e1a4c4d2b707ddbdc4cac8f5edb0a33dfe45dd122a7901accbbd57edf5", func := "consistory/consistorylaw03.MacDerive", spec := "macDerive", apart := false, narrowed := true }
def MacDeriveUptoSaid : Prop := macDeriveUptoRow.holds Try.pinned (OpenSpec.upto macDeriveSpec)

/-- 'consistorylaw03.MacVector', WHERE WHAT IT READS IS OF BULK AT MOST 1048576: true; the input reads as it did. -/
def macVectorUptoRow : OpenClaim := { program := "ytljjmcnblcklhaa", sum := "53fb35e1a4c4d2b707ddbdc4cac8f5edb0a33dfe45dd122a7901accbbd57edf5", func := "consistory/consistorylaw03.MacVector", spec := "macVector", apart := false, narrowed := true }
def MacVectorUptoSaid : Prop := macVectorUptoRow.holds Try.pinned (OpenSpec.upto macVectorSpec)

/-- 'consistorylaw03.MacTag', WHERE WHAT IT READS IS OF BULK AT MOST 1048576: true; the input reads as it did. -/
def macTagUptoRow : OpenClaim := { program := "ytljjmcnblcklhaa", sum := "53fb35e1a4c4d2b707ddbdc4cac8f5edb0a33dfe45dd122a7901accbbd57edf5", func := "consistory/consistorylaw03.MacTag", spec := "macTag", apart := false, narrowed := true }
def MacTagUptoSaid : Prop := macTagUptoRow.holds Try.pinned (OpenSpec.upto macTagSpec)

/-- 'consistorylaw03.MacCheck', WHERE WHAT IT READS IS OF BULK AT MOST 1048576: true; the input reads as it did. -/
def macCheckUptoRow : OpenClaim := { program := "ytljjmcnblcklhaa", sum := "53fb35e1a4c4d2b707ddbdc4cac8f5edb0a33dfe45dd122a7901accbbd57edf5", func := "consistory/consistorylaw03.MacCheck", spec := "macCheck", apart := false, narrowed := true }
def MacCheckUptoSaid : Prop := macCheckUptoRow.holds Try.pinned (OpenSpec.upto macCheckSpec)

end Rows
end Go.Proofs.Ytljjmcnblcklhaa
