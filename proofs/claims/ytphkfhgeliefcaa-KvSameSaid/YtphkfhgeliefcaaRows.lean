/-
  No cell of these rows narrows 'for every input' (looked for: loops, veiled, ifaces, maps, wideKeys, modest, calm, conditions, laid).
  DERIVED. THE GIVEN ROWS OF THIS SEAT. 4 by the template 'for every input the law returns true; each argument reads behind the call as it read before'; 0 by the template 'total and deterministic' (their statements: YtphkfhgeliefcaaTotals.lean).
  GIVEN WITH THE SEED: the statements are not yours to turn. If you find one false, say at which input.
  Laid BY PROGRAM, IN A SANDBOX (cutbox-rows.mjs): the forced cells as the released guide's own fill.sh prints them over the translation 4c5e0b9da634dea9… (all of the seat's roots in one cut). By AI agents, Wed Nov 11 2026. No macro, syntax, notation, axiom, sorry.
-/
import Derived.Test.YtphkfhgeliefcaaChecked
import GoSem.Claim
import GoSem.ClaimJoined
import GoSem.ClaimMapViews
import Derived.JoinedTies
import Derived.KernelRfl
namespace Go.Proofs.Ytphkfhgeliefcaa
/- THE CELL 'sum', in the pinned program and in every row, IS THE sha256 OF THE DUMP (.gsa) THAT YtphkfhgeliefcaaProg.lean LOADS. Nothing in Lean hashes anything: it is a label: what it is worth is what the hold of that sum in a sandbox is worth. -/
noncomputable def Try.pinned : Pinned := { name := "ytphkfhgeliefcaa", sum := "4c5e0b9da634dea9a725e23f046ec1caefca91ceff631f8e08c0919657d12234", checked := Try.checked }
namespace Rows
def none {H : Type} : Left H := { results := [], args := [] }

/-- 'consistorylaw14.KvDoes': WHATEVER THE INPUT: true; the input reads as it did. -/
def kvDoesSpec : ChangeSpec := { name := "kvDoes", fn := fun _ => fun
  | [d1, d2] => { results := [.lit (.bool true)], args := [d1, d2] }
  | _ => none }
def kvDoesRow : OpenClaim := { program := "ytphkfhgeliefcaa", sum := "4c5e0b9da634dea9a725e23f046ec1caefca91ceff631f8e08c0919657d12234", func := "consistory/consistorylaw14.KvDoes", spec := "kvDoes", apart := false }
def KvDoesSaid : Prop := kvDoesRow.holds Try.pinned (OpenSpec.ofChange kvDoesSpec)

/-- ITS FALSE NEIGHBOUR: 'it returns false'. Refute it at one input. -/
def kvDoesWrong : ChangeSpec := { name := "kvDoes", fn := fun _ => fun
  | [d1, d2] => { results := [.lit (.bool false)], args := [d1, d2] }
  | _ => none }
def KvDoesWrongFalsely : Prop := kvDoesRow.holds Try.pinned (OpenSpec.ofChange kvDoesWrong)

/-- 'consistorylaw14.KvApart': WHATEVER THE INPUT: true; the input reads as it did. -/
def kvApartSpec : ChangeSpec := { name := "kvApart", fn := fun _ => fun
  | [d1, d2, d3] => { results := [.lit (.bool true)], args := [d1, d2, d3] }
  | _ => none }
def kvApartRow : OpenClaim := { program := "ytphkfhgeliefcaa", sum := "4c5e0b9da634dea9a725e23f046ec1caefca91ceff631f8e08c0919657d12234", func := "consistory/consistorylaw14.KvApart", spec := "kvApart", apart := false }
def KvApartSaid : Prop := kvApartRow.holds Try.pinned (OpenSpec.ofChange kvApartSpec)

/-- ITS FALSE NEIGHBOUR: 'it returns false'. Refute it at one input. -/
def kvApartWrong : ChangeSpec := { name := "kvApart", fn := fun _ => fun
  | [d1, d2, d3] => { results := [.lit (.bool false)], args := [d1, d2, d3] }
  | _ => none }
def KvApartWrongFalsely : Prop := kvApartRow.holds Try.pinned (OpenSpec.ofChange kvApartWrong)

/-- 'consistorylaw14.KvAsks': WHATEVER THE INPUT: true; the input reads as it did. -/
def kvAsksSpec : ChangeSpec := { name := "kvAsks", fn := fun _ => fun
  | [d1, d2, d3] => { results := [.lit (.bool true)], args := [d1, d2, d3] }
  | _ => none }
def kvAsksRow : OpenClaim := { program := "ytphkfhgeliefcaa", sum := "4c5e0b9da634dea9a725e23f046ec1caefca91ceff631f8e08c0919657d12234", func := "consistory/consistorylaw14.KvAsks", spec := "kvAsks", apart := false }
def KvAsksSaid : Prop := kvAsksRow.holds Try.pinned (OpenSpec.ofChange kvAsksSpec)

/-- ITS FALSE NEIGHBOUR: 'it returns false'. Refute it at one input. -/
def kvAsksWrong : ChangeSpec := { name := "kvAsks", fn := fun _ => fun
  | [d1, d2, d3] => { results := [.lit (.bool false)], args := [d1, d2, d3] }
  | _ => none }
def KvAsksWrongFalsely : Prop := kvAsksRow.holds Try.pinned (OpenSpec.ofChange kvAsksWrong)

/-- 'consistorylaw14.KvSame': WHATEVER THE INPUT: true; the input reads as it did. -/
def kvSameSpec : ChangeSpec := { name := "kvSame", fn := fun _ => fun
  | [d1, d2] => { results := [.lit (.bool true)], args := [d1, d2] }
  | _ => none }
def kvSameRow : OpenClaim := { program := "ytphkfhgeliefcaa", sum := "4c5e0b9da634dea9a725e23f046ec1caefca91ceff631f8e08c0919657d12234", func := "consistory/consistorylaw14.KvSame", spec := "kvSame", apart := false }
def KvSameSaid : Prop := kvSameRow.holds Try.pinned (OpenSpec.ofChange kvSameSpec)

/-- ITS FALSE NEIGHBOUR: 'it returns false'. Refute it at one input. -/
def kvSameWrong : ChangeSpec := { name := "kvSame", fn := fun _ => fun
  | [d1, d2] => { results := [.lit (.bool false)], args := [d1, d2] }
  | _ => none }
def KvSameWrongFalsely : Prop := kvSameRow.holds Try.pinned (OpenSpec.ofChange kvSameWrong)

/- THE SECOND FORM. 'bulk': how many values and letters a reading holds, each counted each time it is reached (what is shared counts as often as it is met; a slice's spare places count too). A statement '..UptoSaid' is the law's where the arguments, and the package variables that the reading takes, are together of bulk at most 1048576: NARROWER than '..Said'. Prove '..Said' where nothing that the law and all that it calls make is longer than what came in: it says more and counts as full. Else prove '..UptoSaid'. A law counts once. -/
mutual
def uptoBulk {H : Type} : DataW H → Nat
  | .lit (.string bytes) => bytes.length + 1
  | .lit _ => 1
  | .nil => 1
  | .ptr d => uptoBulk d + 1
  | .slice elems spare => uptoBulkAll elems + uptoBulkAll spare + 1
  | .agg parts => uptoBulkAll parts + 1
  | .iface _ d => uptoBulk d + 1
  | .map entries => uptoBulkEntries entries + 1
  | .held _ => 1
def uptoBulkAll {H : Type} : List (DataW H) → Nat
  | [] => 0
  | d :: r => uptoBulk d + uptoBulkAll r
def uptoBulkEntries {H : Type} : List (Lit × DataW H) → Nat
  | [] => 0
  | x :: r => uptoBulkEntry x + uptoBulkEntries r
def uptoBulkEntry {H : Type} : Lit × DataW H → Nat
  | (.string bytes, d) => bytes.length + uptoBulk d + 1
  | (_, d) => uptoBulk d + 1
 end
def uptoSmall : (H : Type) → List (DataW H) → Bool := fun _ ds => decide (uptoBulkAll ds ≤ 1048576)
def OpenSpec.upto (s : _root_.Go.ChangeSpec) : _root_.Go.OpenSpec := { _root_.Go.OpenSpec.ofChange s with cond := some uptoSmall }

/-- 'consistorylaw14.KvDoes', WHERE WHAT IT READS IS OF BULK AT MOST 1048576: true; the input reads as it did. -/
def kvDoesUptoRow : OpenClaim := { program := "ytphkfhgeliefcaa", sum := "4c5e0b9da634dea9a725e23f046ec1caefca91ceff631f8e08c0919657d12234", func := "consistory/consistorylaw14.KvDoes", spec := "kvDoes", apart := false, narrowed := true }
def KvDoesUptoSaid : Prop := kvDoesUptoRow.holds Try.pinned (OpenSpec.upto kvDoesSpec)

/-- 'consistorylaw14.KvApart', WHERE WHAT IT READS IS OF BULK AT MOST 1048576: true; the input reads as it did. -/
def kvApartUptoRow : OpenClaim := { program := "ytphkfhgeliefcaa", sum := "4c5e0b9da634dea9a725e23f046ec1caefca91ceff631f8e08c0919657d12234", func := "consistory/consistorylaw14.KvApart", spec := "kvApart", apart := false, narrowed := true }
def KvApartUptoSaid : Prop := kvApartUptoRow.holds Try.pinned (OpenSpec.upto kvApartSpec)

/-- 'consistorylaw14.KvAsks', WHERE WHAT IT READS IS OF BULK AT MOST 1048576: true; the input reads as it did. -/
def kvAsksUptoRow : OpenClaim := { program := "ytphkfhgeliefcaa", sum := "4c5e0b9da634dea9a725e23f046ec1caefca91ceff631f8e08c0919657d12234", func := "consistory/consistorylaw14.KvAsks", spec := "kvAsks", apart := false, narrowed := true }
def KvAsksUptoSaid : Prop := kvAsksUptoRow.holds Try.pinned (OpenSpec.upto kvAsksSpec)

/-- 'consistorylaw14.KvSame', WHERE WHAT IT READS IS OF BULK AT MOST 1048576: true; the input reads as it did. -/
def kvSameUptoRow : OpenClaim := { program := "ytphkfhgeliefcaa", sum := "4c5e0b9da634dea9a725e23f046ec1caefca91ceff631f8e08c0919657d12234", func := "consistory/consistorylaw14.KvSame", spec := "kvSame", apart := false, narrowed := true }
def KvSameUptoSaid : Prop := kvSameUptoRow.holds Try.pinned (OpenSpec.upto kvSameSpec)

end Rows
end Go.Proofs.Ytphkfhgeliefcaa
