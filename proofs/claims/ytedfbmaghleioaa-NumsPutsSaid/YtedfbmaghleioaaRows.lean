/-
  No cell of these rows narrows 'for every input' (looked for: loops, veiled, ifaces, maps, wideKeys, modest, calm, conditions, laid).
  DERIVED. THE GIVEN ROWS OF THIS SEAT. 6 by the template 'for every input the law returns true; each argument reads behind the call as it read before'; 0 by the template 'total and deterministic' (their statements: YtedfbmaghleioaaTotals.lean).
  GIVEN WITH THE SEED: the statements are not yours to turn. If you find one false, say at which input.
  Laid BY PROGRAM, IN A SANDBOX (cutbox-rows.mjs): the forced cells as the released guide's own fill.sh prints them over the translation 34bfe3b3692805f5… (all of the seat's roots in one cut). By AI agents, Wed Nov 11 2026. No macro, syntax, notation, axiom, sorry.
-/
import Derived.Test.YtedfbmaghleioaaChecked
import GoSem.Claim
import GoSem.ClaimJoined
import GoSem.ClaimMapViews
import Derived.JoinedTies
import Derived.KernelRfl
namespace Go.Proofs.Ytedfbmaghleioaa
/- THE CELL 'sum', in the pinned program and in every row, IS THE sha256 OF THE DUMP (.gsa) THAT YtedfbmaghleioaaProg.lean LOADS. Nothing in Lean hashes anything: it is a label: what it is worth is what the hold of that sum in a sandbox is worth. -/
noncomputable def Try.pinned : Pinned := { name := "ytedfbmaghleioaa", sum := "34bfe3b3692805f54b26f6dcfc2a1b4024391b8883477e476fc8f6f087653261", checked := Try.checked }
namespace Rows
def none {H : Type} : Left H := { results := [], args := [] }

/-- 'consistorylaw01.NumsLength': WHATEVER THE INPUT: true; the input reads as it did. -/
def numsLengthSpec : ChangeSpec := { name := "numsLength", fn := fun _ => fun
  | [d1, d2] => { results := [.lit (.bool true)], args := [d1, d2] }
  | _ => none }
def numsLengthRow : OpenClaim := { program := "ytedfbmaghleioaa", sum := "34bfe3b3692805f54b26f6dcfc2a1b4024391b8883477e476fc8f6f087653261", func := "consistory/consistorylaw01.NumsLength", spec := "numsLength", apart := false }
def NumsLengthSaid : Prop := numsLengthRow.holds Try.pinned (OpenSpec.ofChange numsLengthSpec)

/-- ITS FALSE NEIGHBOUR: 'it returns false'. Refute it at one input. -/
def numsLengthWrong : ChangeSpec := { name := "numsLength", fn := fun _ => fun
  | [d1, d2] => { results := [.lit (.bool false)], args := [d1, d2] }
  | _ => none }
def NumsLengthWrongFalsely : Prop := numsLengthRow.holds Try.pinned (OpenSpec.ofChange numsLengthWrong)

/-- 'consistorylaw01.NumsFold': WHATEVER THE INPUT: true; the input reads as it did. -/
def numsFoldSpec : ChangeSpec := { name := "numsFold", fn := fun _ => fun
  | [d1, d2] => { results := [.lit (.bool true)], args := [d1, d2] }
  | _ => none }
def numsFoldRow : OpenClaim := { program := "ytedfbmaghleioaa", sum := "34bfe3b3692805f54b26f6dcfc2a1b4024391b8883477e476fc8f6f087653261", func := "consistory/consistorylaw01.NumsFold", spec := "numsFold", apart := false }
def NumsFoldSaid : Prop := numsFoldRow.holds Try.pinned (OpenSpec.ofChange numsFoldSpec)

/-- ITS FALSE NEIGHBOUR: 'it returns false'. Refute it at one input. -/
def numsFoldWrong : ChangeSpec := { name := "numsFold", fn := fun _ => fun
  | [d1, d2] => { results := [.lit (.bool false)], args := [d1, d2] }
  | _ => none }
def NumsFoldWrongFalsely : Prop := numsFoldRow.holds Try.pinned (OpenSpec.ofChange numsFoldWrong)

/-- 'consistorylaw01.NumsOne': WHATEVER THE INPUT: true; the input reads as it did. -/
def numsOneSpec : ChangeSpec := { name := "numsOne", fn := fun _ => fun
  | [d] => { results := [.lit (.bool true)], args := [d] }
  | _ => none }
def numsOneRow : OpenClaim := { program := "ytedfbmaghleioaa", sum := "34bfe3b3692805f54b26f6dcfc2a1b4024391b8883477e476fc8f6f087653261", func := "consistory/consistorylaw01.NumsOne", spec := "numsOne", apart := false }
def NumsOneSaid : Prop := numsOneRow.holds Try.pinned (OpenSpec.ofChange numsOneSpec)

/-- ITS FALSE NEIGHBOUR: 'it returns false'. Refute it at one input. -/
def numsOneWrong : ChangeSpec := { name := "numsOne", fn := fun _ => fun
  | [d] => { results := [.lit (.bool false)], args := [d] }
  | _ => none }
def NumsOneWrongFalsely : Prop := numsOneRow.holds Try.pinned (OpenSpec.ofChange numsOneWrong)

/-- 'consistorylaw01.NumsFixed': WHATEVER THE INPUT: true; the input reads as it did. -/
def numsFixedSpec : ChangeSpec := { name := "numsFixed", fn := fun _ => fun
  | [d1, d2, d3] => { results := [.lit (.bool true)], args := [d1, d2, d3] }
  | _ => none }
def numsFixedRow : OpenClaim := { program := "ytedfbmaghleioaa", sum := "34bfe3b3692805f54b26f6dcfc2a1b4024391b8883477e476fc8f6f087653261", func := "consistory/consistorylaw01.NumsFixed", spec := "numsFixed", apart := false }
def NumsFixedSaid : Prop := numsFixedRow.holds Try.pinned (OpenSpec.ofChange numsFixedSpec)

/-- ITS FALSE NEIGHBOUR: 'it returns false'. Refute it at one input. -/
def numsFixedWrong : ChangeSpec := { name := "numsFixed", fn := fun _ => fun
  | [d1, d2, d3] => { results := [.lit (.bool false)], args := [d1, d2, d3] }
  | _ => none }
def NumsFixedWrongFalsely : Prop := numsFixedRow.holds Try.pinned (OpenSpec.ofChange numsFixedWrong)

/-- 'consistorylaw01.NumsPuts': WHATEVER THE INPUT: true; the input reads as it did. -/
def numsPutsSpec : ChangeSpec := { name := "numsPuts", fn := fun _ => fun
  | [d1, d2, d3] => { results := [.lit (.bool true)], args := [d1, d2, d3] }
  | _ => none }
def numsPutsRow : OpenClaim := { program := "ytedfbmaghleioaa", sum := "34bfe3b3692805f54b26f6dcfc2a1b4024391b8883477e476fc8f6f087653261", func := "consistory/consistorylaw01.NumsPuts", spec := "numsPuts", apart := false }
def NumsPutsSaid : Prop := numsPutsRow.holds Try.pinned (OpenSpec.ofChange numsPutsSpec)

/-- ITS FALSE NEIGHBOUR: 'it returns false'. Refute it at one input. -/
def numsPutsWrong : ChangeSpec := { name := "numsPuts", fn := fun _ => fun
  | [d1, d2, d3] => { results := [.lit (.bool false)], args := [d1, d2, d3] }
  | _ => none }
def NumsPutsWrongFalsely : Prop := numsPutsRow.holds Try.pinned (OpenSpec.ofChange numsPutsWrong)

/-- 'consistorylaw01.NumsNil': WHATEVER THE INPUT: true; the input reads as it did. -/
def numsNilSpec : ChangeSpec := { name := "numsNil", fn := fun _ => fun
  | [d] => { results := [.lit (.bool true)], args := [d] }
  | _ => none }
def numsNilRow : OpenClaim := { program := "ytedfbmaghleioaa", sum := "34bfe3b3692805f54b26f6dcfc2a1b4024391b8883477e476fc8f6f087653261", func := "consistory/consistorylaw01.NumsNil", spec := "numsNil", apart := false }
def NumsNilSaid : Prop := numsNilRow.holds Try.pinned (OpenSpec.ofChange numsNilSpec)

/-- ITS FALSE NEIGHBOUR: 'it returns false'. Refute it at one input. -/
def numsNilWrong : ChangeSpec := { name := "numsNil", fn := fun _ => fun
  | [d] => { results := [.lit (.bool false)], args := [d] }
  | _ => none }
def NumsNilWrongFalsely : Prop := numsNilRow.holds Try.pinned (OpenSpec.ofChange numsNilWrong)

/- THE SECOND FORM. 'bulk': how many values and letters a reading holds, each counted each time it is reached (what is shared counts as often as it is met; a slice's spare places count too). A statement '..UptoSaid' is the law's where the arguments, and the package variables that the reading takes, are together of bulk at most 1048576: NARROWER than '..Said'. Prove '..Said' where nothing that the law and all that it calls make is longer than what came in: it says more and counts as full. Else prove '..UptoSaid'. A law counts once. -/
mutual
def uptoBulk {H : Type} : DataW H → Nat
  | .lit (.string bytes) => bytes.length + 1
  | .lit _ => 1
  | .nil => 1
  | .ptr d => uptoBulk d + 1
  | .slice elems spare => uptoBulkAll elems + uptoBulkAll spare + 1
  | .agg parts => uptoBulkAll parts + 1
  | .iface _ d => uptoBulk d + 1
  | .map entries => uptoBulkEntries entries + 1
  | .held _ => 1
def uptoBulkAll {H : Type} : List (DataW H) → Nat
  | [] => 0
  | d :: r => uptoBulk d + uptoBulkAll r
def uptoBulkEntries {H : Type} : List (Lit × DataW H) → Nat
  | [] => 0
  | x :: r => uptoBulkEntry x + uptoBulkEntries r
def uptoBulkEntry {H : Type} : Lit × DataW H → Nat
  | (.string bytes, d) => bytes.length + uptoBulk d + 1
  | (_, d) => uptoBulk d + 1
 end
def uptoSmall : (H : Type) → List (DataW H) → Bool := fun _ ds => decide (uptoBulkAll ds ≤ 1048576)
def OpenSpec.upto (s : _root_.Go.ChangeSpec) : _root_.Go.OpenSpec := { _root_.Go.OpenSpec.ofChange s with cond := some uptoSmall }

/-- 'consistorylaw01.NumsLength', WHERE WHAT IT READS IS OF BULK AT MOST 1048576: true; the input reads as it did. -/
def numsLengthUptoRow : OpenClaim := { program := "ytedfbmaghleioaa", sum := "34bfe3b3692805f54b26f6dcfc2a1b4024391b8883477e476fc8f6f087653261", func := "consistory/consistorylaw01.NumsLength", spec := "numsLength", apart := false, narrowed := true }
def NumsLengthUptoSaid : Prop := numsLengthUptoRow.holds Try.pinned (OpenSpec.upto numsLengthSpec)

/-- 'consistorylaw01.NumsFold', WHERE WHAT IT READS IS OF BULK AT MOST 1048576: true; the input reads as it did. -/
def numsFoldUptoRow : OpenClaim := { program := "ytedfbmaghleioaa", sum := "34bfe3b3692805f54b26f6dcfc2a1b4024391b8883477e476fc8f6f087653261", func := "consistory/consistorylaw01.NumsFold", spec := "numsFold", apart := false, narrowed := true }
def NumsFoldUptoSaid : Prop := numsFoldUptoRow.holds Try.pinned (OpenSpec.upto numsFoldSpec)

/-- 'consistorylaw01.NumsOne', WHERE WHAT IT READS IS OF BULK AT MOST 1048576: true; the input reads as it did. -/
def numsOneUptoRow : OpenClaim := { program := "ytedfbmaghleioaa", sum := "34bfe3b3692805f54b26f6dcfc2a1b4024391b8883477e476fc8f6f087653261", func := "consistory/consistorylaw01.NumsOne", spec := "numsOne", apart := false, narrowed := true }
def NumsOneUptoSaid : Prop := numsOneUptoRow.holds Try.pinned (OpenSpec.upto numsOneSpec)

/-- 'consistorylaw01.NumsFixed', WHERE WHAT IT READS IS OF BULK AT MOST 1048576: true; the input reads as it did. -/
def numsFixedUptoRow : OpenClaim := { program := "ytedfbmaghleioaa", sum := "34bfe3b3692805f54b26f6dcfc2a1b4024391b8883477e476fc8f6f087653261", func := "consistory/consistorylaw01.NumsFixed", spec := "numsFixed", apart := false, narrowed := true }
def NumsFixedUptoSaid : Prop := numsFixedUptoRow.holds Try.pinned (OpenSpec.upto numsFixedSpec)

/-- 'consistorylaw01.NumsPuts', WHERE WHAT IT READS IS OF BULK AT MOST 1048576: true; the input reads as it did. -/
def numsPutsUptoRow : OpenClaim := { program := "ytedfbmaghleioaa", sum := "34bfe3b3692805f54b26f6dcfc2a1b4024391b8883477e476fc8f6f087653261", func := "consistory/consistorylaw01.NumsPuts", spec := "numsPuts", apart := false, narrowed := true }
def NumsPutsUptoSaid : Prop := numsPutsUptoRow.holds Try.pinned (OpenSpec.upto numsPutsSpec)

/-- 'consistorylaw01.NumsNil', WHERE WHAT IT READS IS OF BULK AT MOST 1048576: true; the input reads as it did. -/
def numsNilUptoRow : OpenClaim := { program := "ytedfbmaghleioaa", sum := "34bfe3b3692805f54b26f6dcfc2a1b4024391b8883477e476fc8f6f087653261", func := "consistory/consistorylaw01.NumsNil", spec := "numsNil", apart := false, narrowed := true }
def NumsNilUptoSaid : Prop := numsNilUptoRow.holds Try.pinned (OpenSpec.upto numsNilSpec)

end Rows
end Go.Proofs.Ytedfbmaghleioaa
