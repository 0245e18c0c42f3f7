/-
  No cell of these rows narrows 'for every input' (looked for: loops, veiled, ifaces, maps, wideKeys, modest, calm, conditions, laid).
  DERIVED. THE GIVEN ROWS OF THIS SEAT. 6 by the template 'for every input the law returns true; each argument reads behind the call as it read before'; 0 by the template 'total and deterministic' (their statements: YthpfadbdkkmagaaTotals.lean).
  GIVEN WITH THE SEED: the statements are not yours to turn. If you find one false, say at which input.
  Laid BY PROGRAM, IN A SANDBOX (cutbox-rows.mjs): the forced cells as the released guide's own fill.sh prints them over the translation ef679c042fbc81e0… (all of the seat's roots in one cut). By AI agents, Wed Nov 11 2026. No macro, syntax, notation, axiom, sorry.
-/
import Derived.Test.YthpfadbdkkmagaaChecked
import GoSem.Claim
import GoSem.ClaimJoined
import GoSem.ClaimMapViews
import Derived.JoinedTies
import Derived.KernelRfl
namespace Go.Proofs.Ythpfadbdkkmagaa
/- THE CELL 'sum', in the pinned program and in every row, IS THE sha256 OF THE DUMP (.gsa) THAT YthpfadbdkkmagaaProg.lean LOADS. Nothing in Lean hashes anything: it is a label: what it is worth is what the hold of that sum in a sandbox is worth. -/
noncomputable def Try.pinned : Pinned := { name := "ythpfadbdkkmagaa", sum := "ef679c042fbc81e0c35e2fbb851fa9375ddb9ca1f0c16dfe735e0c408839b6e4", checked := Try.checked }
namespace Rows
def none {H : Type} : Left H := { results := [], args := [] }

/-- 'consistorylaw26.HistLinear': WHATEVER THE INPUT: true; the input reads as it did. -/
def histLinearSpec : ChangeSpec := { name := "histLinear", fn := fun _ => fun
  | [d1, d2] => { results := [.lit (.bool true)], args := [d1, d2] }
  | _ => none }
def histLinearRow : OpenClaim := { program := "ythpfadbdkkmagaa", sum := "ef679c042fbc81e0c35e2fbb851fa9375ddb9ca1f0c16dfe735e0c408839b6e4", func := "consistory/consistorylaw26.HistLinear", spec := "histLinear", recurses := true, plainKeys := false, apart := false }
def HistLinearSaid : Prop := histLinearRow.holds Try.pinned (OpenSpec.ofChange histLinearSpec)

/-- ITS FALSE NEIGHBOUR: 'it returns false'. Refute it at one input. -/
def histLinearWrong : ChangeSpec := { name := "histLinear", fn := fun _ => fun
  | [d1, d2] => { results := [.lit (.bool false)], args := [d1, d2] }
  | _ => none }
def HistLinearWrongFalsely : Prop := histLinearRow.holds Try.pinned (OpenSpec.ofChange histLinearWrong)

/-- 'consistorylaw26.HistRun': WHATEVER THE INPUT: true; the input reads as it did. -/
def histRunSpec : ChangeSpec := { name := "histRun", fn := fun _ => fun
  | [d1, d2, d3] => { results := [.lit (.bool true)], args := [d1, d2, d3] }
  | _ => none }
def histRunRow : OpenClaim := { program := "ythpfadbdkkmagaa", sum := "ef679c042fbc81e0c35e2fbb851fa9375ddb9ca1f0c16dfe735e0c408839b6e4", func := "consistory/consistorylaw26.HistRun", spec := "histRun", recurses := true, plainKeys := false, apart := false }
def HistRunSaid : Prop := histRunRow.holds Try.pinned (OpenSpec.ofChange histRunSpec)

/-- ITS FALSE NEIGHBOUR: 'it returns false'. Refute it at one input. -/
def histRunWrong : ChangeSpec := { name := "histRun", fn := fun _ => fun
  | [d1, d2, d3] => { results := [.lit (.bool false)], args := [d1, d2, d3] }
  | _ => none }
def HistRunWrongFalsely : Prop := histRunRow.holds Try.pinned (OpenSpec.ofChange histRunWrong)

/-- 'consistorylaw26.HistLess': WHATEVER THE INPUT: true; the input reads as it did. -/
def histLessSpec : ChangeSpec := { name := "histLess", fn := fun _ => fun
  | [d1, d2] => { results := [.lit (.bool true)], args := [d1, d2] }
  | _ => none }
def histLessRow : OpenClaim := { program := "ythpfadbdkkmagaa", sum := "ef679c042fbc81e0c35e2fbb851fa9375ddb9ca1f0c16dfe735e0c408839b6e4", func := "consistory/consistorylaw26.HistLess", spec := "histLess", recurses := true, plainKeys := false, apart := false }
def HistLessSaid : Prop := histLessRow.holds Try.pinned (OpenSpec.ofChange histLessSpec)

/-- ITS FALSE NEIGHBOUR: 'it returns false'. Refute it at one input. -/
def histLessWrong : ChangeSpec := { name := "histLess", fn := fun _ => fun
  | [d1, d2] => { results := [.lit (.bool false)], args := [d1, d2] }
  | _ => none }
def HistLessWrongFalsely : Prop := histLessRow.holds Try.pinned (OpenSpec.ofChange histLessWrong)

/-- 'consistorylaw26.HistShift': WHATEVER THE INPUT: true; the input reads as it did. -/
def histShiftSpec : ChangeSpec := { name := "histShift", fn := fun _ => fun
  | [d1, d2, d3] => { results := [.lit (.bool true)], args := [d1, d2, d3] }
  | _ => none }
def histShiftRow : OpenClaim := { program := "ythpfadbdkkmagaa", sum := "ef679c042fbc81e0c35e2fbb851fa9375ddb9ca1f0c16dfe735e0c408839b6e4", func := "consistory/consistorylaw26.HistShift", spec := "histShift", recurses := true, plainKeys := false, apart := false }
def HistShiftSaid : Prop := histShiftRow.holds Try.pinned (OpenSpec.ofChange histShiftSpec)

/-- ITS FALSE NEIGHBOUR: 'it returns false'. Refute it at one input. -/
def histShiftWrong : ChangeSpec := { name := "histShift", fn := fun _ => fun
  | [d1, d2, d3] => { results := [.lit (.bool false)], args := [d1, d2, d3] }
  | _ => none }
def HistShiftWrongFalsely : Prop := histShiftRow.holds Try.pinned (OpenSpec.ofChange histShiftWrong)

/-- 'consistorylaw26.HistLocal': WHATEVER THE INPUT: true; the input reads as it did. -/
def histLocalSpec : ChangeSpec := { name := "histLocal", fn := fun _ => fun
  | [d1, d2] => { results := [.lit (.bool true)], args := [d1, d2] }
  | _ => none }
def histLocalRow : OpenClaim := { program := "ythpfadbdkkmagaa", sum := "ef679c042fbc81e0c35e2fbb851fa9375ddb9ca1f0c16dfe735e0c408839b6e4", func := "consistory/consistorylaw26.HistLocal", spec := "histLocal", recurses := true, plainKeys := false, apart := false }
def HistLocalSaid : Prop := histLocalRow.holds Try.pinned (OpenSpec.ofChange histLocalSpec)

/-- ITS FALSE NEIGHBOUR: 'it returns false'. Refute it at one input. -/
def histLocalWrong : ChangeSpec := { name := "histLocal", fn := fun _ => fun
  | [d1, d2] => { results := [.lit (.bool false)], args := [d1, d2] }
  | _ => none }
def HistLocalWrongFalsely : Prop := histLocalRow.holds Try.pinned (OpenSpec.ofChange histLocalWrong)

/-- 'consistorylaw26.HistExplains': WHATEVER THE INPUT: true; the input reads as it did. -/
def histExplainsSpec : ChangeSpec := { name := "histExplains", fn := fun _ => fun
  | [d1, d2, d3] => { results := [.lit (.bool true)], args := [d1, d2, d3] }
  | _ => none }
def histExplainsRow : OpenClaim := { program := "ythpfadbdkkmagaa", sum := "ef679c042fbc81e0c35e2fbb851fa9375ddb9ca1f0c16dfe735e0c408839b6e4", func := "consistory/consistorylaw26.HistExplains", spec := "histExplains", recurses := true, plainKeys := false, apart := false }
def HistExplainsSaid : Prop := histExplainsRow.holds Try.pinned (OpenSpec.ofChange histExplainsSpec)

/-- ITS FALSE NEIGHBOUR: 'it returns false'. Refute it at one input. -/
def histExplainsWrong : ChangeSpec := { name := "histExplains", fn := fun _ => fun
  | [d1, d2, d3] => { results := [.lit (.bool false)], args := [d1, d2, d3] }
  | _ => none }
def HistExplainsWrongFalsely : Prop := histExplainsRow.holds Try.pinned (OpenSpec.ofChange histExplainsWrong)

/- THE SECOND FORM. 'bulk': how many values and letters a reading holds, each counted each time it is reached (what is shared counts as often as it is met; a slice's spare places count too). A statement '..UptoSaid' is the law's where the arguments, and the package variables that the reading takes, are together of bulk at most 1048576: NARROWER than '..Said'. Prove '..Said' where nothing that the law and all that it calls make is longer than what came in: it says more and counts as full. Else prove '..UptoSaid'. A law counts once. -/
mutual
def uptoBulk {H : Type} : DataW H → Nat
  | .lit (.string bytes) => bytes.length + 1
  | .lit _ => 1
  | .nil => 1
  | .ptr d => uptoBulk d + 1
  | .slice elems spare => uptoBulkAll elems + uptoBulkAll spare + 1
  | .agg parts => uptoBulkAll parts + 1
  | .iface _ d => uptoBulk d + 1
  | .map entries => uptoBulkEntries entries + 1
  | .held _ => 1
def uptoBulkAll {H : Type} : List (DataW H) → Nat
  | [] => 0
  | d :: r => uptoBulk d + uptoBulkAll r
def uptoBulkEntries {H : Type} : List (Lit × DataW H) → Nat
  | [] => 0
  | x :: r => uptoBulkEntry x + uptoBulkEntries r
def uptoBulkEntry {H : Type} : Lit × DataW H → Nat
  | (.string bytes, d) => bytes.length + uptoBulk d + 1
  | (_, d) => uptoBulk d + 1
 end
def uptoSmall : (H : Type) → List (DataW H) → Bool := fun _ ds => decide (uptoBulkAll ds ≤ 1048576)
def OpenSpec.upto (s : _root_.Go.ChangeSpec) : _root_.Go.OpenSpec := { _root_.Go.OpenSpec.ofChange s with cond := some uptoSmall }

/-- 'consistorylaw26.HistLinear', WHERE WHAT IT READS IS OF BULK AT MOST 1048576: true; the input reads as it did. -/
def histLinearUptoRow : OpenClaim := { program := "ythpfadbdkkmagaa", sum := "ef679c042fbc81e0c35e2fbb851fa9375ddb9ca1f0c16dfe735e0c408839b6e4", func := "consistory/consistorylaw26.HistLinear", spec := "histLinear", recurses := true, plainKeys := false, apart := false, narrowed := true }
def HistLinearUptoSaid : Prop := histLinearUptoRow.holds Try.pinned (OpenSpec.upto histLinearSpec)

/-- 'consistorylaw26.HistRun', WHERE WHAT IT READS IS OF BULK AT MOST 1048576: true; the input reads as it did. -/
def histRunUptoRow : OpenClaim := { program := "ythpfadbdkkmagaa", sum := "ef679c042fbc81e0c35e2fbb851fa9375ddb9ca1f0c16dfe735e0c408839b6e4", func := "consistory/consistorylaw26.HistRun", spec := "histRun", recurses := true, plainKeys := false, apart := false, narrowed := true }
def HistRunUptoSaid : Prop := histRunUptoRow.holds Try.pinned (OpenSpec.upto histRunSpec)

/-- 'consistorylaw26.HistLess', WHERE WHAT IT READS IS OF BULK AT MOST 1048576: true; the input reads as it did. -/
def histLessUptoRow : OpenClaim := { program := "ythpfadbdkkmagaa", sum := "ef679c042fbc81e0c35e2fbb851fa9375ddb9ca1f0c16dfe735e0c408839b6e4", func := "consistory/consistorylaw26.HistLess", spec := "histLess", recurses := true, plainKeys := false, apart := false, narrowed := true }
def HistLessUptoSaid : Prop := histLessUptoRow.holds Try.pinned (OpenSpec.upto histLessSpec)

/-- 'consistorylaw26.HistShift', WHERE WHAT IT READS IS OF BULK AT MOST 1048576: true; the input reads as it did. -/
def histShiftUptoRow : OpenClaim := { program := "ythpfadbdkkmagaa", sum := "ef679c042fbc81e0c35e2fbb851fa9375ddb9ca1f0c16dfe735e0c408839b6e4", func := "consistory/consistorylaw26.HistShift", spec := "histShift", recurses := true, plainKeys := false, apart := false, narrowed := true }
def HistShiftUptoSaid : Prop := histShiftUptoRow.holds Try.pinned (OpenSpec.upto histShiftSpec)

/-- 'consistorylaw26.HistLocal', WHERE WHAT IT READS IS OF BULK AT MOST 1048576: true; the input reads as it did. -/
def histLocalUptoRow : OpenClaim := { program := "ythpfadbdkkmagaa", sum := "ef679c042fbc81e0c35e2fbb851fa9375ddb9ca1f0c16dfe735e0c408839b6e4", func := "consistory/consistorylaw26.HistLocal", spec := "histLocal", recurses := true, plainKeys := false, apart := false, narrowed := true }
def HistLocalUptoSaid : Prop := histLocalUptoRow.holds Try.pinned (OpenSpec.upto histLocalSpec)

/-- 'consistorylaw26.HistExplains', WHERE WHAT IT READS IS OF BULK AT MOST 1048576: true; the input reads as it did. -/
def histExplainsUptoRow : OpenClaim := { program := "ythpfadbdkkmagaa", sum := "ef679c042fbc81e0c35e2fbb851fa9375ddb9ca1f0c16dfe735e0c408839b6e4", func := "consistory/consistorylaw26.HistExplains", spec := "histExplains", recurses := true, plainKeys := false, apart := false, narrowed := true }
def HistExplainsUptoSaid : Prop := histExplainsUptoRow.holds Try.pinned (OpenSpec.upto histExplainsSpec)

end Rows
end Go.Proofs.Ythpfadbdkkmagaa
