/-
  No cell of these rows narrows 'for every input' (looked for: loops, veiled, ifaces, maps, wideKeys, modest, calm, conditions, laid).
  DERIVED. THE GIVEN ROWS OF THIS SEAT. 6 by the template 'for every input the law returns true; each argument reads behind the call as it read before'; 0 by the template 'total and deterministic' (their statements: YtcceiicpploclaaTotals.lean).
  GIVEN WITH THE SEED: the statements are not yours to turn. If you find one false, say at which input.
  Laid BY PROGRAM, IN A SANDBOX (cutbox-rows.mjs): the forced cells as the released guide's own fill.sh prints them over the translation c6c3590cb517c080… (all of the seat's roots in one cut). By AI agents, Wed Nov 11 2026. No macro, syntax, notation, axiom, sorry.
-/
import Derived.Test.YtcceiicpploclaaChecked
import GoSem.Claim
import GoSem.ClaimJoined
import GoSem.ClaimMapViews
import Derived.JoinedTies
import Derived.KernelRfl
namespace Go.Proofs.Ytcceiicpploclaa
/- THE CELL 'sum', in the pinned program and in every row, IS THE sha256 OF THE DUMP (.gsa) THAT YtcceiicpploclaaProg.lean LOADS. Nothing in Lean hashes anything: it is a label: what it is worth is what the hold of that sum in a sandbox is worth. -/
noncomputable def Try.pinned : Pinned := { name := "ytcceiicpploclaa", sum := "c6c3590cb517c080551d59156441ab0212ac37e83dba06e3a7d4a9916fa24b5b", checked := Try.checked }
namespace Rows
def none {H : Type} : Left H := { results := [], args := [] }

/-- 'consistorylaw16.QueueFormed': WHATEVER THE INPUT: true; the input reads as it did. -/
def queueFormedSpec : ChangeSpec := { name := "queueFormed", fn := fun _ => fun
  | [d1, d2] => { results := [.lit (.bool true)], args := [d1, d2] }
  | _ => none }
def queueFormedRow : OpenClaim := { program := "ytcceiicpploclaa", sum := "c6c3590cb517c080551d59156441ab0212ac37e83dba06e3a7d4a9916fa24b5b", func := "consistory/consistorylaw16.QueueFormed", spec := "queueFormed", plainKeys := false, apart := false }
def QueueFormedSaid : Prop := queueFormedRow.holds Try.pinned (OpenSpec.ofChange queueFormedSpec)

/-- ITS FALSE NEIGHBOUR: 'it returns false'. Refute it at one input. -/
def queueFormedWrong : ChangeSpec := { name := "queueFormed", fn := fun _ => fun
  | [d1, d2] => { results := [.lit (.bool false)], args := [d1, d2] }
  | _ => none }
def QueueFormedWrongFalsely : Prop := queueFormedRow.holds Try.pinned (OpenSpec.ofChange queueFormedWrong)

/-- 'consistorylaw16.QueueLeast': WHATEVER THE INPUT: true; the input reads as it did. -/
def queueLeastSpec : ChangeSpec := { name := "queueLeast", fn := fun _ => fun
  | [d1, d2] => { results := [.lit (.bool true)], args := [d1, d2] }
  | _ => none }
def queueLeastRow : OpenClaim := { program := "ytcceiicpploclaa", sum := "c6c3590cb517c080551d59156441ab0212ac37e83dba06e3a7d4a9916fa24b5b", func := "consistory/consistorylaw16.QueueLeast", spec := "queueLeast", plainKeys := false, apart := false }
def QueueLeastSaid : Prop := queueLeastRow.holds Try.pinned (OpenSpec.ofChange queueLeastSpec)

/-- ITS FALSE NEIGHBOUR: 'it returns false'. Refute it at one input. -/
def queueLeastWrong : ChangeSpec := { name := "queueLeast", fn := fun _ => fun
  | [d1, d2] => { results := [.lit (.bool false)], args := [d1, d2] }
  | _ => none }
def QueueLeastWrongFalsely : Prop := queueLeastRow.holds Try.pinned (OpenSpec.ofChange queueLeastWrong)

/-- 'consistorylaw16.QueueActs': WHATEVER THE INPUT: true; the input reads as it did. -/
def queueActsSpec : ChangeSpec := { name := "queueActs", fn := fun _ => fun
  | [d] => { results := [.lit (.bool true)], args := [d] }
  | _ => none }
def queueActsRow : OpenClaim := { program := "ytcceiicpploclaa", sum := "c6c3590cb517c080551d59156441ab0212ac37e83dba06e3a7d4a9916fa24b5b", func := "consistory/consistorylaw16.QueueActs", spec := "queueActs", plainKeys := false, apart := false }
def QueueActsSaid : Prop := queueActsRow.holds Try.pinned (OpenSpec.ofChange queueActsSpec)

/-- ITS FALSE NEIGHBOUR: 'it returns false'. Refute it at one input. -/
def queueActsWrong : ChangeSpec := { name := "queueActs", fn := fun _ => fun
  | [d] => { results := [.lit (.bool false)], args := [d] }
  | _ => none }
def QueueActsWrongFalsely : Prop := queueActsRow.holds Try.pinned (OpenSpec.ofChange queueActsWrong)

/-- 'consistorylaw16.QueueGone': WHATEVER THE INPUT: true; the input reads as it did. -/
def queueGoneSpec : ChangeSpec := { name := "queueGone", fn := fun _ => fun
  | [d1, d2] => { results := [.lit (.bool true)], args := [d1, d2] }
  | _ => none }
def queueGoneRow : OpenClaim := { program := "ytcceiicpploclaa", sum := "c6c3590cb517c080551d59156441ab0212ac37e83dba06e3a7d4a9916fa24b5b", func := "consistory/consistorylaw16.QueueGone", spec := "queueGone", plainKeys := false, apart := false }
def QueueGoneSaid : Prop := queueGoneRow.holds Try.pinned (OpenSpec.ofChange queueGoneSpec)

/-- ITS FALSE NEIGHBOUR: 'it returns false'. Refute it at one input. -/
def queueGoneWrong : ChangeSpec := { name := "queueGone", fn := fun _ => fun
  | [d1, d2] => { results := [.lit (.bool false)], args := [d1, d2] }
  | _ => none }
def QueueGoneWrongFalsely : Prop := queueGoneRow.holds Try.pinned (OpenSpec.ofChange queueGoneWrong)

/-- 'consistorylaw16.QueueNil': WHATEVER THE INPUT: true; the input reads as it did. -/
def queueNilSpec : ChangeSpec := { name := "queueNil", fn := fun _ => fun
  | [d] => { results := [.lit (.bool true)], args := [d] }
  | _ => none }
def queueNilRow : OpenClaim := { program := "ytcceiicpploclaa", sum := "c6c3590cb517c080551d59156441ab0212ac37e83dba06e3a7d4a9916fa24b5b", func := "consistory/consistorylaw16.QueueNil", spec := "queueNil", plainKeys := false, apart := false }
def QueueNilSaid : Prop := queueNilRow.holds Try.pinned (OpenSpec.ofChange queueNilSpec)

/-- ITS FALSE NEIGHBOUR: 'it returns false'. Refute it at one input. -/
def queueNilWrong : ChangeSpec := { name := "queueNil", fn := fun _ => fun
  | [d] => { results := [.lit (.bool false)], args := [d] }
  | _ => none }
def QueueNilWrongFalsely : Prop := queueNilRow.holds Try.pinned (OpenSpec.ofChange queueNilWrong)

/-- 'consistorylaw16.QueueMost': WHATEVER THE INPUT: true; the input reads as it did. -/
def queueMostSpec : ChangeSpec := { name := "queueMost", fn := fun _ => fun
  | [d] => { results := [.lit (.bool true)], args := [d] }
  | _ => none }
def queueMostRow : OpenClaim := { program := "ytcceiicpploclaa", sum := "c6c3590cb517c080551d59156441ab0212ac37e83dba06e3a7d4a9916fa24b5b", func := "consistory/consistorylaw16.QueueMost", spec := "queueMost", plainKeys := false, apart := false }
def QueueMostSaid : Prop := queueMostRow.holds Try.pinned (OpenSpec.ofChange queueMostSpec)

/-- ITS FALSE NEIGHBOUR: 'it returns false'. Refute it at one input. -/
def queueMostWrong : ChangeSpec := { name := "queueMost", fn := fun _ => fun
  | [d] => { results := [.lit (.bool false)], args := [d] }
  | _ => none }
def QueueMostWrongFalsely : Prop := queueMostRow.holds Try.pinned (OpenSpec.ofChange queueMostWrong)

/- THE SECOND FORM. 'bulk': how many values and letters a reading holds, each counted each time it is reached (what is shared counts as often as it is met; a slice's spare places count too). A statement '..UptoSaid' is the law's where the arguments, and the package variables that the reading takes, are together of bulk at most 1048576: NARROWER than '..Said'. Prove '..Said' where nothing that the law and all that it calls make is longer than what came in: it says more and counts as full. Else prove '..UptoSaid'. A law counts once. -/
mutual
def uptoBulk {H : Type} : DataW H → Nat
  | .lit (.string bytes) => bytes.length + 1
  | .lit _ => 1
  | .nil => 1
  | .ptr d => uptoBulk d + 1
  | .slice elems spare => uptoBulkAll elems + uptoBulkAll spare + 1
  | .agg parts => uptoBulkAll parts + 1
  | .iface _ d => uptoBulk d + 1
  | .map entries => uptoBulkEntries entries + 1
  | .held _ => 1
def uptoBulkAll {H : Type} : List (DataW H) → Nat
  | [] => 0
  | d :: r => uptoBulk d + uptoBulkAll r
def uptoBulkEntries {H : Type} : List (Lit × DataW H) → Nat
  | [] => 0
  | x :: r => uptoBulkEntry x + uptoBulkEntries r
def uptoBulkEntry {H : Type} : Lit × DataW H → Nat
  | (.string bytes, d) => bytes.length + uptoBulk d + 1
  | (_, d) => uptoBulk d + 1
 end
def uptoSmall : (H : Type) → List (DataW H) → Bool := fun _ ds => decide (uptoBulkAll ds ≤ 1048576)
def OpenSpec.upto (s : _root_.Go.ChangeSpec) : _root_.Go.OpenSpec := { _root_.Go.OpenSpec.ofChange s with cond := some uptoSmall }

/-- 'consistorylaw16.QueueFormed', WHERE WHAT IT READS IS OF BULK AT MOST 1048576: true; the input reads as it did. -/
def queueFormedUptoRow : OpenClaim := { program := "ytcceiicpploclaa", sum := "c6c3590cb517c080551d59156441ab0212ac37e83dba06e3a7d4a9916fa24b5b", func := "consistory/consistorylaw16.QueueFormed", spec := "queueFormed", plainKeys := false, apart := false, narrowed := true }
def QueueFormedUptoSaid : Prop := queueFormedUptoRow.holds Try.pinned (OpenSpec.upto queueFormedSpec)

/-- 'consistorylaw16.QueueLeast', WHERE WHAT IT READS IS OF BULK AT MOST 1048576: true; the input reads as it did. -/
def queueLeastUptoRow : OpenClaim := { program := "ytcceiicpploclaa", sum := "c6c3590cb517c080551d59156441ab0212ac37e83dba06e3a7d4a9916fa24b5b", func := "consistory/consistorylaw16.QueueLeast", spec := "queueLeast", plainKeys := false, apart := false, narrowed := true }
def QueueLeastUptoSaid : Prop := queueLeastUptoRow.holds Try.pinned (OpenSpec.upto queueLeastSpec)

/-- 'consistorylaw16.QueueActs', WHERE WHAT IT READS IS OF BULK AT MOST 1048576: true; the input reads as it did. -/
def queueActsUptoRow : OpenClaim := { program := "ytcceiicpploclaa", sum := "c6c3590cb517c080551d59156441ab0212ac37e83dba06e3a7d4a9916fa24b5b", func := "consistory/consistorylaw16.QueueActs", spec := "queueActs", plainKeys := false, apart := false, narrowed := true }
def QueueActsUptoSaid : Prop := queueActsUptoRow.holds Try.pinned (OpenSpec.upto queueActsSpec)

/-- 'consistorylaw16.QueueGone', WHERE WHAT IT READS IS OF BULK AT MOST 1048576: true; the input reads as it did. -/
def queueGoneUptoRow : OpenClaim := { program := "ytcceiicpploclaa", sum := "c6c3590cb517c080551d59156441ab0212ac37e83dba06e3a7d4a9916fa24b5b", func := "consistory/consistorylaw16.QueueGone", spec := "queueGone", plainKeys := false, apart := false, narrowed := true }
def QueueGoneUptoSaid : Prop := queueGoneUptoRow.holds Try.pinned (OpenSpec.upto queueGoneSpec)

/-- 'consistorylaw16.QueueNil', WHERE WHAT IT READS IS OF BULK AT MOST 1048576: true; the input reads as it did. -/
def queueNilUptoRow : OpenClaim := { program := "ytcceiicpploclaa", sum := "c6c3590cb517c080551d59156441ab0212ac37e83dba06e3a7d4a9916fa24b5b", func := "consistory/consistorylaw16.QueueNil", spec := "queueNil", plainKeys := false, apart := false, narrowed := true }
def QueueNilUptoSaid : Prop := queueNilUptoRow.holds Try.pinned (OpenSpec.upto queueNilSpec)

/-- 'consistorylaw16.QueueMost', WHERE WHAT IT READS IS OF BULK AT MOST 1048576: true; the input reads as it did. -/
def queueMostUptoRow : OpenClaim := { program := "ytcceiicpploclaa", sum := "c6c3590cb517c080551d59156441ab0212ac37e83dba06e3a7d4a9916fa24b5b", func := "consistory/consistorylaw16.QueueMost", spec := "queueMost", plainKeys := false, apart := false, narrowed := true }
def QueueMostUptoSaid : Prop := queueMostUptoRow.holds Try.pinned (OpenSpec.upto queueMostSpec)

end Rows
end Go.Proofs.Ytcceiicpploclaa
