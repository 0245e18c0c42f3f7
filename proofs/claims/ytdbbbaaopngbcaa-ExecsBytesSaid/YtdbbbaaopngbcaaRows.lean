/-
  No cell of these rows narrows 'for every input' (looked for: loops, veiled, ifaces, maps, wideKeys, modest, calm, conditions, laid).
  DERIVED. THE GIVEN ROWS OF THIS SEAT. 5 by the template 'for every input the law returns true; each argument reads behind the call as it read before'; 0 by the template 'total and deterministic' (their statements: YtdbbbaaopngbcaaTotals.lean).
  GIVEN WITH THE SEED: the statements are not yours to turn. If you find one false, say at which input.
  Laid BY PROGRAM, IN A SANDBOX (cutbox-rows.mjs): the forced cells as the released guide's own fill.sh prints them over the translation 1e7a6461b32b4285… (all of the seat's roots in one cut). By AI agents, Wed Nov 11 2026. No macro, syntax, notation, axiom, sorry.
-/
import Derived.Test.YtdbbbaaopngbcaaChecked
import GoSem.Claim
import GoSem.ClaimJoined
import GoSem.ClaimMapViews
import Derived.JoinedTies
import Derived.KernelRfl
namespace Go.Proofs.Ytdbbbaaopngbcaa
/- THE CELL 'sum', in the pinned program and in every row, IS THE sha256 OF THE DUMP (.gsa) THAT YtdbbbaaopngbcaaProg.lean LOADS. Nothing in Lean hashes anything: it is a label: what it is worth is what the hold of that sum in a sandbox is worth. -/
noncomputable def Try.pinned : Pinned := { name := "ytdbbbaaopngbcaa", sum := "1e7a6461b32b4285835207855f6334c78ae1d620cffae36c655456eb0a09497d", checked := Try.checked }
namespace Rows
def none {H : Type} : Left H := { results := [], args := [] }

/-- 'consistorylaw15.ExecsDo': WHATEVER THE INPUT: true; the input reads as it did. -/
def execsDoSpec : ChangeSpec := { name := "execsDo", fn := fun _ => fun
  | [d1, d2] => { results := [.lit (.bool true)], args := [d1, d2] }
  | _ => none }
def execsDoRow : OpenClaim := { program := "ytdbbbaaopngbcaa", sum := "1e7a6461b32b4285835207855f6334c78ae1d620cffae36c655456eb0a09497d", func := "consistory/consistorylaw15.ExecsDo", spec := "execsDo", apart := false }
def ExecsDoSaid : Prop := execsDoRow.holds Try.pinned (OpenSpec.ofChange execsDoSpec)

/-- ITS FALSE NEIGHBOUR: 'it returns false'. Refute it at one input. -/
def execsDoWrong : ChangeSpec := { name := "execsDo", fn := fun _ => fun
  | [d1, d2] => { results := [.lit (.bool false)], args := [d1, d2] }
  | _ => none }
def ExecsDoWrongFalsely : Prop := execsDoRow.holds Try.pinned (OpenSpec.ofChange execsDoWrong)

/-- 'consistorylaw15.ExecsOnce': WHATEVER THE INPUT: true; the input reads as it did. -/
def execsOnceSpec : ChangeSpec := { name := "execsOnce", fn := fun _ => fun
  | [d1, d2] => { results := [.lit (.bool true)], args := [d1, d2] }
  | _ => none }
def execsOnceRow : OpenClaim := { program := "ytdbbbaaopngbcaa", sum := "1e7a6461b32b4285835207855f6334c78ae1d620cffae36c655456eb0a09497d", func := "consistory/consistorylaw15.ExecsOnce", spec := "execsOnce", apart := false }
def ExecsOnceSaid : Prop := execsOnceRow.holds Try.pinned (OpenSpec.ofChange execsOnceSpec)

/-- ITS FALSE NEIGHBOUR: 'it returns false'. Refute it at one input. -/
def execsOnceWrong : ChangeSpec := { name := "execsOnce", fn := fun _ => fun
  | [d1, d2] => { results := [.lit (.bool false)], args := [d1, d2] }
  | _ => none }
def ExecsOnceWrongFalsely : Prop := execsOnceRow.holds Try.pinned (OpenSpec.ofChange execsOnceWrong)

/-- 'consistorylaw15.ExecsViews': WHATEVER THE INPUT: true; the input reads as it did. -/
def execsViewsSpec : ChangeSpec := { name := "execsViews", fn := fun _ => fun
  | [d] => { results := [.lit (.bool true)], args := [d] }
  | _ => none }
def execsViewsRow : OpenClaim := { program := "ytdbbbaaopngbcaa", sum := "1e7a6461b32b4285835207855f6334c78ae1d620cffae36c655456eb0a09497d", func := "consistory/consistorylaw15.ExecsViews", spec := "execsViews", apart := false }
def ExecsViewsSaid : Prop := execsViewsRow.holds Try.pinned (OpenSpec.ofChange execsViewsSpec)

/-- ITS FALSE NEIGHBOUR: 'it returns false'. Refute it at one input. -/
def execsViewsWrong : ChangeSpec := { name := "execsViews", fn := fun _ => fun
  | [d] => { results := [.lit (.bool false)], args := [d] }
  | _ => none }
def ExecsViewsWrongFalsely : Prop := execsViewsRow.holds Try.pinned (OpenSpec.ofChange execsViewsWrong)

/-- 'consistorylaw15.ExecsReplies': WHATEVER THE INPUT: true; the input reads as it did. -/
def execsRepliesSpec : ChangeSpec := { name := "execsReplies", fn := fun _ => fun
  | [d1, d2] => { results := [.lit (.bool true)], args := [d1, d2] }
  | _ => none }
def execsRepliesRow : OpenClaim := { program := "ytdbbbaaopngbcaa", sum := "1e7a6461b32b4285835207855f6334c78ae1d620cffae36c655456eb0a09497d", func := "consistory/consistorylaw15.ExecsReplies", spec := "execsReplies", apart := false }
def ExecsRepliesSaid : Prop := execsRepliesRow.holds Try.pinned (OpenSpec.ofChange execsRepliesSpec)

/-- ITS FALSE NEIGHBOUR: 'it returns false'. Refute it at one input. -/
def execsRepliesWrong : ChangeSpec := { name := "execsReplies", fn := fun _ => fun
  | [d1, d2] => { results := [.lit (.bool false)], args := [d1, d2] }
  | _ => none }
def ExecsRepliesWrongFalsely : Prop := execsRepliesRow.holds Try.pinned (OpenSpec.ofChange execsRepliesWrong)

/-- 'consistorylaw15.ExecsBytes': WHATEVER THE INPUT: true; the input reads as it did. -/
def execsBytesSpec : ChangeSpec := { name := "execsBytes", fn := fun _ => fun
  | [d] => { results := [.lit (.bool true)], args := [d] }
  | _ => none }
def execsBytesRow : OpenClaim := { program := "ytdbbbaaopngbcaa", sum := "1e7a6461b32b4285835207855f6334c78ae1d620cffae36c655456eb0a09497d", func := "consistory/consistorylaw15.ExecsBytes", spec := "execsBytes", apart := false }
def ExecsBytesSaid : Prop := execsBytesRow.holds Try.pinned (OpenSpec.ofChange execsBytesSpec)

/-- ITS FALSE NEIGHBOUR: 'it returns false'. Refute it at one input. -/
def execsBytesWrong : ChangeSpec := { name := "execsBytes", fn := fun _ => fun
  | [d] => { results := [.lit (.bool false)], args := [d] }
  | _ => none }
def ExecsBytesWrongFalsely : Prop := execsBytesRow.holds Try.pinned (OpenSpec.ofChange execsBytesWrong)

/- THE SECOND FORM. 'bulk': how many values and letters a reading holds, each counted each time it is reached (what is shared counts as often as it is met; a slice's spare places count too). A statement '..UptoSaid' is the law's where the arguments, and the package variables that the reading takes, are together of bulk at most 1048576: NARROWER than '..Said'. Prove '..Said' where nothing that the law and all that it calls make is longer than what came in: it says more and counts as full. Else prove '..UptoSaid'. A law counts once. -/
mutual
def uptoBulk {H : Type} : DataW H → Nat
  | .lit (.string bytes) => bytes.length + 1
  | .lit _ => 1
  | .nil => 1
  | .ptr d => uptoBulk d + 1
  | .slice elems spare => uptoBulkAll elems + uptoBulkAll spare + 1
  | .agg parts => uptoBulkAll parts + 1
  | .iface _ d => uptoBulk d + 1
  | .map entries => uptoBulkEntries entries + 1
  | .held _ => 1
def uptoBulkAll {H : Type} : List (DataW H) → Nat
  | [] => 0
  | d :: r => uptoBulk d + uptoBulkAll r
def uptoBulkEntries {H : Type} : List (Lit × DataW H) → Nat
  | [] => 0
  | x :: r => uptoBulkEntry x + uptoBulkEntries r
def uptoBulkEntry {H : Type} : Lit × DataW H → Nat
  | (.string bytes, d) => bytes.length + uptoBulk d + 1
  | (_, d) => uptoBulk d + 1
 end
def uptoSmall : (H : Type) → List (DataW H) → Bool := fun _ ds => decide (uptoBulkAll ds ≤ 1048576)
def OpenSpec.upto (s : _root_.Go.ChangeSpec) : _root_.Go.OpenSpec := { _root_.Go.OpenSpec.ofChange s with cond := some uptoSmall }

/-- 'consistorylaw15.ExecsDo', WHERE WHAT IT READS IS OF BULK AT MOST 1048576: true; the input reads as it did. -/
def execsDoUptoRow : OpenClaim := { program := "ytdbbbaaopngbcaa", sum := "1e7a6461b32b4285835207855f6334c78ae1d620cffae36c655456eb0a09497d", func := "consistory/consistorylaw15.ExecsDo", spec := "execsDo", apart := false, narrowed := true }
def ExecsDoUptoSaid : Prop := execsDoUptoRow.holds Try.pinned (OpenSpec.upto execsDoSpec)

/-- 'consistorylaw15.ExecsOnce', WHERE WHAT IT READS IS OF BULK AT MOST 1048576: true; the input reads as it did. -/
def execsOnceUptoRow : OpenClaim := { program := "ytdbbbaaopngbcaa", sum := "1e7a6461b32b4285835207855f6334c78ae1d620cffae36c655456eb0a09497d", func := "consistory/consistorylaw15.ExecsOnce", spec := "execsOnce", apart := false, narrowed := true }
def ExecsOnceUptoSaid : Prop := execsOnceUptoRow.holds Try.pinned (OpenSpec.upto execsOnceSpec)

/-- 'consistorylaw15.ExecsViews', WHERE WHAT IT READS IS OF BULK AT MOST 1048576: true; the input reads as it did. -/
def execsViewsUptoRow : OpenClaim := { program := "ytdbbbaaopngbcaa", sum := "1e7a6461b32b4285835207855f6334c78ae1d620cffae36c655456eb0a09497d", func := "consistory/consistorylaw15.ExecsViews", spec := "execsViews", apart := false, narrowed := true }
def ExecsViewsUptoSaid : Prop := execsViewsUptoRow.holds Try.pinned (OpenSpec.upto execsViewsSpec)

/-- 'consistorylaw15.ExecsReplies', WHERE WHAT IT READS IS OF BULK AT MOST 1048576: true; the input reads as it did. -/
def execsRepliesUptoRow : OpenClaim := { program := "ytdbbbaaopngbcaa", sum := "1e7a6461b32b4285835207855f6334c78ae1d620cffae36c655456eb0a09497d", func := "consistory/consistorylaw15.ExecsReplies", spec := "execsReplies", apart := false, narrowed := true }
def ExecsRepliesUptoSaid : Prop := execsRepliesUptoRow.holds Try.pinned (OpenSpec.upto execsRepliesSpec)

/-- 'consistorylaw15.ExecsBytes', WHERE WHAT IT READS IS OF BULK AT MOST 1048576: true; the input reads as it did. -/
def execsBytesUptoRow : OpenClaim := { program := "ytdbbbaaopngbcaa", sum := "1e7a6461b32b4285835207855f6334c78ae1d620cffae36c655456eb0a09497d", func := "consistory/consistorylaw15.ExecsBytes", spec := "execsBytes", apart := false, narrowed := true }
def ExecsBytesUptoSaid : Prop := execsBytesUptoRow.holds Try.pinned (OpenSpec.upto execsBytesSpec)

end Rows
end Go.Proofs.Ytdbbbaaopngbcaa
