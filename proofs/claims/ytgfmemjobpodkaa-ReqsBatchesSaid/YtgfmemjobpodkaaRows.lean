/-
  No cell of these rows narrows 'for every input' (looked for: loops, veiled, ifaces, maps, wideKeys, modest, calm, conditions, laid).
  DERIVED. THE GIVEN ROWS OF THIS SEAT. 2 by the template 'for every input the law returns true; each argument reads behind the call as it read before'; 0 by the template 'total and deterministic' (their statements: YtgfmemjobpodkaaTotals.lean).
  GIVEN WITH THE SEED: the statements are not yours to turn. If you find one false, say at which input.
  Laid BY PROGRAM, IN A SANDBOX (cutbox-rows.mjs): the forced cells as the released guide's own fill.sh prints them over the translation ae2d5d7b5c19ab1f… (all of the seat's roots in one cut). By AI agents, Wed Nov 11 2026. No macro, syntax, notation, axiom, sorry.
-/
import Derived.Test.YtgfmemjobpodkaaChecked
import GoSem.Claim
import GoSem.ClaimJoined
import GoSem.ClaimMapViews
import Derived.JoinedTies
import Derived.KernelRfl
namespace Go.Proofs.Ytgfmemjobpodkaa
/- THE CELL 'sum', in the pinned program and in every row, IS THE sha256 OF THE DUMP (.gsa) THAT YtgfmemjobpodkaaProg.lean LOADS. Nothing in Lean hashes anything: it is a label: what it is worth is what the hold of that sum in a sandbox is worth. -/
noncomputable def Try.pinned : Pinned := { name := "ytgfmemjobpodkaa", sum := "ae2d5d7b5c19ab1ff2e454d9b8da0ca5e6ea98adb675156b6e6a22b2a13b50a2", checked := Try.checked }
namespace Rows
def none {H : Type} : Left H := { results := [], args := [] }

/-- 'consistorylaw07.ReqsPuts': WHATEVER THE INPUT: true; the input reads as it did. -/
def reqsPutsSpec : ChangeSpec := { name := "reqsPuts", fn := fun _ => fun
  | [d1, d2] => { results := [.lit (.bool true)], args := [d1, d2] }
  | _ => none }
def reqsPutsRow : OpenClaim := { program := "ytgfmemjobpodkaa", sum := "ae2d5d7b5c19ab1ff2e454d9b8da0ca5e6ea98adb675156b6e6a22b2a13b50a2", func := "consistory/consistorylaw07.ReqsPuts", spec := "reqsPuts", apart := false }
def ReqsPutsSaid : Prop := reqsPutsRow.holds Try.pinned (OpenSpec.ofChange reqsPutsSpec)

/-- ITS FALSE NEIGHBOUR: 'it returns false'. Refute it at one input. -/
def reqsPutsWrong : ChangeSpec := { name := "reqsPuts", fn := fun _ => fun
  | [d1, d2] => { results := [.lit (.bool false)], args := [d1, d2] }
  | _ => none }
def ReqsPutsWrongFalsely : Prop := reqsPutsRow.holds Try.pinned (OpenSpec.ofChange reqsPutsWrong)

/-- 'consistorylaw07.ReqsBatches': WHATEVER THE INPUT: true; the input reads as it did. -/
def reqsBatchesSpec : ChangeSpec := { name := "reqsBatches", fn := fun _ => fun
  | [d] => { results := [.lit (.bool true)], args := [d] }
  | _ => none }
def reqsBatchesRow : OpenClaim := { program := "ytgfmemjobpodkaa", sum := "ae2d5d7b5c19ab1ff2e454d9b8da0ca5e6ea98adb675156b6e6a22b2a13b50a2", func := "consistory/consistorylaw07.ReqsBatches", spec := "reqsBatches", apart := false }
def ReqsBatchesSaid : Prop := reqsBatchesRow.holds Try.pinned (OpenSpec.ofChange reqsBatchesSpec)

/-- ITS FALSE NEIGHBOUR: 'it returns false'. Refute it at one input. -/
def reqsBatchesWrong : ChangeSpec := { name := "reqsBatches", fn := fun _ => fun
  | [d] => { results := [.lit (.bool false)], args := [d] }
  | _ => none }
def ReqsBatchesWrongFalsely : Prop := reqsBatchesRow.holds Try.pinned (OpenSpec.ofChange reqsBatchesWrong)

/- THE SECOND FORM. 'bulk': how many values and letters a reading holds, each counted each time it is reached (what is shared counts as often as it is met; a slice's spare places count too). A statement '..UptoSaid' is the law's where the arguments, and the package variables that the reading takes, are together of bulk at most 1048576: NARROWER than '..Said'. Prove '..Said' where nothing that the law and all that it calls make is longer than what came in: it says more and counts as full. Else prove '..UptoSaid'. A law counts once. -/
mutual
def uptoBulk {H : Type} : DataW H → Nat
  | .lit (.string bytes) => bytes.length + 1
  | .lit _ => 1
  | .nil => 1
  | .ptr d => uptoBulk d + 1
  | .slice elems spare => uptoBulkAll elems + uptoBulkAll spare + 1
  | .agg parts => uptoBulkAll parts + 1
  | .iface _ d => uptoBulk d + 1
  | .map entries => uptoBulkEntries entries + 1
  | .held _ => 1
def uptoBulkAll {H : Type} : List (DataW H) → Nat
  | [] => 0
  | d :: r => uptoBulk d + uptoBulkAll r
def uptoBulkEntries {H : Type} : List (Lit × DataW H) → Nat
  | [] => 0
  | x :: r => uptoBulkEntry x + uptoBulkEntries r
def uptoBulkEntry {H : Type} : Lit × DataW H → Nat
  | (.string bytes, d) => bytes.length + uptoBulk d + 1
  | (_, d) => uptoBulk d + 1
 end
def uptoSmall : (H : Type) → List (DataW H) → Bool := fun _ ds => decide (uptoBulkAll ds ≤ 1048576)
def OpenSpec.upto (s : _root_.Go.ChangeSpec) : _root_.Go.OpenSpec := { _root_.Go.OpenSpec.ofChange s with cond := some uptoSmall }

/-- 'consistorylaw07.ReqsPuts', WHERE WHAT IT READS IS OF BULK AT MOST 1048576: true; the input reads as it did. -/
def reqsPutsUptoRow : OpenClaim := { program := "ytgfmemjobpodkaa", sum := "ae2d5d7b5c19ab1ff2e454d9b8da0ca5e6ea98adb675156b6e6a22b2a13b50a2", func := "consistory/consistorylaw07.ReqsPuts", spec := "reqsPuts", apart := false, narrowed := true }
def ReqsPutsUptoSaid : Prop := reqsPutsUptoRow.holds Try.pinned (OpenSpec.upto reqsPutsSpec)

/-- 'consistorylaw07.ReqsBatches', WHERE WHAT IT READS IS OF BULK AT MOST 1048576: true; the input reads as it did. -/
def reqsBatchesUptoRow : OpenClaim := { program := "ytgfmemjobpodkaa", sum := "ae2d5d7b5c19ab1ff2e454d9b8da0ca5e6ea98adb675156b6e6a22b2a13b50a2", func := "consistory/consistorylaw07.ReqsBatches", spec := "reqsBatches", apart := false, narrowed := true }
def ReqsBatchesUptoSaid : Prop := reqsBatchesUptoRow.holds Try.pinned (OpenSpec.upto reqsBatchesSpec)

end Rows
end Go.Proofs.Ytgfmemjobpodkaa
