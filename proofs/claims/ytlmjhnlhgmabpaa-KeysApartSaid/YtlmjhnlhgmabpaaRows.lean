/-
  No cell of these rows narrows 'for every input' (looked for: loops, veiled, ifaces, maps, wideKeys, modest, calm, conditions, laid).
  DERIVED. THE GIVEN ROWS OF THIS SEAT. 4 by the template 'for every input the law returns true; each argument reads behind the call as it read before'; 0 by the template 'total and deterministic' (their statements: YtlmjhnlhgmabpaaTotals.lean).
  GIVEN WITH THE SEED: the statements are not yours to turn. If you find one false, say at which input.
  Laid BY PROGRAM, IN A SANDBOX (cutbox-rows.mjs): the forced cells as the released guide's own fill.sh prints them over the translation ea33555fb731d90e… (all of the seat's roots in one cut). By AI agents, Wed Nov 11 2026. No macro, syntax, notation, axiom, sorry.
-/
import Derived.Test.YtlmjhnlhgmabpaaChecked
import GoSem.Claim
import GoSem.ClaimJoined
import GoSem.ClaimMapViews
import Derived.JoinedTies
import Derived.KernelRfl
namespace Go.Proofs.Ytlmjhnlhgmabpaa
/- THE CELL 'sum', in the pinned program and in every row, IS THE sha256 OF THE DUMP (.gsa) THAT YtlmjhnlhgmabpaaProg.lean LOADS. Nothing in Lean hashes anything: it is a label: what it is worth is what the hold of that sum in a sandbox is worth. -/
noncomputable def Try.pinned : Pinned := { name := "ytlmjhnlhgmabpaa", sum := "ea33555fb731d90ed73d57d78dd0a430fff0c47f39f27866b131381320004a5c", checked := Try.checked }
namespace Rows
def none {H : Type} : Left H := { results := [], args := [] }

/-- 'consistorylaw05.KeysTable': WHATEVER THE INPUT: true; the input reads as it did. -/
def keysTableSpec : ChangeSpec := { name := "keysTable", fn := fun _ => fun
  | [d1, d2, d3] => { results := [.lit (.bool true)], args := [d1, d2, d3] }
  | _ => none }
def keysTableRow : OpenClaim := { program := "ytlmjhnlhgmabpaa", sum := "ea33555fb731d90ed73d57d78dd0a430fff0c47f39f27866b131381320004a5c", func := "consistory/consistorylaw05.KeysTable", spec := "keysTable", apart := false }
def KeysTableSaid : Prop := keysTableRow.holds Try.pinned (OpenSpec.ofChange keysTableSpec)

/-- ITS FALSE NEIGHBOUR: 'it returns false'. Refute it at one input. -/
def keysTableWrong : ChangeSpec := { name := "keysTable", fn := fun _ => fun
  | [d1, d2, d3] => { results := [.lit (.bool false)], args := [d1, d2, d3] }
  | _ => none }
def KeysTableWrongFalsely : Prop := keysTableRow.holds Try.pinned (OpenSpec.ofChange keysTableWrong)

/-- 'consistorylaw05.KeysVerify': WHATEVER THE INPUT: true; the input reads as it did. -/
def keysVerifySpec : ChangeSpec := { name := "keysVerify", fn := fun _ => fun
  | [d1, d2, d3] => { results := [.lit (.bool true)], args := [d1, d2, d3] }
  | _ => none }
def keysVerifyRow : OpenClaim := { program := "ytlmjhnlhgmabpaa", sum := "ea33555fb731d90ed73d57d78dd0a430fff0c47f39f27866b131381320004a5c", func := "consistory/consistorylaw05.KeysVerify", spec := "keysVerify", apart := false }
def KeysVerifySaid : Prop := keysVerifyRow.holds Try.pinned (OpenSpec.ofChange keysVerifySpec)

/-- ITS FALSE NEIGHBOUR: 'it returns false'. Refute it at one input. -/
def keysVerifyWrong : ChangeSpec := { name := "keysVerify", fn := fun _ => fun
  | [d1, d2, d3] => { results := [.lit (.bool false)], args := [d1, d2, d3] }
  | _ => none }
def KeysVerifyWrongFalsely : Prop := keysVerifyRow.holds Try.pinned (OpenSpec.ofChange keysVerifyWrong)

/-- 'consistorylaw05.KeysApart': WHATEVER THE INPUT: true; the input reads as it did. -/
def keysApartSpec : ChangeSpec := { name := "keysApart", fn := fun _ => fun
  | [d1, d2, d3] => { results := [.lit (.bool true)], args := [d1, d2, d3] }
  | _ => none }
def keysApartRow : OpenClaim := { program := "ytlmjhnlhgmabpaa", sum := "ea33555fb731d90ed73d57d78dd0a430fff0c47f39f27866b131381320004a5c", func := "consistory/consistorylaw05.KeysApart", spec := "keysApart", apart := false }
def KeysApartSaid : Prop := keysApartRow.holds Try.pinned (OpenSpec.ofChange keysApartSpec)

/-- ITS FALSE NEIGHBOUR: 'it returns false'. Refute it at one input. -/
def keysApartWrong : ChangeSpec := { name := "keysApart", fn := fun _ => fun
  | [d1, d2, d3] => { results := [.lit (.bool false)], args := [d1, d2, d3] }
  | _ => none }
def KeysApartWrongFalsely : Prop := keysApartRow.holds Try.pinned (OpenSpec.ofChange keysApartWrong)

/-- 'consistorylaw05.KeysSigns': WHATEVER THE INPUT: true; the input reads as it did. -/
def keysSignsSpec : ChangeSpec := { name := "keysSigns", fn := fun _ => fun
  | [d1, d2, d3] => { results := [.lit (.bool true)], args := [d1, d2, d3] }
  | _ => none }
def keysSignsRow : OpenClaim := { program := "ytlmjhnlhgmabpaa", sum := "ea33555fb731d90ed73d57d78dd0a430fff0c47f39f27866b131381320004a5c", func := "consistory/consistorylaw05.KeysSigns", spec := "keysSigns", apart := false }
def KeysSignsSaid : Prop := keysSignsRow.holds Try.pinned (OpenSpec.ofChange keysSignsSpec)

/-- ITS FALSE NEIGHBOUR: 'it returns false'. Refute it at one input. -/
def keysSignsWrong : ChangeSpec := { name := "keysSigns", fn := fun _ => fun
  | [d1, d2, d3] => { results := [.lit (.bool false)], args := [d1, d2, d3] }
  | _ => none }
def KeysSignsWrongFalsely : Prop := keysSignsRow.holds Try.pinned (OpenSpec.ofChange keysSignsWrong)

/- THE SECOND FORM. 'bulk': how many values and letters a reading holds, each counted each time it is reached (what is shared counts as often as it is met; a slice's spare places count too). A statement '..UptoSaid' is the law's where the arguments, and the package variables that the reading takes, are together of bulk at most 1048576: NARROWER than '..Said'. Prove '..Said' where nothing that the law and all that it calls make is longer than what came in: it says more and counts as full. Else prove '..UptoSaid'. A law counts once. -/
mutual
def uptoBulk {H : Type} : DataW H → Nat
  | .lit (.string bytes) => bytes.length + 1
  | .lit _ => 1
  | .nil => 1
  | .ptr d => uptoBulk d + 1
  | .slice elems spare => uptoBulkAll elems + uptoBulkAll spare + 1
  | .agg parts => uptoBulkAll parts + 1
  | .iface _ d => uptoBulk d + 1
  | .map entries => uptoBulkEntries entries + 1
  | .held _ => 1
def uptoBulkAll {H : Type} : List (DataW H) → Nat
  | [] => 0
  | d :: r => uptoBulk d + uptoBulkAll r
def uptoBulkEntries {H : Type} : List (Lit × DataW H) → Nat
  | [] => 0
  | x :: r => uptoBulkEntry x + uptoBulkEntries r
def uptoBulkEntry {H : Type} : Lit × DataW H → Nat
  | (.string bytes, d) => bytes.length + uptoBulk d + 1
  | (_, d) => uptoBulk d + 1
 end
def uptoSmall : (H : Type) → List (DataW H) → Bool := fun _ ds => decide (uptoBulkAll ds ≤ 1048576)
def OpenSpec.upto (s : _root_.Go.ChangeSpec) : _root_.Go.OpenSpec := { _root_.Go.OpenSpec.ofChange s with cond := some uptoSmall }

/-- 'consistorylaw05.KeysTable', WHERE WHAT IT READS IS OF BULK AT MOST 1048576: true; the input reads as it did. -/
def keysTableUptoRow : OpenClaim := { program := "ytlmjhnlhgmabpaa", sum := "ea33555fb731d90ed73d57d78dd0a430fff0c47f39f27866b131381320004a5c", func := "consistory/consistorylaw05.KeysTable", spec := "keysTable", apart := false, narrowed := true }
def KeysTableUptoSaid : Prop := keysTableUptoRow.holds Try.pinned (OpenSpec.upto keysTableSpec)

/-- 'consistorylaw05.KeysVerify', WHERE WHAT IT READS IS OF BULK AT MOST 1048576: true; the input reads as it did. -/
def keysVerifyUptoRow : OpenClaim := { program := "ytlmjhnlhgmabpaa", sum := "ea33555fb731d90ed73d57d78dd0a430fff0c47f39f27866b131381320004a5c", func := "consistory/consistorylaw05.KeysVerify", spec := "keysVerify", apart := false, narrowed := true }
def KeysVerifyUptoSaid : Prop := keysVerifyUptoRow.holds Try.pinned (OpenSpec.upto keysVerifySpec)

/-- 'consistorylaw05.KeysApart', WHERE WHAT IT READS IS OF BULK AT MOST 1048576: true; the input reads as it did. -/
def keysApartUptoRow : OpenClaim := { program := "ytlmjhnlhgmabpaa", sum := "ea33555fb731d90ed73d57d78dd0a430fff0c47f39f27866b131381320004a5c", func := "consistory/consistorylaw05.KeysApart", spec := "keysApart", apart := false, narrowed := true }
def KeysApartUptoSaid : Prop := keysApartUptoRow.holds Try.pinned (OpenSpec.upto keysApartSpec)

/-- 'consistorylaw05.KeysSigns', WHERE WHAT IT READS IS OF BULK AT MOST 1048576: true; the input reads as it did. -/
def keysSignsUptoRow : OpenClaim := { program := "ytlmjhnlhgmabpaa", sum := "ea33555fb731d90ed73d57d78dd0a430fff0c47f39f27866b131381320004a5c", func := "consistory/consistorylaw05.KeysSigns", spec := "keysSigns", apart := false, narrowed := true }
def KeysSignsUptoSaid : Prop := keysSignsUptoRow.holds Try.pinned (OpenSpec.upto keysSignsSpec)

end Rows
end Go.Proofs.Ytlmjhnlhgmabpaa
