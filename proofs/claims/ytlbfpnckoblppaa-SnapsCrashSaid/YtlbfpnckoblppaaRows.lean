/-
  No cell of these rows narrows 'for every input' (looked for: loops, veiled, ifaces, maps, wideKeys, modest, calm, conditions, laid).
  DERIVED. THE GIVEN ROWS OF THIS SEAT. 5 by the template 'for every input the law returns true; each argument reads behind the call as it read before'; 0 by the template 'total and deterministic' (their statements: YtlbfpnckoblppaaTotals.lean).
  GIVEN WITH THE SEED: the statements are not yours to turn. If you find one false, say at which input.
  Laid BY PROGRAM, IN A SANDBOX (cutbox-rows.mjs): the forced cells as the released guide's own fill.sh prints them over the translation 6150fdf09c096022… (all of the seat's roots in one cut). By AI agents, Wed Nov 11 2026. No macro, syntax, notation, axiom, sorry.
-/
import Derived.Test.YtlbfpnckoblppaaChecked
import GoSem.Claim
import GoSem.ClaimJoined
import GoSem.ClaimMapViews
import Derived.JoinedTies
import Derived.KernelRfl
namespace Go.Proofs.Ytlbfpnckoblppaa
/- THE CELL 'sum', in the pinned program and in every row, IS THE sha256 OF THE DUMP (.gsa) THAT YtlbfpnckoblppaaProg.lean LOADS. Nothing in Lean hashes anything: it is a label: what it is worth is what the hold of that sum in a sandbox is worth. -/
noncomputable def Try.pinned : Pinned := { name := "ytlbfpnckoblppaa", sum := "6150fdf09c0960224b30dcccf46ca453a3a6b7470687c434cd2090801ab8b521", checked := Try.checked }
namespace Rows
def none {H : Type} : Left H := { results := [], args := [] }

/-- 'consistorylaw12.SnapsLoad': WHATEVER THE INPUT: true; the input reads as it did. -/
def snapsLoadSpec : ChangeSpec := { name := "snapsLoad", fn := fun _ => fun
  | [d1, d2, d3] => { results := [.lit (.bool true)], args := [d1, d2, d3] }
  | _ => none }
def snapsLoadRow : OpenClaim := { program := "ytlbfpnckoblppaa", sum := "6150fdf09c0960224b30dcccf46ca453a3a6b7470687c434cd2090801ab8b521", func := "consistory/consistorylaw12.SnapsLoad", spec := "snapsLoad", inPlace := ["maps.clone"], unfollowed := true, recurses := true, apart := false }
def SnapsLoadSaid : Prop := snapsLoadRow.holds Try.pinned (OpenSpec.ofChange snapsLoadSpec)

/-- ITS FALSE NEIGHBOUR: 'it returns false'. Refute it at one input. -/
def snapsLoadWrong : ChangeSpec := { name := "snapsLoad", fn := fun _ => fun
  | [d1, d2, d3] => { results := [.lit (.bool false)], args := [d1, d2, d3] }
  | _ => none }
def SnapsLoadWrongFalsely : Prop := snapsLoadRow.holds Try.pinned (OpenSpec.ofChange snapsLoadWrong)

/-- 'consistorylaw12.SnapsTwo': WHATEVER THE INPUT: true; the input reads as it did. -/
def snapsTwoSpec : ChangeSpec := { name := "snapsTwo", fn := fun _ => fun
  | [d1, d2, d3] => { results := [.lit (.bool true)], args := [d1, d2, d3] }
  | _ => none }
def snapsTwoRow : OpenClaim := { program := "ytlbfpnckoblppaa", sum := "6150fdf09c0960224b30dcccf46ca453a3a6b7470687c434cd2090801ab8b521", func := "consistory/consistorylaw12.SnapsTwo", spec := "snapsTwo", inPlace := ["maps.clone"], unfollowed := true, recurses := true, apart := false }
def SnapsTwoSaid : Prop := snapsTwoRow.holds Try.pinned (OpenSpec.ofChange snapsTwoSpec)

/-- ITS FALSE NEIGHBOUR: 'it returns false'. Refute it at one input. -/
def snapsTwoWrong : ChangeSpec := { name := "snapsTwo", fn := fun _ => fun
  | [d1, d2, d3] => { results := [.lit (.bool false)], args := [d1, d2, d3] }
  | _ => none }
def SnapsTwoWrongFalsely : Prop := snapsTwoRow.holds Try.pinned (OpenSpec.ofChange snapsTwoWrong)

/-- 'consistorylaw12.SnapsSave': WHATEVER THE INPUT: true; the input reads as it did. -/
def snapsSaveSpec : ChangeSpec := { name := "snapsSave", fn := fun _ => fun
  | [d1, d2, d3] => { results := [.lit (.bool true)], args := [d1, d2, d3] }
  | _ => none }
def snapsSaveRow : OpenClaim := { program := "ytlbfpnckoblppaa", sum := "6150fdf09c0960224b30dcccf46ca453a3a6b7470687c434cd2090801ab8b521", func := "consistory/consistorylaw12.SnapsSave", spec := "snapsSave", inPlace := ["maps.clone"], unfollowed := true, recurses := true, apart := false }
def SnapsSaveSaid : Prop := snapsSaveRow.holds Try.pinned (OpenSpec.ofChange snapsSaveSpec)

/-- ITS FALSE NEIGHBOUR: 'it returns false'. Refute it at one input. -/
def snapsSaveWrong : ChangeSpec := { name := "snapsSave", fn := fun _ => fun
  | [d1, d2, d3] => { results := [.lit (.bool false)], args := [d1, d2, d3] }
  | _ => none }
def SnapsSaveWrongFalsely : Prop := snapsSaveRow.holds Try.pinned (OpenSpec.ofChange snapsSaveWrong)

/-- 'consistorylaw12.SnapsHalf': WHATEVER THE INPUT: true; the input reads as it did. -/
def snapsHalfSpec : ChangeSpec := { name := "snapsHalf", fn := fun _ => fun
  | [d1, d2, d3] => { results := [.lit (.bool true)], args := [d1, d2, d3] }
  | _ => none }
def snapsHalfRow : OpenClaim := { program := "ytlbfpnckoblppaa", sum := "6150fdf09c0960224b30dcccf46ca453a3a6b7470687c434cd2090801ab8b521", func := "consistory/consistorylaw12.SnapsHalf", spec := "snapsHalf", inPlace := ["maps.clone"], unfollowed := true, recurses := true, apart := false }
def SnapsHalfSaid : Prop := snapsHalfRow.holds Try.pinned (OpenSpec.ofChange snapsHalfSpec)

/-- ITS FALSE NEIGHBOUR: 'it returns false'. Refute it at one input. -/
def snapsHalfWrong : ChangeSpec := { name := "snapsHalf", fn := fun _ => fun
  | [d1, d2, d3] => { results := [.lit (.bool false)], args := [d1, d2, d3] }
  | _ => none }
def SnapsHalfWrongFalsely : Prop := snapsHalfRow.holds Try.pinned (OpenSpec.ofChange snapsHalfWrong)

/-- 'consistorylaw12.SnapsCrash': WHATEVER THE INPUT: true; the input reads as it did. -/
def snapsCrashSpec : ChangeSpec := { name := "snapsCrash", fn := fun _ => fun
  | [d1, d2, d3] => { results := [.lit (.bool true)], args := [d1, d2, d3] }
  | _ => none }
def snapsCrashRow : OpenClaim := { program := "ytlbfpnckoblppaa", sum := "6150fdf09c0960224b30dcccf46ca453a3a6b7470687c434cd2090801ab8b521", func := "consistory/consistorylaw12.SnapsCrash", spec := "snapsCrash", inPlace := ["maps.clone"], unfollowed := true, recurses := true, apart := false }
def SnapsCrashSaid : Prop := snapsCrashRow.holds Try.pinned (OpenSpec.ofChange snapsCrashSpec)

/-- ITS FALSE NEIGHBOUR: 'it returns false'. Refute it at one input. -/
def snapsCrashWrong : ChangeSpec := { name := "snapsCrash", fn := fun _ => fun
  | [d1, d2, d3] => { results := [.lit (.bool false)], args := [d1, d2, d3] }
  | _ => none }
def SnapsCrashWrongFalsely : Prop := snapsCrashRow.holds Try.pinned (OpenSpec.ofChange snapsCrashWrong)

/- THE SECOND FORM. 'bulk': how many values and letters a reading holds, each counted each time it is reached (what is shared counts as often as it is met; a slice's spare places count too). A statement '..UptoSaid' is the law's where the arguments, and the package variables that the reading takes, are together of bulk at most 1048576: NARROWER than '..Said'. Prove '..Said' where nothing that the law and all that it calls make is longer than what came in: it says more and counts as full. Else prove '..UptoSaid'. A law counts once. -/
mutual
def uptoBulk {H : Type} : DataW H → Nat
  | .lit (.string bytes) => bytes.length + 1
  | .lit _ => 1
  | .nil => 1
  | .ptr d => uptoBulk d + 1
  | .slice elems spare => uptoBulkAll elems + uptoBulkAll spare + 1
  | .agg parts => uptoBulkAll parts + 1
  | .iface _ d => uptoBulk d + 1
  | .map entries => uptoBulkEntries entries + 1
  | .held _ => 1
def uptoBulkAll {H : Type} : List (DataW H) → Nat
  | [] => 0
  | d :: r => uptoBulk d + uptoBulkAll r
def uptoBulkEntries {H : Type} : List (Lit × DataW H) → Nat
  | [] => 0
  | x :: r => uptoBulkEntry x + uptoBulkEntries r
def uptoBulkEntry {H : Type} : Lit × DataW H → Nat
  | (.string bytes, d) => bytes.length + uptoBulk d + 1
  | (_, d) => uptoBulk d + 1
 end
def uptoSmall : (H : Type) → List (DataW H) → Bool := fun _ ds => decide (uptoBulkAll ds ≤ 1048576)
def OpenSpec.upto (s : _root_.Go.ChangeSpec) : _root_.Go.OpenSpec := { _root_.Go.OpenSpec.ofChange s with cond := some uptoSmall }

/-- 'consistorylaw12.SnapsLoad', WHERE WHAT IT READS IS OF BULK AT MOST 1048576: true; the input reads as it did. -/
def snapsLoadUptoRow : OpenClaim := { program := "ytlbfpnckoblppaa", sum := "6150fdf09c0960224b30dcccf46ca453a3a6b7470687c434cd2090801ab8b521", func := "consistory/consistorylaw12.SnapsLoad", spec := "snapsLoad", inPlace := ["maps.clone"], unfollowed := true, recurses := true, apart := false, narrowed := true }
def SnapsLoadUptoSaid : Prop := snapsLoadUptoRow.holds Try.pinned (OpenSpec.upto snapsLoadSpec)

/-- 'consistorylaw12.SnapsTwo', WHERE WHAT IT READS IS OF BULK AT MOST 1048576: true; the input reads as it did. -/
def snapsTwoUptoRow : OpenClaim := { program := "ytlbfpnckoblppaa", sum := "6150fdf09c0960224b30dcccf46ca453a3a6b7470687c434cd2090801ab8b521", func := "consistory/consistorylaw12.SnapsTwo", spec := "snapsTwo", inPlace := ["maps.clone"], unfollowed := true, recurses := true, apart := false, narrowed := true }
def SnapsTwoUptoSaid : Prop := snapsTwoUptoRow.holds Try.pinned (OpenSpec.upto snapsTwoSpec)

/-- 'consistorylaw12.SnapsSave', WHERE WHAT IT READS IS OF BULK AT MOST 1048576: true; the input reads as it did. -/
def snapsSaveUptoRow : OpenClaim := { program := "ytlbfpnckoblppaa", sum := "6150fdf09c0960224b30dcccf46ca453a3a6b7470687c434cd2090801ab8b521", func := "consistory/consistorylaw12.SnapsSave", spec := "snapsSave", inPlace := ["maps.clone"], unfollowed := true, recurses := true, apart := false, narrowed := true }
def SnapsSaveUptoSaid : Prop := snapsSaveUptoRow.holds Try.pinned (OpenSpec.upto snapsSaveSpec)

/-- 'consistorylaw12.SnapsHalf', WHERE WHAT IT READS IS OF BULK AT MOST 1048576: true; the input reads as it did. -/
def snapsHalfUptoRow : OpenClaim := { program := "ytlbfpnckoblppaa", sum := "6150fdf09c0960224b30dcccf46ca453a3a6b7470687c434cd2090801ab8b521", func := "consistory/consistorylaw12.SnapsHalf", spec := "snapsHalf", inPlace := ["maps.clone"], unfollowed := true, recurses := true, apart := false, narrowed := true }
def SnapsHalfUptoSaid : Prop := snapsHalfUptoRow.holds Try.pinned (OpenSpec.upto snapsHalfSpec)

/-- 'consistorylaw12.SnapsCrash', WHERE WHAT IT READS IS OF BULK AT MOST 1048576: true; the input reads as it did. -/
def snapsCrashUptoRow : OpenClaim := { program := "ytlbfpnckoblppaa", sum := "6150fdf09c0960224b30dcccf46ca453a3a6b7470687c434cd2090801ab8b521", func := "consistory/consistorylaw12.SnapsCrash", spec := "snapsCrash", inPlace := ["maps.clone"], unfollowed := true, recurses := true, apart := false, narrowed := true }
def SnapsCrashUptoSaid : Prop := snapsCrashUptoRow.holds Try.pinned (OpenSpec.upto snapsCrashSpec)

end Rows
end Go.Proofs.Ytlbfpnckoblppaa
