/-
  No cell of these rows narrows 'for every input' (looked for: loops, veiled, ifaces, maps, wideKeys, modest, calm, conditions, laid).
  DERIVED. THE GIVEN ROWS OF THIS SEAT. 4 by the template 'for every input the law returns true; each argument reads behind the call as it read before'; 0 by the template 'total and deterministic' (their statements: YtljnacchbbdahaaTotals.lean).
  GIVEN WITH THE SEED: the statements are not yours to turn. If you find one false, say at which input.
  Laid BY PROGRAM, IN A SANDBOX (cutbox-rows.mjs): the forced cells as the released guide's own fill.sh prints them over the translation efad23774c0e997d… (all of the seat's roots in one cut). By AI agents, Wed Nov 11 2026. No macro, syntax, notation, axiom, sorry.
-/
import Derived.Test.YtljnacchbbdahaaChecked
import GoSem.Claim
import GoSem.ClaimJoined
import GoSem.ClaimMapViews
import Derived.JoinedTies
import Derived.KernelRfl
namespace Go.Proofs.Ytljnacchbbdahaa
/- THE CELL 'sum', in the pinned program and in every row, IS THE sha256 OF THE DUMP (.gsa) THAT YtljnacchbbdahaaProg.lean LOADS. Nothing in Lean hashes anything: it is a label: what it is worth is what the hold of that sum in a sandbox is worth. -/
noncomputable def Try.pinned : Pinned := { name := "ytljnacchbbdahaa", sum := "efad23774c0e997d723703a4a9b9ef1e1040f7373b58c97c56f6410f657d73de", checked := Try.checked }
namespace Rows
def none {H : Type} : Left H := { results := [], args := [] }

/-- 'consistorylaw04.OtsDigits': WHATEVER THE INPUT: true; the input reads as it did. -/
def otsDigitsSpec : ChangeSpec := { name := "otsDigits", fn := fun _ => fun
  | [d1, d2] => { results := [.lit (.bool true)], args := [d1, d2] }
  | _ => none }
def otsDigitsRow : OpenClaim := { program := "ytljnacchbbdahaa", sum := "efad23774c0e997d723703a4a9b9ef1e1040f7373b58c97c56f6410f657d73de", func := "consistory/consistorylaw04.OtsDigits", spec := "otsDigits", apart := false }
def OtsDigitsSaid : Prop := otsDigitsRow.holds Try.pinned (OpenSpec.ofChange otsDigitsSpec)

/-- ITS FALSE NEIGHBOUR: 'it returns false'. Refute it at one input. -/
def otsDigitsWrong : ChangeSpec := { name := "otsDigits", fn := fun _ => fun
  | [d1, d2] => { results := [.lit (.bool false)], args := [d1, d2] }
  | _ => none }
def OtsDigitsWrongFalsely : Prop := otsDigitsRow.holds Try.pinned (OpenSpec.ofChange otsDigitsWrong)

/-- 'consistorylaw04.OtsRecovers': WHATEVER THE INPUT: true; the input reads as it did. -/
def otsRecoversSpec : ChangeSpec := { name := "otsRecovers", fn := fun _ => fun
  | [d1, d2] => { results := [.lit (.bool true)], args := [d1, d2] }
  | _ => none }
def otsRecoversRow : OpenClaim := { program := "ytljnacchbbdahaa", sum := "efad23774c0e997d723703a4a9b9ef1e1040f7373b58c97c56f6410f657d73de", func := "consistory/consistorylaw04.OtsRecovers", spec := "otsRecovers", apart := false }
def OtsRecoversSaid : Prop := otsRecoversRow.holds Try.pinned (OpenSpec.ofChange otsRecoversSpec)

/-- ITS FALSE NEIGHBOUR: 'it returns false'. Refute it at one input. -/
def otsRecoversWrong : ChangeSpec := { name := "otsRecovers", fn := fun _ => fun
  | [d1, d2] => { results := [.lit (.bool false)], args := [d1, d2] }
  | _ => none }
def OtsRecoversWrongFalsely : Prop := otsRecoversRow.holds Try.pinned (OpenSpec.ofChange otsRecoversWrong)

/-- 'consistorylaw04.OtsOther': WHATEVER THE INPUT: true; the input reads as it did. -/
def otsOtherSpec : ChangeSpec := { name := "otsOther", fn := fun _ => fun
  | [d1, d2, d3] => { results := [.lit (.bool true)], args := [d1, d2, d3] }
  | _ => none }
def otsOtherRow : OpenClaim := { program := "ytljnacchbbdahaa", sum := "efad23774c0e997d723703a4a9b9ef1e1040f7373b58c97c56f6410f657d73de", func := "consistory/consistorylaw04.OtsOther", spec := "otsOther", apart := false }
def OtsOtherSaid : Prop := otsOtherRow.holds Try.pinned (OpenSpec.ofChange otsOtherSpec)

/-- ITS FALSE NEIGHBOUR: 'it returns false'. Refute it at one input. -/
def otsOtherWrong : ChangeSpec := { name := "otsOther", fn := fun _ => fun
  | [d1, d2, d3] => { results := [.lit (.bool false)], args := [d1, d2, d3] }
  | _ => none }
def OtsOtherWrongFalsely : Prop := otsOtherRow.holds Try.pinned (OpenSpec.ofChange otsOtherWrong)

/-- 'consistorylaw04.OtsSigns': WHATEVER THE INPUT: true; the input reads as it did. -/
def otsSignsSpec : ChangeSpec := { name := "otsSigns", fn := fun _ => fun
  | [d1, d2, d3] => { results := [.lit (.bool true)], args := [d1, d2, d3] }
  | _ => none }
def otsSignsRow : OpenClaim := { program := "ytljnacchbbdahaa", sum := "efad23774c0e997d723703a4a9b9ef1e1040f7373b58c97c56f6410f657d73de", func := "consistory/consistorylaw04.OtsSigns", spec := "otsSigns", apart := false }
def OtsSignsSaid : Prop := otsSignsRow.holds Try.pinned (OpenSpec.ofChange otsSignsSpec)

/-- ITS FALSE NEIGHBOUR: 'it returns false'. Refute it at one input. -/
def otsSignsWrong : ChangeSpec := { name := "otsSigns", fn := fun _ => fun
  | [d1, d2, d3] => { results := [.lit (.bool false)], args := [d1, d2, d3] }
  | _ => none }
def OtsSignsWrongFalsely : Prop := otsSignsRow.holds Try.pinned (OpenSpec.ofChange otsSignsWrong)

/- THE SECOND FORM. 'bulk': how many values and letters a reading holds, each counted each time it is reached (what is shared counts as often as it is met; a slice's spare places count too). A statement '..UptoSaid' is the law's where the arguments, and the package variables that the reading takes, are together of bulk at most 1048576: NARROWER than '..Said'. Prove '..Said' where nothing that the law and all that it calls make is longer than what came in: it says more and counts as full. Else prove '..UptoSaid'. A law counts once. -/
mutual
def uptoBulk {H : Type} : DataW H → Nat
  | .lit (.string bytes) => bytes.length + 1
  | .lit _ => 1
  | .nil => 1
  | .ptr d => uptoBulk d + 1
  | .slice elems spare => uptoBulkAll elems + uptoBulkAll spare + 1
  | .agg parts => uptoBulkAll parts + 1
  | .iface _ d => uptoBulk d + 1
  | .map entries => uptoBulkEntries entries + 1
  | .held _ => 1
def uptoBulkAll {H : Type} : List (DataW H) → Nat
  | [] => 0
  | d :: r => uptoBulk d + uptoBulkAll r
def uptoBulkEntries {H : Type} : List (Lit × DataW H) → Nat
  | [] => 0
  | x :: r => uptoBulkEntry x + uptoBulkEntries r
def uptoBulkEntry {H : Type} : Lit × DataW H → Nat
  | (.string bytes, d) => bytes.length + uptoBulk d + 1
  | (_, d) => uptoBulk d + 1
 end
def uptoSmall : (H : Type) → List (DataW H) → Bool := fun _ ds => decide (uptoBulkAll ds ≤ 1048576)
def OpenSpec.upto (s : _root_.Go.ChangeSpec) : _root_.Go.OpenSpec := { _root_.Go.OpenSpec.ofChange s with cond := some uptoSmall }

/-- 'consistorylaw04.OtsDigits', WHERE WHAT IT READS IS OF BULK AT MOST 1048576: true; the input reads as it did. -/
def otsDigitsUptoRow : OpenClaim := { program := "ytljnacchbbdahaa", sum := "efad23774c0e997d723703a4a9b9ef1e1040f7373b58c97c56f6410f657d73de", func := "consistory/consistorylaw04.OtsDigits", spec := "otsDigits", apart := false, narrowed := true }
def OtsDigitsUptoSaid : Prop := otsDigitsUptoRow.holds Try.pinned (OpenSpec.upto otsDigitsSpec)

/-- 'consistorylaw04.OtsRecovers', WHERE WHAT IT READS IS OF BULK AT MOST 1048576: true; the input reads as it did. -/
def otsRecoversUptoRow : OpenClaim := { program := "ytljnacchbbdahaa", sum := "efad23774c0e997d723703a4a9b9ef1e1040f7373b58c97c56f6410f657d73de", func := "consistory/consistorylaw04.OtsRecovers", spec := "otsRecovers", apart := false, narrowed := true }
def OtsRecoversUptoSaid : Prop := otsRecoversUptoRow.holds Try.pinned (OpenSpec.upto otsRecoversSpec)

/-- 'consistorylaw04.OtsOther', WHERE WHAT IT READS IS OF BULK AT MOST 1048576: true; the input reads as it did. -/
def otsOtherUptoRow : OpenClaim := { program := "ytljnacchbbdahaa", sum := "efad23774c0e997d723703a4a9b9ef1e1040f7373b58c97c56f6410f657d73de", func := "consistory/consistorylaw04.OtsOther", spec := "otsOther", apart := false, narrowed := true }
def OtsOtherUptoSaid : Prop := otsOtherUptoRow.holds Try.pinned (OpenSpec.upto otsOtherSpec)

/-- 'consistorylaw04.OtsSigns', WHERE WHAT IT READS IS OF BULK AT MOST 1048576: true; the input reads as it did. -/
def otsSignsUptoRow : OpenClaim := { program := "ytljnacchbbdahaa", sum := "efad23774c0e997d723703a4a9b9ef1e1040f7373b58c97c56f6410f657d73de", func := "consistory/consistorylaw04.OtsSigns", spec := "otsSigns", apart := false, narrowed := true }
def OtsSignsUptoSaid : Prop := otsSignsUptoRow.holds Try.pinned (OpenSpec.upto otsSignsSpec)

end Rows
end Go.Proofs.Ytljnacchbbdahaa
