/-
  DERIVED. GIVEN WITH THE SEED: THE CARDS: each row of YtdmgkgkhdkoojaaDoorRows.lean that lists a variable, with what it lists TIED to the program's text (the seventh form; the later family's looks); each row that meets fmt, with fmt's text TOLD by the authors' own Lean function (tested against real Go, not proved from fmt's source: count such statements apart). THE CARD IS WHAT COUNTS. Prove the row's statement (the work); the ties are given (YtdmgkgkhdkoojaaDoorTie.lean); close each card by the builder's one call (the guide's Derived/Test/ToyasCard.lean, 'card_holds'). Laid BY PROGRAM, IN A SANDBOX (cutbox-door.mjs). By AI agents, Wed Nov 11 2026. No macro, syntax, notation, axiom, sorry.
-/
import Derived.Test.YtdmgkgkhdkoojaaDoorRows
import GoSem.ClaimSeven
namespace Go.Proofs.YtdmgkgkhdkoojaaDoor
namespace Rows

/-- THE TIED CARD OF 'consistorylaw20.ClockDue'. -/
def clockDueCard : Claim7 := { stood := { row := clockDueRow, standIns := [], harness := (true, "27c84aae541411336e1a1b91935b7568028edbe13e083fe705b4c55c1f2cb69b"), looks := false }, kinds := [], alts := [], laidByText := true, laidKinds := [.data], laidTests := true, laidLooks := .later }
def ClockDueCardSaid : Prop := Claim7.holds Tryd.pinned (.plain (OpenSpec.ofChange clockDueSpec)) clockDueCard

/-- THE TIED CARD OF 'consistorylaw20.ClockOnce'. -/
def clockOnceCard : Claim7 := { stood := { row := clockOnceRow, standIns := [], harness := (true, "27c84aae541411336e1a1b91935b7568028edbe13e083fe705b4c55c1f2cb69b"), looks := false }, kinds := [], alts := [], laidByText := true, laidKinds := [.data], laidTests := true, laidLooks := .later }
def ClockOnceCardSaid : Prop := Claim7.holds Tryd.pinned (.plain (OpenSpec.ofChange clockOnceSpec)) clockOnceCard

/-- THE SECOND FORM's CARD OF 'consistorylaw20.ClockDue'. -/
def clockDueUptoCard : Claim7 := { stood := { row := clockDueUptoRow, standIns := [], harness := (true, "27c84aae541411336e1a1b91935b7568028edbe13e083fe705b4c55c1f2cb69b"), looks := false }, kinds := [], alts := [], laidByText := true, laidKinds := [.data], laidTests := true, laidLooks := .later }
def ClockDueUptoCardSaid : Prop := Claim7.holds Tryd.pinned (.plain (OpenSpec.upto clockDueSpec)) clockDueUptoCard

/-- THE SECOND FORM's CARD OF 'consistorylaw20.ClockOnce'. -/
def clockOnceUptoCard : Claim7 := { stood := { row := clockOnceUptoRow, standIns := [], harness := (true, "27c84aae541411336e1a1b91935b7568028edbe13e083fe705b4c55c1f2cb69b"), looks := false }, kinds := [], alts := [], laidByText := true, laidKinds := [.data], laidTests := true, laidLooks := .later }
def ClockOnceUptoCardSaid : Prop := Claim7.holds Tryd.pinned (.plain (OpenSpec.upto clockOnceSpec)) clockOnceUptoCard
end Rows
end Go.Proofs.YtdmgkgkhdkoojaaDoor
