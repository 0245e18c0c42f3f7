/-
  DERIVED. GIVEN WITH THE SEED: THE CARDS: each row of YtaekbkjckahccaaDoorRows.lean that lists a variable, with what it lists TIED to the program's text (the seventh form; the later family's looks); each row that meets fmt, with fmt's text TOLD by the authors' own Lean function (tested against real Go, not proved from fmt's source: count such statements apart). THE CARD IS WHAT COUNTS. Prove the row's statement (the work); the ties are given (YtaekbkjckahccaaDoorTie.lean); close each card by the builder's one call (the guide's Derived/Test/ToyasCard.lean, 'card_holds'). Laid BY PROGRAM, IN A SANDBOX (cutbox-door.mjs). By AI agents, Wed Nov 11 2026. No macro, syntax, notation, axiom, sorry.
-/
import Derived.Test.YtaekbkjckahccaaDoorRows
import GoSem.ClaimSeven
namespace Go.Proofs.YtaekbkjckahccaaDoor
namespace Rows

/-- THE TIED CARD OF 'consistorylaw06.ViewsLeads'. -/
def viewsLeadsCard : Claim7 := { stood := { row := viewsLeadsRow, standIns := [], harness := (true, "ec19425113e10ae26d7cd7c6b38f467ad58dd3bc9827fcdf5ca3b1071f481a8f"), looks := false }, kinds := [], alts := [], laidByText := true, laidKinds := [.data], laidTests := true, laidLooks := .later }
def ViewsLeadsCardSaid : Prop := Claim7.holds Tryd.pinned (.plain (OpenSpec.ofChange viewsLeadsSpec)) viewsLeadsCard

/-- THE TIED CARD OF 'consistorylaw06.ViewsShare'. -/
def viewsShareCard : Claim7 := { stood := { row := viewsShareRow, standIns := [], harness := (true, "ec19425113e10ae26d7cd7c6b38f467ad58dd3bc9827fcdf5ca3b1071f481a8f"), looks := false }, kinds := [], alts := [], laidByText := true, laidKinds := [.data], laidTests := true, laidLooks := .later }
def ViewsShareCardSaid : Prop := Claim7.holds Tryd.pinned (.plain (OpenSpec.ofChange viewsShareSpec)) viewsShareCard

/-- THE TIED CARD OF 'consistorylaw06.ViewsCounts'. -/
def viewsCountsCard : Claim7 := { stood := { row := viewsCountsRow, standIns := [], harness := (true, "ec19425113e10ae26d7cd7c6b38f467ad58dd3bc9827fcdf5ca3b1071f481a8f"), looks := false }, kinds := [], alts := [], laidByText := true, laidKinds := [.data], laidTests := true, laidLooks := .later }
def ViewsCountsCardSaid : Prop := Claim7.holds Tryd.pinned (.plain (OpenSpec.ofChange viewsCountsSpec)) viewsCountsCard

/-- THE TIED CARD OF 'consistorylaw06.ViewsNext'. -/
def viewsNextCard : Claim7 := { stood := { row := viewsNextRow, standIns := [], harness := (true, "ec19425113e10ae26d7cd7c6b38f467ad58dd3bc9827fcdf5ca3b1071f481a8f"), looks := false }, kinds := [], alts := [], laidByText := true, laidKinds := [.data], laidTests := true, laidLooks := .later }
def ViewsNextCardSaid : Prop := Claim7.holds Tryd.pinned (.plain (OpenSpec.ofChange viewsNextSpec)) viewsNextCard

/-- THE TIED CARD OF 'consistorylaw06.ViewsBytes'. -/
def viewsBytesCard : Claim7 := { stood := { row := viewsBytesRow, standIns := [], harness := (true, "ec19425113e10ae26d7cd7c6b38f467ad58dd3bc9827fcdf5ca3b1071f481a8f"), looks := false }, kinds := [], alts := [], laidByText := true, laidKinds := [.data], laidTests := true, laidLooks := .later }
def ViewsBytesCardSaid : Prop := Claim7.holds Tryd.pinned (.plain (OpenSpec.ofChange viewsBytesSpec)) viewsBytesCard

/-- THE SECOND FORM's CARD OF 'consistorylaw06.ViewsLeads'. -/
def viewsLeadsUptoCard : Claim7 := { stood := { row := viewsLeadsUptoRow, standIns := [], harness := (true, "ec19425113e10ae26d7cd7c6b38f467ad58dd3bc9827fcdf5ca3b1071f481a8f"), looks := false }, kinds := [], alts := [], laidByText := true, laidKinds := [.data], laidTests := true, laidLooks := .later }
def ViewsLeadsUptoCardSaid : Prop := Claim7.holds Tryd.pinned (.plain (OpenSpec.upto viewsLeadsSpec)) viewsLeadsUptoCard

/-- THE SECOND FORM's CARD OF 'consistorylaw06.ViewsShare'. -/
def viewsShareUptoCard : Claim7 := { stood := { row := viewsShareUptoRow, standIns := [], harness := (true, "ec19425113e10ae26d7cd7c6b38f467ad58dd3bc9827fcdf5ca3b1071f481a8f"), looks := false }, kinds := [], alts := [], laidByText := true, laidKinds := [.data], laidTests := true, laidLooks := .later }
def ViewsShareUptoCardSaid : Prop := Claim7.holds Tryd.pinned (.plain (OpenSpec.upto viewsShareSpec)) viewsShareUptoCard

/-- THE SECOND FORM's CARD OF 'consistorylaw06.ViewsCounts'. -/
def viewsCountsUptoCard : Claim7 := { stood := { row := viewsCountsUptoRow, standIns := [], harness := (true, "ec19425113e10ae26d7cd7c6b38f467ad58dd3bc9827fcdf5ca3b1071f481a8f"), looks := false }, kinds := [], alts := [], laidByText := true, laidKinds := [.data], laidTests := true, laidLooks := .later }
def ViewsCountsUptoCardSaid : Prop := Claim7.holds Tryd.pinned (.plain (OpenSpec.upto viewsCountsSpec)) viewsCountsUptoCard

/-- THE SECOND FORM's CARD OF 'consistorylaw06.ViewsNext'. -/
def viewsNextUptoCard : Claim7 := { stood := { row := viewsNextUptoRow, standIns := [], harness := (true, "ec19425113e10ae26d7cd7c6b38f467ad58dd3bc9827fcdf5ca3b1071f481a8f"), looks := false }, kinds := [], alts := [], laidByText := true, laidKinds := [.data], laidTests := true, laidLooks := .later }
def ViewsNextUptoCardSaid : Prop := Claim7.holds Tryd.pinned (.plain (OpenSpec.upto viewsNextSpec)) viewsNextUptoCard

/-- THE SECOND FORM's CARD OF 'consistorylaw06.ViewsBytes'. -/
def viewsBytesUptoCard : Claim7 := { stood := { row := viewsBytesUptoRow, standIns := [], harness := (true, "ec19425113e10ae26d7cd7c6b38f467ad58dd3bc9827fcdf5ca3b1071f481a8f"), looks := false }, kinds := [], alts := [], laidByText := true, laidKinds := [.data], laidTests := true, laidLooks := .later }
def ViewsBytesUptoCardSaid : Prop := Claim7.holds Tryd.pinned (.plain (OpenSpec.upto viewsBytesSpec)) viewsBytesUptoCard
end Rows
end Go.Proofs.YtaekbkjckahccaaDoor
