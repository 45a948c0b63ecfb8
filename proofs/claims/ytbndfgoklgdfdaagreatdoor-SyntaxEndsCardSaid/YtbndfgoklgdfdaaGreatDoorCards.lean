/-
  DERIVED. GIVEN WITH THE SEED: THE CARDS: each row of YtbndfgoklgdfdaaGreatDoorRows.lean that lists a variable, with what it lists TIED to the program's text (the seventh form; the later family's looks); each row that meets fmt, with fmt's text TOLD by the authors' own Lean function (tested against real Go, not proved from fmt's source: count such statements apart). THE CARD IS WHAT COUNTS. Prove the row's statement (the work); the ties are given (YtbndfgoklgdfdaaGreatDoorTie.lean); close each card by the builder's one call (the guide's Derived/Test/ToyasCard.lean, 'card_holds'). Laid BY PROGRAM, IN A SANDBOX (cutbox-door.mjs). By AI agents, Wed Nov 11 2026. No macro, syntax, notation, axiom, sorry.
-/
import Derived.Test.YtbndfgoklgdfdaaGreatDoorRows
import GoSem.ClaimSeven
namespace Go.Proofs.YtbndfgoklgdfdaaGreatDoor
namespace Rows

/-- THE TIED CARD OF 'peculiumlaw02.SyntaxJoined'. -/
def syntaxJoinedCard : Claim7 := { stood := { row := syntaxJoinedRow, standIns := [], harness := (true, "c646151831e292e7beea39fc80e7614e540685d2aa39d586a24000e94a7ac75c"), looks := true }, kinds := [], alts := [], laidByText := true, laidKinds := [.data], laidTests := true, laidLooks := .later }
def SyntaxJoinedCardSaid : Prop := Claim7.holds Tryz.pinned (.plain (OpenSpec.ofChange syntaxJoinedSpec)) syntaxJoinedCard

/-- THE TIED CARD OF 'peculiumlaw02.SyntaxChecks'. -/
def syntaxChecksCard : Claim7 := { stood := { row := syntaxChecksRow, standIns := [], harness := (true, "c646151831e292e7beea39fc80e7614e540685d2aa39d586a24000e94a7ac75c"), looks := true }, kinds := [], alts := [], laidByText := true, laidKinds := [.data], laidTests := true, laidLooks := .later }
def SyntaxChecksCardSaid : Prop := Claim7.holds Tryz.pinned (.plain (OpenSpec.ofChange syntaxChecksSpec)) syntaxChecksCard

/-- THE TIED CARD OF 'peculiumlaw02.SyntaxParses'. -/
def syntaxParsesCard : Claim7 := { stood := { row := syntaxParsesRow, standIns := [], harness := (true, "c646151831e292e7beea39fc80e7614e540685d2aa39d586a24000e94a7ac75c"), looks := true }, kinds := [], alts := [], laidByText := true, laidKinds := [.data], laidTests := true, laidLooks := .later }
def SyntaxParsesCardSaid : Prop := Claim7.holds Tryz.pinned (.plain (OpenSpec.ofChange syntaxParsesSpec)) syntaxParsesCard

/-- THE TIED CARD OF 'peculiumlaw02.SyntaxEnds'. -/
def syntaxEndsCard : Claim7 := { stood := { row := syntaxEndsRow, standIns := [], harness := (true, "c646151831e292e7beea39fc80e7614e540685d2aa39d586a24000e94a7ac75c"), looks := true }, kinds := [], alts := [], laidByText := true, laidKinds := [.data], laidTests := true, laidLooks := .later }
def SyntaxEndsCardSaid : Prop := Claim7.holds Tryz.pinned (.plain (OpenSpec.ofChange syntaxEndsSpec)) syntaxEndsCard

/-- THE SECOND FORM's CARD OF 'peculiumlaw02.SyntaxJoined'. -/
def syntaxJoinedUptoCard : Claim7 := { stood := { row := syntaxJoinedUptoRow, standIns := [], harness := (true, "c646151831e292e7beea39fc80e7614e540685d2aa39d586a24000e94a7ac75c"), looks := true }, kinds := [], alts := [], laidByText := true, laidKinds := [.data], laidTests := true, laidLooks := .later }
def SyntaxJoinedUptoCardSaid : Prop := Claim7.holds Tryz.pinned (.plain (OpenSpec.upto syntaxJoinedSpec)) syntaxJoinedUptoCard

/-- THE SECOND FORM's CARD OF 'peculiumlaw02.SyntaxChecks'. -/
def syntaxChecksUptoCard : Claim7 := { stood := { row := syntaxChecksUptoRow, standIns := [], harness := (true, "c646151831e292e7beea39fc80e7614e540685d2aa39d586a24000e94a7ac75c"), looks := true }, kinds := [], alts := [], laidByText := true, laidKinds := [.data], laidTests := true, laidLooks := .later }
def SyntaxChecksUptoCardSaid : Prop := Claim7.holds Tryz.pinned (.plain (OpenSpec.upto syntaxChecksSpec)) syntaxChecksUptoCard

/-- THE SECOND FORM's CARD OF 'peculiumlaw02.SyntaxParses'. -/
def syntaxParsesUptoCard : Claim7 := { stood := { row := syntaxParsesUptoRow, standIns := [], harness := (true, "c646151831e292e7beea39fc80e7614e540685d2aa39d586a24000e94a7ac75c"), looks := true }, kinds := [], alts := [], laidByText := true, laidKinds := [.data], laidTests := true, laidLooks := .later }
def SyntaxParsesUptoCardSaid : Prop := Claim7.holds Tryz.pinned (.plain (OpenSpec.upto syntaxParsesSpec)) syntaxParsesUptoCard

/-- THE SECOND FORM's CARD OF 'peculiumlaw02.SyntaxEnds'. -/
def syntaxEndsUptoCard : Claim7 := { stood := { row := syntaxEndsUptoRow, standIns := [], harness := (true, "c646151831e292e7beea39fc80e7614e540685d2aa39d586a24000e94a7ac75c"), looks := true }, kinds := [], alts := [], laidByText := true, laidKinds := [.data], laidTests := true, laidLooks := .later }
def SyntaxEndsUptoCardSaid : Prop := Claim7.holds Tryz.pinned (.plain (OpenSpec.upto syntaxEndsSpec)) syntaxEndsUptoCard
end Rows
end Go.Proofs.YtbndfgoklgdfdaaGreatDoor
