/-
  DERIVED. GIVEN WITH THE SEED: THE CARDS: each row of YtefoajlmcdopiaaDoorRows.lean that lists a variable, with what it lists TIED to the program's text (the seventh form; the later family's looks); each row that meets fmt, with fmt's text TOLD by the authors' own Lean function (tested against real Go, not proved from fmt's source: count such statements apart). THE CARD IS WHAT COUNTS. Prove the row's statement (the work); the ties are given (YtefoajlmcdopiaaDoorTie.lean); close each card by the builder's one call (the guide's Derived/Test/ToyasCard.lean, 'card_holds'). Laid BY PROGRAM, IN A SANDBOX (cutbox-door.mjs). By AI agents, Wed Nov 11 2026. No macro, syntax, notation, axiom, sorry.
-/
import Derived.Test.YtefoajlmcdopiaaDoorRows
import GoSem.ClaimSeven
namespace Go.Proofs.YtefoajlmcdopiaaDoor
namespace Rows

/-- THE TIED CARD OF 'calendslaw09.WhenSpans'. -/
def whenSpansCard : Claim7 := { stood := { row := whenSpansRow, standIns := [], harness := (true, "2a27483c44c5a29c37ef899c1cde8641fe182c6216dc2104949197e6e75cee34"), looks := true }, kinds := [], alts := [], laidByText := true, laidKinds := [.data, .data, .data], laidTests := true, laidLooks := .later }
def WhenSpansCardSaid : Prop := Claim7.holds Tryd.pinned (.plain (OpenSpec.ofChange whenSpansSpec)) whenSpansCard

/-- THE TIED CARD OF 'calendslaw09.WhenTold'. -/
def whenToldCard : Claim7 := { stood := { row := whenToldRow, standIns := [], harness := (true, "2a27483c44c5a29c37ef899c1cde8641fe182c6216dc2104949197e6e75cee34"), looks := true }, kinds := [], alts := [], laidByText := true, laidKinds := [.data, .data, .data], laidTests := true, laidLooks := .later }
def WhenToldCardSaid : Prop := Claim7.holds Tryd.pinned (.plain (OpenSpec.ofChange whenToldSpec)) whenToldCard

/-- THE TIED CARD OF 'calendslaw09.WhenSeconds'. -/
def whenSecondsCard : Claim7 := { stood := { row := whenSecondsRow, standIns := [], harness := (true, "2a27483c44c5a29c37ef899c1cde8641fe182c6216dc2104949197e6e75cee34"), looks := true }, kinds := [], alts := [], laidByText := true, laidKinds := [.data, .data, .data], laidTests := true, laidLooks := .later }
def WhenSecondsCardSaid : Prop := Claim7.holds Tryd.pinned (.plain (OpenSpec.ofChange whenSecondsSpec)) whenSecondsCard

/-- THE TIED CARD OF 'calendslaw09.WhenReads'. -/
def whenReadsCard : Claim7 := { stood := { row := whenReadsRow, standIns := [], harness := (true, "2a27483c44c5a29c37ef899c1cde8641fe182c6216dc2104949197e6e75cee34"), looks := true }, kinds := [], alts := [], laidByText := true, laidKinds := [.data, .data, .data], laidTests := true, laidLooks := .later }
def WhenReadsCardSaid : Prop := Claim7.holds Tryd.pinned (.plain (OpenSpec.ofChange whenReadsSpec)) whenReadsCard

/-- THE TIED CARD OF 'calendslaw09.WhenBack'. -/
def whenBackCard : Claim7 := { stood := { row := whenBackRow, standIns := [], harness := (true, "2a27483c44c5a29c37ef899c1cde8641fe182c6216dc2104949197e6e75cee34"), looks := true }, kinds := [], alts := [], laidByText := true, laidKinds := [.data, .data, .data], laidTests := true, laidLooks := .later }
def WhenBackCardSaid : Prop := Claim7.holds Tryd.pinned (.plain (OpenSpec.ofChange whenBackSpec)) whenBackCard

/-- THE SECOND FORM's CARD OF 'calendslaw09.WhenSpans'. -/
def whenSpansUptoCard : Claim7 := { stood := { row := whenSpansUptoRow, standIns := [], harness := (true, "2a27483c44c5a29c37ef899c1cde8641fe182c6216dc2104949197e6e75cee34"), looks := true }, kinds := [], alts := [], laidByText := true, laidKinds := [.data, .data, .data], laidTests := true, laidLooks := .later }
def WhenSpansUptoCardSaid : Prop := Claim7.holds Tryd.pinned (.plain (OpenSpec.upto whenSpansSpec)) whenSpansUptoCard

/-- THE SECOND FORM's CARD OF 'calendslaw09.WhenTold'. -/
def whenToldUptoCard : Claim7 := { stood := { row := whenToldUptoRow, standIns := [], harness := (true, "2a27483c44c5a29c37ef899c1cde8641fe182c6216dc2104949197e6e75cee34"), looks := true }, kinds := [], alts := [], laidByText := true, laidKinds := [.data, .data, .data], laidTests := true, laidLooks := .later }
def WhenToldUptoCardSaid : Prop := Claim7.holds Tryd.pinned (.plain (OpenSpec.upto whenToldSpec)) whenToldUptoCard

/-- THE SECOND FORM's CARD OF 'calendslaw09.WhenSeconds'. -/
def whenSecondsUptoCard : Claim7 := { stood := { row := whenSecondsUptoRow, standIns := [], harness := (true, "2a27483c44c5a29c37ef899c1cde8641fe182c6216dc2104949197e6e75cee34"), looks := true }, kinds := [], alts := [], laidByText := true, laidKinds := [.data, .data, .data], laidTests := true, laidLooks := .later }
def WhenSecondsUptoCardSaid : Prop := Claim7.holds Tryd.pinned (.plain (OpenSpec.upto whenSecondsSpec)) whenSecondsUptoCard

/-- THE SECOND FORM's CARD OF 'calendslaw09.WhenReads'. -/
def whenReadsUptoCard : Claim7 := { stood := { row := whenReadsUptoRow, standIns := [], harness := (true, "2a27483c44c5a29c37ef899c1cde8641fe182c6216dc2104949197e6e75cee34"), looks := true }, kinds := [], alts := [], laidByText := true, laidKinds := [.data, .data, .data], laidTests := true, laidLooks := .later }
def WhenReadsUptoCardSaid : Prop := Claim7.holds Tryd.pinned (.plain (OpenSpec.upto whenReadsSpec)) whenReadsUptoCard

/-- THE SECOND FORM's CARD OF 'calendslaw09.WhenBack'. -/
def whenBackUptoCard : Claim7 := { stood := { row := whenBackUptoRow, standIns := [], harness := (true, "2a27483c44c5a29c37ef899c1cde8641fe182c6216dc2104949197e6e75cee34"), looks := true }, kinds := [], alts := [], laidByText := true, laidKinds := [.data, .data, .data], laidTests := true, laidLooks := .later }
def WhenBackUptoCardSaid : Prop := Claim7.holds Tryd.pinned (.plain (OpenSpec.upto whenBackSpec)) whenBackUptoCard
end Rows
end Go.Proofs.YtefoajlmcdopiaaDoor
