/-
  DERIVED. GIVEN WITH THE SEED: THE CARDS: each row of YtahljcbmckldhaaGreatDoorRows.lean that lists a variable, with what it lists TIED to the program's text (the seventh form; the later family's looks); each row that meets fmt, with fmt's text TOLD by the authors' own Lean function (tested against real Go, not proved from fmt's source: count such statements apart). THE CARD IS WHAT COUNTS. Prove the row's statement (the work); the ties are given (YtahljcbmckldhaaGreatDoorTie.lean); close each card by the builder's one call (the guide's Derived/Test/ToyasCard.lean, 'card_holds'). Laid BY PROGRAM, IN A SANDBOX (cutbox-door.mjs). By AI agents, Wed Nov 11 2026. No macro, syntax, notation, axiom, sorry.
-/
import Derived.Test.YtahljcbmckldhaaGreatDoorRows
import GoSem.ClaimSeven
namespace Go.Proofs.YtahljcbmckldhaaGreatDoor
namespace Rows

/-- THE TIED CARD OF 'bowdlerlaw15.InlineLinks'. -/
def inlineLinksCard : Claim7 := { stood := { row := inlineLinksRow, standIns := [], harness := (true, "925675b0d932f495e40faa3254ebfbe3049070b71b0d36c27f846e65f78ce3a3"), looks := true }, kinds := [], alts := [], laidByText := true, laidKinds := [.data, .listed, .data, .pinned], laidTests := true, laidLooks := .later }
def InlineLinksCardSaid : Prop := Claim7.holds Tryz.pinned (.plain (OpenSpec.ofChange inlineLinksSpec)) inlineLinksCard

/-- THE TIED CARD OF 'bowdlerlaw15.InlinePlain'. -/
def inlinePlainCard : Claim7 := { stood := { row := inlinePlainRow, standIns := [], harness := (true, "925675b0d932f495e40faa3254ebfbe3049070b71b0d36c27f846e65f78ce3a3"), looks := true }, kinds := [], alts := [], laidByText := true, laidKinds := [.data, .listed, .data, .pinned], laidTests := true, laidLooks := .later }
def InlinePlainCardSaid : Prop := Claim7.holds Tryz.pinned (.plain (OpenSpec.ofChange inlinePlainSpec)) inlinePlainCard

/-- THE TIED CARD OF 'bowdlerlaw15.InlineSpans'. -/
def inlineSpansCard : Claim7 := { stood := { row := inlineSpansRow, standIns := [], harness := (true, "925675b0d932f495e40faa3254ebfbe3049070b71b0d36c27f846e65f78ce3a3"), looks := true }, kinds := [], alts := [], laidByText := true, laidKinds := [.data, .listed, .data, .pinned], laidTests := true, laidLooks := .later }
def InlineSpansCardSaid : Prop := Claim7.holds Tryz.pinned (.plain (OpenSpec.ofChange inlineSpansSpec)) inlineSpansCard

/-- THE TIED CARD OF 'bowdlerlaw15.InlineCodes'. -/
def inlineCodesCard : Claim7 := { stood := { row := inlineCodesRow, standIns := [], harness := (true, "925675b0d932f495e40faa3254ebfbe3049070b71b0d36c27f846e65f78ce3a3"), looks := true }, kinds := [], alts := [], laidByText := true, laidKinds := [.data, .listed, .data, .pinned], laidTests := true, laidLooks := .later }
def InlineCodesCardSaid : Prop := Claim7.holds Tryz.pinned (.plain (OpenSpec.ofChange inlineCodesSpec)) inlineCodesCard

/-- THE TIED CARD OF 'bowdlerlaw15.InlineEscapes'. -/
def inlineEscapesCard : Claim7 := { stood := { row := inlineEscapesRow, standIns := [], harness := (true, "925675b0d932f495e40faa3254ebfbe3049070b71b0d36c27f846e65f78ce3a3"), looks := true }, kinds := [], alts := [], laidByText := true, laidKinds := [.data, .listed, .data, .pinned], laidTests := true, laidLooks := .later }
def InlineEscapesCardSaid : Prop := Claim7.holds Tryz.pinned (.plain (OpenSpec.ofChange inlineEscapesSpec)) inlineEscapesCard

/-- THE TIED CARD OF 'bowdlerlaw15.InlineLines'. -/
def inlineLinesCard : Claim7 := { stood := { row := inlineLinesRow, standIns := [], harness := (true, "925675b0d932f495e40faa3254ebfbe3049070b71b0d36c27f846e65f78ce3a3"), looks := true }, kinds := [], alts := [], laidByText := true, laidKinds := [.data, .listed, .data, .pinned], laidTests := true, laidLooks := .later }
def InlineLinesCardSaid : Prop := Claim7.holds Tryz.pinned (.plain (OpenSpec.ofChange inlineLinesSpec)) inlineLinesCard

/-- THE TIED CARD OF 'bowdlerlaw15.InlineAutos'. -/
def inlineAutosCard : Claim7 := { stood := { row := inlineAutosRow, standIns := [], harness := (true, "925675b0d932f495e40faa3254ebfbe3049070b71b0d36c27f846e65f78ce3a3"), looks := true }, kinds := [], alts := [], laidByText := true, laidKinds := [.data, .listed, .data, .pinned], laidTests := true, laidLooks := .later }
def InlineAutosCardSaid : Prop := Claim7.holds Tryz.pinned (.plain (OpenSpec.ofChange inlineAutosSpec)) inlineAutosCard

/-- THE SECOND FORM's CARD OF 'bowdlerlaw15.InlineLinks'. -/
def inlineLinksUptoCard : Claim7 := { stood := { row := inlineLinksUptoRow, standIns := [], harness := (true, "925675b0d932f495e40faa3254ebfbe3049070b71b0d36c27f846e65f78ce3a3"), looks := true }, kinds := [], alts := [], laidByText := true, laidKinds := [.data, .listed, .data, .pinned], laidTests := true, laidLooks := .later }
def InlineLinksUptoCardSaid : Prop := Claim7.holds Tryz.pinned (.plain (OpenSpec.upto inlineLinksSpec)) inlineLinksUptoCard

/-- THE SECOND FORM's CARD OF 'bowdlerlaw15.InlinePlain'. -/
def inlinePlainUptoCard : Claim7 := { stood := { row := inlinePlainUptoRow, standIns := [], harness := (true, "925675b0d932f495e40faa3254ebfbe3049070b71b0d36c27f846e65f78ce3a3"), looks := true }, kinds := [], alts := [], laidByText := true, laidKinds := [.data, .listed, .data, .pinned], laidTests := true, laidLooks := .later }
def InlinePlainUptoCardSaid : Prop := Claim7.holds Tryz.pinned (.plain (OpenSpec.upto inlinePlainSpec)) inlinePlainUptoCard

/-- THE SECOND FORM's CARD OF 'bowdlerlaw15.InlineSpans'. -/
def inlineSpansUptoCard : Claim7 := { stood := { row := inlineSpansUptoRow, standIns := [], harness := (true, "925675b0d932f495e40faa3254ebfbe3049070b71b0d36c27f846e65f78ce3a3"), looks := true }, kinds := [], alts := [], laidByText := true, laidKinds := [.data, .listed, .data, .pinned], laidTests := true, laidLooks := .later }
def InlineSpansUptoCardSaid : Prop := Claim7.holds Tryz.pinned (.plain (OpenSpec.upto inlineSpansSpec)) inlineSpansUptoCard

/-- THE SECOND FORM's CARD OF 'bowdlerlaw15.InlineCodes'. -/
def inlineCodesUptoCard : Claim7 := { stood := { row := inlineCodesUptoRow, standIns := [], harness := (true, "925675b0d932f495e40faa3254ebfbe3049070b71b0d36c27f846e65f78ce3a3"), looks := true }, kinds := [], alts := [], laidByText := true, laidKinds := [.data, .listed, .data, .pinned], laidTests := true, laidLooks := .later }
def InlineCodesUptoCardSaid : Prop := Claim7.holds Tryz.pinned (.plain (OpenSpec.upto inlineCodesSpec)) inlineCodesUptoCard

/-- THE SECOND FORM's CARD OF 'bowdlerlaw15.InlineEscapes'. -/
def inlineEscapesUptoCard : Claim7 := { stood := { row := inlineEscapesUptoRow, standIns := [], harness := (true, "925675b0d932f495e40faa3254ebfbe3049070b71b0d36c27f846e65f78ce3a3"), looks := true }, kinds := [], alts := [], laidByText := true, laidKinds := [.data, .listed, .data, .pinned], laidTests := true, laidLooks := .later }
def InlineEscapesUptoCardSaid : Prop := Claim7.holds Tryz.pinned (.plain (OpenSpec.upto inlineEscapesSpec)) inlineEscapesUptoCard

/-- THE SECOND FORM's CARD OF 'bowdlerlaw15.InlineLines'. -/
def inlineLinesUptoCard : Claim7 := { stood := { row := inlineLinesUptoRow, standIns := [], harness := (true, "925675b0d932f495e40faa3254ebfbe3049070b71b0d36c27f846e65f78ce3a3"), looks := true }, kinds := [], alts := [], laidByText := true, laidKinds := [.data, .listed, .data, .pinned], laidTests := true, laidLooks := .later }
def InlineLinesUptoCardSaid : Prop := Claim7.holds Tryz.pinned (.plain (OpenSpec.upto inlineLinesSpec)) inlineLinesUptoCard

/-- THE SECOND FORM's CARD OF 'bowdlerlaw15.InlineAutos'. -/
def inlineAutosUptoCard : Claim7 := { stood := { row := inlineAutosUptoRow, standIns := [], harness := (true, "925675b0d932f495e40faa3254ebfbe3049070b71b0d36c27f846e65f78ce3a3"), looks := true }, kinds := [], alts := [], laidByText := true, laidKinds := [.data, .listed, .data, .pinned], laidTests := true, laidLooks := .later }
def InlineAutosUptoCardSaid : Prop := Claim7.holds Tryz.pinned (.plain (OpenSpec.upto inlineAutosSpec)) inlineAutosUptoCard
end Rows
end Go.Proofs.YtahljcbmckldhaaGreatDoor
