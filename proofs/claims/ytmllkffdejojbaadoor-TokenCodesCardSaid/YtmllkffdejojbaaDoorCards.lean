/-
  DERIVED. GIVEN WITH THE SEED: THE CARDS: each row of YtmllkffdejojbaaDoorRows.lean that lists a variable, with what it lists TIED to the program's text (the seventh form; the later family's looks); each row that meets fmt, with fmt's text TOLD by the authors' own Lean function (tested against real Go, not proved from fmt's source: count such statements apart). THE CARD IS WHAT COUNTS. Prove the row's statement (the work); the ties are given (YtmllkffdejojbaaDoorTie.lean); close each card by the builder's one call (the guide's Derived/Test/ToyasCard.lean, 'card_holds'). Laid BY PROGRAM, IN A SANDBOX (cutbox-door.mjs). By AI agents, Wed Nov 11 2026. No macro, syntax, notation, axiom, sorry.
-/
import Derived.Test.YtmllkffdejojbaaDoorRows
import GoSem.ClaimSeven
namespace Go.Proofs.YtmllkffdejojbaaDoor
namespace Rows

/-- THE TIED CARD OF 'bowdlerlaw10.TargetSchemes'. -/
def targetSchemesCard : Claim7 := { stood := { row := targetSchemesRow, standIns := [], harness := (true, "6cf0d786af9ad7a39a81f2214d5bb3c8ce6224df7a91ec1be6b2671b9307ce80"), looks := true }, kinds := [], alts := [], laidByText := true, laidKinds := [.data, .listed, .data, .pinned], laidTests := true, laidLooks := .later }
def TargetSchemesCardSaid : Prop := Claim7.holds Tryd.pinned (.plain (OpenSpec.ofChange targetSchemesSpec)) targetSchemesCard

/-- THE TIED CARD OF 'bowdlerlaw10.TargetEncodes'. -/
def targetEncodesCard : Claim7 := { stood := { row := targetEncodesRow, standIns := [], harness := (true, "6cf0d786af9ad7a39a81f2214d5bb3c8ce6224df7a91ec1be6b2671b9307ce80"), looks := true }, kinds := [], alts := [], laidByText := true, laidKinds := [.data, .listed, .data, .pinned], laidTests := true, laidLooks := .later }
def TargetEncodesCardSaid : Prop := Claim7.holds Tryd.pinned (.plain (OpenSpec.ofChange targetEncodesSpec)) targetEncodesCard

/-- THE TIED CARD OF 'bowdlerlaw10.TargetRounds'. -/
def targetRoundsCard : Claim7 := { stood := { row := targetRoundsRow, standIns := [], harness := (true, "6cf0d786af9ad7a39a81f2214d5bb3c8ce6224df7a91ec1be6b2671b9307ce80"), looks := true }, kinds := [], alts := [], laidByText := true, laidKinds := [.data, .listed, .data, .pinned], laidTests := true, laidLooks := .later }
def TargetRoundsCardSaid : Prop := Claim7.holds Tryd.pinned (.plain (OpenSpec.ofChange targetRoundsSpec)) targetRoundsCard

/-- THE TIED CARD OF 'bowdlerlaw10.TargetBrackets'. -/
def targetBracketsCard : Claim7 := { stood := { row := targetBracketsRow, standIns := [], harness := (true, "6cf0d786af9ad7a39a81f2214d5bb3c8ce6224df7a91ec1be6b2671b9307ce80"), looks := true }, kinds := [], alts := [], laidByText := true, laidKinds := [.data, .listed, .data, .pinned], laidTests := true, laidLooks := .later }
def TargetBracketsCardSaid : Prop := Claim7.holds Tryd.pinned (.plain (OpenSpec.ofChange targetBracketsSpec)) targetBracketsCard

/-- THE TIED CARD OF 'bowdlerlaw10.TargetQuotes'. -/
def targetQuotesCard : Claim7 := { stood := { row := targetQuotesRow, standIns := [], harness := (true, "6cf0d786af9ad7a39a81f2214d5bb3c8ce6224df7a91ec1be6b2671b9307ce80"), looks := true }, kinds := [], alts := [], laidByText := true, laidKinds := [.data, .listed, .data, .pinned], laidTests := true, laidLooks := .later }
def TargetQuotesCardSaid : Prop := Claim7.holds Tryd.pinned (.plain (OpenSpec.ofChange targetQuotesSpec)) targetQuotesCard

/-- THE TIED CARD OF 'bowdlerlaw10.TargetPlain'. -/
def targetPlainCard : Claim7 := { stood := { row := targetPlainRow, standIns := [], harness := (true, "6cf0d786af9ad7a39a81f2214d5bb3c8ce6224df7a91ec1be6b2671b9307ce80"), looks := true }, kinds := [], alts := [], laidByText := true, laidKinds := [.data, .listed, .data, .pinned], laidTests := true, laidLooks := .later }
def TargetPlainCardSaid : Prop := Claim7.holds Tryd.pinned (.plain (OpenSpec.ofChange targetPlainSpec)) targetPlainCard

/-- THE TIED CARD OF 'bowdlerlaw11.DefineFolds'. -/
def defineFoldsCard : Claim7 := { stood := { row := defineFoldsRow, standIns := [], harness := (true, "6cf0d786af9ad7a39a81f2214d5bb3c8ce6224df7a91ec1be6b2671b9307ce80"), looks := true }, kinds := [], alts := [], laidByText := true, laidKinds := [.data, .listed, .data, .pinned], laidTests := true, laidLooks := .later }
def DefineFoldsCardSaid : Prop := Claim7.holds Tryd.pinned (.plain (OpenSpec.ofChange defineFoldsSpec)) defineFoldsCard

/-- THE TIED CARD OF 'bowdlerlaw11.DefineNone'. -/
def defineNoneCard : Claim7 := { stood := { row := defineNoneRow, standIns := [], harness := (true, "6cf0d786af9ad7a39a81f2214d5bb3c8ce6224df7a91ec1be6b2671b9307ce80"), looks := true }, kinds := [], alts := [], laidByText := true, laidKinds := [.data, .listed, .data, .pinned], laidTests := true, laidLooks := .later }
def DefineNoneCardSaid : Prop := Claim7.holds Tryd.pinned (.plain (OpenSpec.ofChange defineNoneSpec)) defineNoneCard

/-- THE TIED CARD OF 'bowdlerlaw11.DefineBack'. -/
def defineBackCard : Claim7 := { stood := { row := defineBackRow, standIns := [], harness := (true, "6cf0d786af9ad7a39a81f2214d5bb3c8ce6224df7a91ec1be6b2671b9307ce80"), looks := true }, kinds := [], alts := [], laidByText := true, laidKinds := [.data, .listed, .data, .pinned], laidTests := true, laidLooks := .later }
def DefineBackCardSaid : Prop := Claim7.holds Tryd.pinned (.plain (OpenSpec.ofChange defineBackSpec)) defineBackCard

/-- THE TIED CARD OF 'bowdlerlaw11.DefineTakes'. -/
def defineTakesCard : Claim7 := { stood := { row := defineTakesRow, standIns := [], harness := (true, "6cf0d786af9ad7a39a81f2214d5bb3c8ce6224df7a91ec1be6b2671b9307ce80"), looks := true }, kinds := [], alts := [], laidByText := true, laidKinds := [.data, .listed, .data, .pinned], laidTests := true, laidLooks := .later }
def DefineTakesCardSaid : Prop := Claim7.holds Tryd.pinned (.plain (OpenSpec.ofChange defineTakesSpec)) defineTakesCard

/-- THE TIED CARD OF 'bowdlerlaw12.TokenWords'. -/
def tokenWordsCard : Claim7 := { stood := { row := tokenWordsRow, standIns := [], harness := (true, "6cf0d786af9ad7a39a81f2214d5bb3c8ce6224df7a91ec1be6b2671b9307ce80"), looks := true }, kinds := [], alts := [], laidByText := true, laidKinds := [.data, .listed, .data, .pinned], laidTests := true, laidLooks := .later }
def TokenWordsCardSaid : Prop := Claim7.holds Tryd.pinned (.plain (OpenSpec.ofChange tokenWordsSpec)) tokenWordsCard

/-- THE TIED CARD OF 'bowdlerlaw12.TokenCodes'. -/
def tokenCodesCard : Claim7 := { stood := { row := tokenCodesRow, standIns := [], harness := (true, "6cf0d786af9ad7a39a81f2214d5bb3c8ce6224df7a91ec1be6b2671b9307ce80"), looks := true }, kinds := [], alts := [], laidByText := true, laidKinds := [.data, .listed, .data, .pinned], laidTests := true, laidLooks := .later }
def TokenCodesCardSaid : Prop := Claim7.holds Tryd.pinned (.plain (OpenSpec.ofChange tokenCodesSpec)) tokenCodesCard

/-- THE TIED CARD OF 'bowdlerlaw12.TokenSigns'. -/
def tokenSignsCard : Claim7 := { stood := { row := tokenSignsRow, standIns := [], harness := (true, "6cf0d786af9ad7a39a81f2214d5bb3c8ce6224df7a91ec1be6b2671b9307ce80"), looks := true }, kinds := [], alts := [], laidByText := true, laidKinds := [.data, .listed, .data, .pinned], laidTests := true, laidLooks := .later }
def TokenSignsCardSaid : Prop := Claim7.holds Tryd.pinned (.plain (OpenSpec.ofChange tokenSignsSpec)) tokenSignsCard

/-- THE TIED CARD OF 'bowdlerlaw12.TokenRuns'. -/
def tokenRunsCard : Claim7 := { stood := { row := tokenRunsRow, standIns := [], harness := (true, "6cf0d786af9ad7a39a81f2214d5bb3c8ce6224df7a91ec1be6b2671b9307ce80"), looks := true }, kinds := [], alts := [], laidByText := true, laidKinds := [.data, .listed, .data, .pinned], laidTests := true, laidLooks := .later }
def TokenRunsCardSaid : Prop := Claim7.holds Tryd.pinned (.plain (OpenSpec.ofChange tokenRunsSpec)) tokenRunsCard

/-- THE TIED CARD OF 'bowdlerlaw12.TokenBreaks'. -/
def tokenBreaksCard : Claim7 := { stood := { row := tokenBreaksRow, standIns := [], harness := (true, "6cf0d786af9ad7a39a81f2214d5bb3c8ce6224df7a91ec1be6b2671b9307ce80"), looks := true }, kinds := [], alts := [], laidByText := true, laidKinds := [.data, .listed, .data, .pinned], laidTests := true, laidLooks := .later }
def TokenBreaksCardSaid : Prop := Claim7.holds Tryd.pinned (.plain (OpenSpec.ofChange tokenBreaksSpec)) tokenBreaksCard

/-- THE TIED CARD OF 'bowdlerlaw12.TokenAutos'. -/
def tokenAutosCard : Claim7 := { stood := { row := tokenAutosRow, standIns := [], harness := (true, "6cf0d786af9ad7a39a81f2214d5bb3c8ce6224df7a91ec1be6b2671b9307ce80"), looks := true }, kinds := [], alts := [], laidByText := true, laidKinds := [.data, .listed, .data, .pinned], laidTests := true, laidLooks := .later }
def TokenAutosCardSaid : Prop := Claim7.holds Tryd.pinned (.plain (OpenSpec.ofChange tokenAutosSpec)) tokenAutosCard

/-- THE TIED CARD OF 'bowdlerlaw12.TokenTags'. -/
def tokenTagsCard : Claim7 := { stood := { row := tokenTagsRow, standIns := [], harness := (true, "6cf0d786af9ad7a39a81f2214d5bb3c8ce6224df7a91ec1be6b2671b9307ce80"), looks := true }, kinds := [], alts := [], laidByText := true, laidKinds := [.data, .listed, .data, .pinned], laidTests := true, laidLooks := .later }
def TokenTagsCardSaid : Prop := Claim7.holds Tryd.pinned (.plain (OpenSpec.ofChange tokenTagsSpec)) tokenTagsCard

/-- THE TIED CARD OF 'bowdlerlaw12.TokenEntities'. -/
def tokenEntitiesCard : Claim7 := { stood := { row := tokenEntitiesRow, standIns := [], harness := (true, "6cf0d786af9ad7a39a81f2214d5bb3c8ce6224df7a91ec1be6b2671b9307ce80"), looks := true }, kinds := [], alts := [], laidByText := true, laidKinds := [.data, .listed, .data, .pinned], laidTests := true, laidLooks := .later }
def TokenEntitiesCardSaid : Prop := Claim7.holds Tryd.pinned (.plain (OpenSpec.ofChange tokenEntitiesSpec)) tokenEntitiesCard

/-- THE SECOND FORM's CARD OF 'bowdlerlaw10.TargetSchemes'. -/
def targetSchemesUptoCard : Claim7 := { stood := { row := targetSchemesUptoRow, standIns := [], harness := (true, "6cf0d786af9ad7a39a81f2214d5bb3c8ce6224df7a91ec1be6b2671b9307ce80"), looks := true }, kinds := [], alts := [], laidByText := true, laidKinds := [.data, .listed, .data, .pinned], laidTests := true, laidLooks := .later }
def TargetSchemesUptoCardSaid : Prop := Claim7.holds Tryd.pinned (.plain (OpenSpec.upto targetSchemesSpec)) targetSchemesUptoCard

/-- THE SECOND FORM's CARD OF 'bowdlerlaw10.TargetEncodes'. -/
def targetEncodesUptoCard : Claim7 := { stood := { row := targetEncodesUptoRow, standIns := [], harness := (true, "6cf0d786af9ad7a39a81f2214d5bb3c8ce6224df7a91ec1be6b2671b9307ce80"), looks := true }, kinds := [], alts := [], laidByText := true, laidKinds := [.data, .listed, .data, .pinned], laidTests := true, laidLooks := .later }
def TargetEncodesUptoCardSaid : Prop := Claim7.holds Tryd.pinned (.plain (OpenSpec.upto targetEncodesSpec)) targetEncodesUptoCard

/-- THE SECOND FORM's CARD OF 'bowdlerlaw10.TargetRounds'. -/
def targetRoundsUptoCard : Claim7 := { stood := { row := targetRoundsUptoRow, standIns := [], harness := (true, "6cf0d786af9ad7a39a81f2214d5bb3c8ce6224df7a91ec1be6b2671b9307ce80"), looks := true }, kinds := [], alts := [], laidByText := true, laidKinds := [.data, .listed, .data, .pinned], laidTests := true, laidLooks := .later }
def TargetRoundsUptoCardSaid : Prop := Claim7.holds Tryd.pinned (.plain (OpenSpec.upto targetRoundsSpec)) targetRoundsUptoCard

/-- THE SECOND FORM's CARD OF 'bowdlerlaw10.TargetBrackets'. -/
def targetBracketsUptoCard : Claim7 := { stood := { row := targetBracketsUptoRow, standIns := [], harness := (true, "6cf0d786af9ad7a39a81f2214d5bb3c8ce6224df7a91ec1be6b2671b9307ce80"), looks := true }, kinds := [], alts := [], laidByText := true, laidKinds := [.data, .listed, .data, .pinned], laidTests := true, laidLooks := .later }
def TargetBracketsUptoCardSaid : Prop := Claim7.holds Tryd.pinned (.plain (OpenSpec.upto targetBracketsSpec)) targetBracketsUptoCard

/-- THE SECOND FORM's CARD OF 'bowdlerlaw10.TargetQuotes'. -/
def targetQuotesUptoCard : Claim7 := { stood := { row := targetQuotesUptoRow, standIns := [], harness := (true, "6cf0d786af9ad7a39a81f2214d5bb3c8ce6224df7a91ec1be6b2671b9307ce80"), looks := true }, kinds := [], alts := [], laidByText := true, laidKinds := [.data, .listed, .data, .pinned], laidTests := true, laidLooks := .later }
def TargetQuotesUptoCardSaid : Prop := Claim7.holds Tryd.pinned (.plain (OpenSpec.upto targetQuotesSpec)) targetQuotesUptoCard

/-- THE SECOND FORM's CARD OF 'bowdlerlaw10.TargetPlain'. -/
def targetPlainUptoCard : Claim7 := { stood := { row := targetPlainUptoRow, standIns := [], harness := (true, "6cf0d786af9ad7a39a81f2214d5bb3c8ce6224df7a91ec1be6b2671b9307ce80"), looks := true }, kinds := [], alts := [], laidByText := true, laidKinds := [.data, .listed, .data, .pinned], laidTests := true, laidLooks := .later }
def TargetPlainUptoCardSaid : Prop := Claim7.holds Tryd.pinned (.plain (OpenSpec.upto targetPlainSpec)) targetPlainUptoCard

/-- THE SECOND FORM's CARD OF 'bowdlerlaw11.DefineFolds'. -/
def defineFoldsUptoCard : Claim7 := { stood := { row := defineFoldsUptoRow, standIns := [], harness := (true, "6cf0d786af9ad7a39a81f2214d5bb3c8ce6224df7a91ec1be6b2671b9307ce80"), looks := true }, kinds := [], alts := [], laidByText := true, laidKinds := [.data, .listed, .data, .pinned], laidTests := true, laidLooks := .later }
def DefineFoldsUptoCardSaid : Prop := Claim7.holds Tryd.pinned (.plain (OpenSpec.upto defineFoldsSpec)) defineFoldsUptoCard

/-- THE SECOND FORM's CARD OF 'bowdlerlaw11.DefineNone'. -/
def defineNoneUptoCard : Claim7 := { stood := { row := defineNoneUptoRow, standIns := [], harness := (true, "6cf0d786af9ad7a39a81f2214d5bb3c8ce6224df7a91ec1be6b2671b9307ce80"), looks := true }, kinds := [], alts := [], laidByText := true, laidKinds := [.data, .listed, .data, .pinned], laidTests := true, laidLooks := .later }
def DefineNoneUptoCardSaid : Prop := Claim7.holds Tryd.pinned (.plain (OpenSpec.upto defineNoneSpec)) defineNoneUptoCard

/-- THE SECOND FORM's CARD OF 'bowdlerlaw11.DefineBack'. -/
def defineBackUptoCard : Claim7 := { stood := { row := defineBackUptoRow, standIns := [], harness := (true, "6cf0d786af9ad7a39a81f2214d5bb3c8ce6224df7a91ec1be6b2671b9307ce80"), looks := true }, kinds := [], alts := [], laidByText := true, laidKinds := [.data, .listed, .data, .pinned], laidTests := true, laidLooks := .later }
def DefineBackUptoCardSaid : Prop := Claim7.holds Tryd.pinned (.plain (OpenSpec.upto defineBackSpec)) defineBackUptoCard

/-- THE SECOND FORM's CARD OF 'bowdlerlaw11.DefineTakes'. -/
def defineTakesUptoCard : Claim7 := { stood := { row := defineTakesUptoRow, standIns := [], harness := (true, "6cf0d786af9ad7a39a81f2214d5bb3c8ce6224df7a91ec1be6b2671b9307ce80"), looks := true }, kinds := [], alts := [], laidByText := true, laidKinds := [.data, .listed, .data, .pinned], laidTests := true, laidLooks := .later }
def DefineTakesUptoCardSaid : Prop := Claim7.holds Tryd.pinned (.plain (OpenSpec.upto defineTakesSpec)) defineTakesUptoCard

/-- THE SECOND FORM's CARD OF 'bowdlerlaw12.TokenWords'. -/
def tokenWordsUptoCard : Claim7 := { stood := { row := tokenWordsUptoRow, standIns := [], harness := (true, "6cf0d786af9ad7a39a81f2214d5bb3c8ce6224df7a91ec1be6b2671b9307ce80"), looks := true }, kinds := [], alts := [], laidByText := true, laidKinds := [.data, .listed, .data, .pinned], laidTests := true, laidLooks := .later }
def TokenWordsUptoCardSaid : Prop := Claim7.holds Tryd.pinned (.plain (OpenSpec.upto tokenWordsSpec)) tokenWordsUptoCard

/-- THE SECOND FORM's CARD OF 'bowdlerlaw12.TokenCodes'. -/
def tokenCodesUptoCard : Claim7 := { stood := { row := tokenCodesUptoRow, standIns := [], harness := (true, "6cf0d786af9ad7a39a81f2214d5bb3c8ce6224df7a91ec1be6b2671b9307ce80"), looks := true }, kinds := [], alts := [], laidByText := true, laidKinds := [.data, .listed, .data, .pinned], laidTests := true, laidLooks := .later }
def TokenCodesUptoCardSaid : Prop := Claim7.holds Tryd.pinned (.plain (OpenSpec.upto tokenCodesSpec)) tokenCodesUptoCard

/-- THE SECOND FORM's CARD OF 'bowdlerlaw12.TokenSigns'. -/
def tokenSignsUptoCard : Claim7 := { stood := { row := tokenSignsUptoRow, standIns := [], harness := (true, "6cf0d786af9ad7a39a81f2214d5bb3c8ce6224df7a91ec1be6b2671b9307ce80"), looks := true }, kinds := [], alts := [], laidByText := true, laidKinds := [.data, .listed, .data, .pinned], laidTests := true, laidLooks := .later }
def TokenSignsUptoCardSaid : Prop := Claim7.holds Tryd.pinned (.plain (OpenSpec.upto tokenSignsSpec)) tokenSignsUptoCard

/-- THE SECOND FORM's CARD OF 'bowdlerlaw12.TokenRuns'. -/
def tokenRunsUptoCard : Claim7 := { stood := { row := tokenRunsUptoRow, standIns := [], harness := (true, "6cf0d786af9ad7a39a81f2214d5bb3c8ce6224df7a91ec1be6b2671b9307ce80"), looks := true }, kinds := [], alts := [], laidByText := true, laidKinds := [.data, .listed, .data, .pinned], laidTests := true, laidLooks := .later }
def TokenRunsUptoCardSaid : Prop := Claim7.holds Tryd.pinned (.plain (OpenSpec.upto tokenRunsSpec)) tokenRunsUptoCard

/-- THE SECOND FORM's CARD OF 'bowdlerlaw12.TokenBreaks'. -/
def tokenBreaksUptoCard : Claim7 := { stood := { row := tokenBreaksUptoRow, standIns := [], harness := (true, "6cf0d786af9ad7a39a81f2214d5bb3c8ce6224df7a91ec1be6b2671b9307ce80"), looks := true }, kinds := [], alts := [], laidByText := true, laidKinds := [.data, .listed, .data, .pinned], laidTests := true, laidLooks := .later }
def TokenBreaksUptoCardSaid : Prop := Claim7.holds Tryd.pinned (.plain (OpenSpec.upto tokenBreaksSpec)) tokenBreaksUptoCard

/-- THE SECOND FORM's CARD OF 'bowdlerlaw12.TokenAutos'. -/
def tokenAutosUptoCard : Claim7 := { stood := { row := tokenAutosUptoRow, standIns := [], harness := (true, "6cf0d786af9ad7a39a81f2214d5bb3c8ce6224df7a91ec1be6b2671b9307ce80"), looks := true }, kinds := [], alts := [], laidByText := true, laidKinds := [.data, .listed, .data, .pinned], laidTests := true, laidLooks := .later }
def TokenAutosUptoCardSaid : Prop := Claim7.holds Tryd.pinned (.plain (OpenSpec.upto tokenAutosSpec)) tokenAutosUptoCard

/-- THE SECOND FORM's CARD OF 'bowdlerlaw12.TokenTags'. -/
def tokenTagsUptoCard : Claim7 := { stood := { row := tokenTagsUptoRow, standIns := [], harness := (true, "6cf0d786af9ad7a39a81f2214d5bb3c8ce6224df7a91ec1be6b2671b9307ce80"), looks := true }, kinds := [], alts := [], laidByText := true, laidKinds := [.data, .listed, .data, .pinned], laidTests := true, laidLooks := .later }
def TokenTagsUptoCardSaid : Prop := Claim7.holds Tryd.pinned (.plain (OpenSpec.upto tokenTagsSpec)) tokenTagsUptoCard

/-- THE SECOND FORM's CARD OF 'bowdlerlaw12.TokenEntities'. -/
def tokenEntitiesUptoCard : Claim7 := { stood := { row := tokenEntitiesUptoRow, standIns := [], harness := (true, "6cf0d786af9ad7a39a81f2214d5bb3c8ce6224df7a91ec1be6b2671b9307ce80"), looks := true }, kinds := [], alts := [], laidByText := true, laidKinds := [.data, .listed, .data, .pinned], laidTests := true, laidLooks := .later }
def TokenEntitiesUptoCardSaid : Prop := Claim7.holds Tryd.pinned (.plain (OpenSpec.upto tokenEntitiesSpec)) tokenEntitiesUptoCard
end Rows
end Go.Proofs.YtmllkffdejojbaaDoor
