/-
  DERIVED. GIVEN WITH THE SEED: THE CARDS: each row of YtibhoekbjgoanaaDoorRows.lean that lists a variable, with what it lists TIED to the program's text (the seventh form; the later family's looks); each row that meets fmt, with fmt's text TOLD by the authors' own Lean function (tested against real Go, not proved from fmt's source: count such statements apart). THE CARD IS WHAT COUNTS. Prove the row's statement (the work); the ties are given (YtibhoekbjgoanaaDoorTie.lean); close each card by the builder's one call (the guide's Derived/Test/ToyasCard.lean, 'card_holds'). Laid BY PROGRAM, IN A SANDBOX (cutbox-door.mjs). By AI agents, Wed Nov 11 2026. No macro, syntax, notation, axiom, sorry.
-/
import Derived.Test.YtibhoekbjgoanaaDoorRows
import GoSem.ClaimSeven
namespace Go.Proofs.YtibhoekbjgoanaaDoor
namespace Rows

/-- THE TIED CARD OF 'tabularylaw09.PageFills'. -/
def pageFillsCard : Claim7 := { stood := { row := pageFillsRow, standIns := [], harness := (true, "d1ce6d597a5772dab1a36aa688351bd4dae099d7dcb9f536c43f7f736f7d1b83"), looks := false }, kinds := [], alts := [], laidByText := true, laidKinds := [.data, .pinned], laidTests := true, laidLooks := .later }
def PageFillsCardSaid : Prop := Claim7.holds Tryd.pinned (.plain (OpenSpec.ofChange pageFillsSpec)) pageFillsCard

/-- THE TIED CARD OF 'tabularylaw07.StampWraps'. -/
def stampWrapsCard : Claim7 := { stood := { row := stampWrapsRow, standIns := [], harness := (true, "d1ce6d597a5772dab1a36aa688351bd4dae099d7dcb9f536c43f7f736f7d1b83"), looks := false }, kinds := [], alts := [], laidByText := true, laidKinds := [.data, .data, .pinned], laidTests := true, laidLooks := .later }
def StampWrapsCardSaid : Prop := Claim7.holds Tryd.pinned (.plain (OpenSpec.ofChange stampWrapsSpec)) stampWrapsCard

/-- THE TIED CARD OF 'tabularylaw07.StampOpens'. -/
def stampOpensCard : Claim7 := { stood := { row := stampOpensRow, standIns := [], harness := (true, "d1ce6d597a5772dab1a36aa688351bd4dae099d7dcb9f536c43f7f736f7d1b83"), looks := false }, kinds := [], alts := [], laidByText := true, laidKinds := [.data, .data, .pinned], laidTests := true, laidLooks := .later }
def StampOpensCardSaid : Prop := Claim7.holds Tryd.pinned (.plain (OpenSpec.ofChange stampOpensSpec)) stampOpensCard

/-- THE TIED CARD OF 'tabularylaw07.StampBursts'. -/
def stampBurstsCard : Claim7 := { stood := { row := stampBurstsRow, standIns := [], harness := (true, "d1ce6d597a5772dab1a36aa688351bd4dae099d7dcb9f536c43f7f736f7d1b83"), looks := false }, kinds := [], alts := [], laidByText := true, laidKinds := [.data, .data, .pinned], laidTests := true, laidLooks := .later }
def StampBurstsCardSaid : Prop := Claim7.holds Tryd.pinned (.plain (OpenSpec.ofChange stampBurstsSpec)) stampBurstsCard

/-- THE TIED CARD OF 'tabularylaw07.StampTears'. -/
def stampTearsCard : Claim7 := { stood := { row := stampTearsRow, standIns := [], harness := (true, "d1ce6d597a5772dab1a36aa688351bd4dae099d7dcb9f536c43f7f736f7d1b83"), looks := false }, kinds := [], alts := [], laidByText := true, laidKinds := [.data, .data, .pinned], laidTests := true, laidLooks := .later }
def StampTearsCardSaid : Prop := Claim7.holds Tryd.pinned (.plain (OpenSpec.ofChange stampTearsSpec)) stampTearsCard

/-- THE TIED CARD OF 'tabularylaw07.StampWhole'. -/
def stampWholeCard : Claim7 := { stood := { row := stampWholeRow, standIns := [], harness := (true, "d1ce6d597a5772dab1a36aa688351bd4dae099d7dcb9f536c43f7f736f7d1b83"), looks := false }, kinds := [], alts := [], laidByText := true, laidKinds := [.data, .data, .pinned], laidTests := true, laidLooks := .later }
def StampWholeCardSaid : Prop := Claim7.holds Tryd.pinned (.plain (OpenSpec.ofChange stampWholeSpec)) stampWholeCard

/-- THE TIED CARD OF 'tabularylaw09.PageBack'. -/
def pageBackCard : Claim7 := { stood := { row := pageBackRow, standIns := [], harness := (true, "d1ce6d597a5772dab1a36aa688351bd4dae099d7dcb9f536c43f7f736f7d1b83"), looks := false }, kinds := [], alts := [], laidByText := true, laidKinds := [.data, .pinned], laidTests := true, laidLooks := .later }
def PageBackCardSaid : Prop := Claim7.holds Tryd.pinned (.plain (OpenSpec.ofChange pageBackSpec)) pageBackCard

/-- THE TIED CARD OF 'tabularylaw09.PageOpens'. -/
def pageOpensCard : Claim7 := { stood := { row := pageOpensRow, standIns := [], harness := (true, "d1ce6d597a5772dab1a36aa688351bd4dae099d7dcb9f536c43f7f736f7d1b83"), looks := false }, kinds := [], alts := [], laidByText := true, laidKinds := [.data, .data, .pinned], laidTests := true, laidLooks := .later }
def PageOpensCardSaid : Prop := Claim7.holds Tryd.pinned (.plain (OpenSpec.ofChange pageOpensSpec)) pageOpensCard

/-- THE TIED CARD OF 'tabularylaw09.PageBursts'. -/
def pageBurstsCard : Claim7 := { stood := { row := pageBurstsRow, standIns := [], harness := (true, "d1ce6d597a5772dab1a36aa688351bd4dae099d7dcb9f536c43f7f736f7d1b83"), looks := false }, kinds := [], alts := [], laidByText := true, laidKinds := [.data, .data, .pinned], laidTests := true, laidLooks := .later }
def PageBurstsCardSaid : Prop := Claim7.holds Tryd.pinned (.plain (OpenSpec.ofChange pageBurstsSpec)) pageBurstsCard

/-- THE TIED CARD OF 'tabularylaw09.PageOnly'. -/
def pageOnlyCard : Claim7 := { stood := { row := pageOnlyRow, standIns := [], harness := (true, "d1ce6d597a5772dab1a36aa688351bd4dae099d7dcb9f536c43f7f736f7d1b83"), looks := false }, kinds := [], alts := [], laidByText := true, laidKinds := [.data, .data, .pinned], laidTests := true, laidLooks := .later }
def PageOnlyCardSaid : Prop := Claim7.holds Tryd.pinned (.plain (OpenSpec.ofChange pageOnlySpec)) pageOnlyCard

/-- THE SECOND FORM's CARD OF 'tabularylaw09.PageFills'. -/
def pageFillsUptoCard : Claim7 := { stood := { row := pageFillsUptoRow, standIns := [], harness := (true, "d1ce6d597a5772dab1a36aa688351bd4dae099d7dcb9f536c43f7f736f7d1b83"), looks := false }, kinds := [], alts := [], laidByText := true, laidKinds := [.data, .pinned], laidTests := true, laidLooks := .later }
def PageFillsUptoCardSaid : Prop := Claim7.holds Tryd.pinned (.plain (OpenSpec.upto pageFillsSpec)) pageFillsUptoCard

/-- THE SECOND FORM's CARD OF 'tabularylaw07.StampWraps'. -/
def stampWrapsUptoCard : Claim7 := { stood := { row := stampWrapsUptoRow, standIns := [], harness := (true, "d1ce6d597a5772dab1a36aa688351bd4dae099d7dcb9f536c43f7f736f7d1b83"), looks := false }, kinds := [], alts := [], laidByText := true, laidKinds := [.data, .data, .pinned], laidTests := true, laidLooks := .later }
def StampWrapsUptoCardSaid : Prop := Claim7.holds Tryd.pinned (.plain (OpenSpec.upto stampWrapsSpec)) stampWrapsUptoCard

/-- THE SECOND FORM's CARD OF 'tabularylaw07.StampOpens'. -/
def stampOpensUptoCard : Claim7 := { stood := { row := stampOpensUptoRow, standIns := [], harness := (true, "d1ce6d597a5772dab1a36aa688351bd4dae099d7dcb9f536c43f7f736f7d1b83"), looks := false }, kinds := [], alts := [], laidByText := true, laidKinds := [.data, .data, .pinned], laidTests := true, laidLooks := .later }
def StampOpensUptoCardSaid : Prop := Claim7.holds Tryd.pinned (.plain (OpenSpec.upto stampOpensSpec)) stampOpensUptoCard

/-- THE SECOND FORM's CARD OF 'tabularylaw07.StampBursts'. -/
def stampBurstsUptoCard : Claim7 := { stood := { row := stampBurstsUptoRow, standIns := [], harness := (true, "d1ce6d597a5772dab1a36aa688351bd4dae099d7dcb9f536c43f7f736f7d1b83"), looks := false }, kinds := [], alts := [], laidByText := true, laidKinds := [.data, .data, .pinned], laidTests := true, laidLooks := .later }
def StampBurstsUptoCardSaid : Prop := Claim7.holds Tryd.pinned (.plain (OpenSpec.upto stampBurstsSpec)) stampBurstsUptoCard

/-- THE SECOND FORM's CARD OF 'tabularylaw07.StampTears'. -/
def stampTearsUptoCard : Claim7 := { stood := { row := stampTearsUptoRow, standIns := [], harness := (true, "d1ce6d597a5772dab1a36aa688351bd4dae099d7dcb9f536c43f7f736f7d1b83"), looks := false }, kinds := [], alts := [], laidByText := true, laidKinds := [.data, .data, .pinned], laidTests := true, laidLooks := .later }
def StampTearsUptoCardSaid : Prop := Claim7.holds Tryd.pinned (.plain (OpenSpec.upto stampTearsSpec)) stampTearsUptoCard

/-- THE SECOND FORM's CARD OF 'tabularylaw07.StampWhole'. -/
def stampWholeUptoCard : Claim7 := { stood := { row := stampWholeUptoRow, standIns := [], harness := (true, "d1ce6d597a5772dab1a36aa688351bd4dae099d7dcb9f536c43f7f736f7d1b83"), looks := false }, kinds := [], alts := [], laidByText := true, laidKinds := [.data, .data, .pinned], laidTests := true, laidLooks := .later }
def StampWholeUptoCardSaid : Prop := Claim7.holds Tryd.pinned (.plain (OpenSpec.upto stampWholeSpec)) stampWholeUptoCard

/-- THE SECOND FORM's CARD OF 'tabularylaw09.PageBack'. -/
def pageBackUptoCard : Claim7 := { stood := { row := pageBackUptoRow, standIns := [], harness := (true, "d1ce6d597a5772dab1a36aa688351bd4dae099d7dcb9f536c43f7f736f7d1b83"), looks := false }, kinds := [], alts := [], laidByText := true, laidKinds := [.data, .pinned], laidTests := true, laidLooks := .later }
def PageBackUptoCardSaid : Prop := Claim7.holds Tryd.pinned (.plain (OpenSpec.upto pageBackSpec)) pageBackUptoCard

/-- THE SECOND FORM's CARD OF 'tabularylaw09.PageOpens'. -/
def pageOpensUptoCard : Claim7 := { stood := { row := pageOpensUptoRow, standIns := [], harness := (true, "d1ce6d597a5772dab1a36aa688351bd4dae099d7dcb9f536c43f7f736f7d1b83"), looks := false }, kinds := [], alts := [], laidByText := true, laidKinds := [.data, .data, .pinned], laidTests := true, laidLooks := .later }
def PageOpensUptoCardSaid : Prop := Claim7.holds Tryd.pinned (.plain (OpenSpec.upto pageOpensSpec)) pageOpensUptoCard

/-- THE SECOND FORM's CARD OF 'tabularylaw09.PageBursts'. -/
def pageBurstsUptoCard : Claim7 := { stood := { row := pageBurstsUptoRow, standIns := [], harness := (true, "d1ce6d597a5772dab1a36aa688351bd4dae099d7dcb9f536c43f7f736f7d1b83"), looks := false }, kinds := [], alts := [], laidByText := true, laidKinds := [.data, .data, .pinned], laidTests := true, laidLooks := .later }
def PageBurstsUptoCardSaid : Prop := Claim7.holds Tryd.pinned (.plain (OpenSpec.upto pageBurstsSpec)) pageBurstsUptoCard

/-- THE SECOND FORM's CARD OF 'tabularylaw09.PageOnly'. -/
def pageOnlyUptoCard : Claim7 := { stood := { row := pageOnlyUptoRow, standIns := [], harness := (true, "d1ce6d597a5772dab1a36aa688351bd4dae099d7dcb9f536c43f7f736f7d1b83"), looks := false }, kinds := [], alts := [], laidByText := true, laidKinds := [.data, .data, .pinned], laidTests := true, laidLooks := .later }
def PageOnlyUptoCardSaid : Prop := Claim7.holds Tryd.pinned (.plain (OpenSpec.upto pageOnlySpec)) pageOnlyUptoCard
end Rows
end Go.Proofs.YtibhoekbjgoanaaDoor
