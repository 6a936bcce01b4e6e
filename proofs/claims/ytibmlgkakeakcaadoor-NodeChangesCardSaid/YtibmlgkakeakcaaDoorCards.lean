/-
  DERIVED. GIVEN WITH THE SEED: THE CARDS: each row of YtibmlgkakeakcaaDoorRows.lean that lists a variable, with what it lists TIED to the program's text (the seventh form; the later family's looks); each row that meets fmt, with fmt's text TOLD by the authors' own Lean function (tested against real Go, not proved from fmt's source: count such statements apart). THE CARD IS WHAT COUNTS. Prove the row's statement (the work); the ties are given (YtibmlgkakeakcaaDoorTie.lean); close each card by the builder's one call (the guide's Derived/Test/ToyasCard.lean, 'card_holds'). Laid BY PROGRAM, IN A SANDBOX (cutbox-door.mjs). By AI agents, Wed Nov 11 2026. No macro, syntax, notation, axiom, sorry.
-/
import Derived.Test.YtibmlgkakeakcaaDoorRows
import GoSem.ClaimSeven
namespace Go.Proofs.YtibmlgkakeakcaaDoor
namespace Rows

/-- THE TIED CARD OF 'tabularylaw14.NodeAsks'. -/
def nodeAsksCard : Claim7 := { stood := { row := nodeAsksRow, standIns := [], harness := (true, "da34bb18c784ab9e87ff9316e9269a9866a8281f7037fee7a0c397eb733ed011"), looks := false }, kinds := [], alts := [], laidByText := true, laidKinds := [.data, .pinned], laidTests := true, laidLooks := .later }
def NodeAsksCardSaid : Prop := Claim7.holds Tryd.pinned (.plain (OpenSpec.ofChange nodeAsksSpec)) nodeAsksCard

/-- THE TIED CARD OF 'tabularylaw14.NodeBack'. -/
def nodeBackCard : Claim7 := { stood := { row := nodeBackRow, standIns := [], harness := (true, "da34bb18c784ab9e87ff9316e9269a9866a8281f7037fee7a0c397eb733ed011"), looks := false }, kinds := [], alts := [], laidByText := true, laidKinds := [.data, .pinned], laidTests := true, laidLooks := .later }
def NodeBackCardSaid : Prop := Claim7.holds Tryd.pinned (.plain (OpenSpec.ofChange nodeBackSpec)) nodeBackCard

/-- THE TIED CARD OF 'tabularylaw14.NodeFinds'. -/
def nodeFindsCard : Claim7 := { stood := { row := nodeFindsRow, standIns := [], harness := (true, "da34bb18c784ab9e87ff9316e9269a9866a8281f7037fee7a0c397eb733ed011"), looks := false }, kinds := [], alts := [], laidByText := true, laidKinds := [.data, .pinned], laidTests := true, laidLooks := .later }
def NodeFindsCardSaid : Prop := Claim7.holds Tryd.pinned (.plain (OpenSpec.ofChange nodeFindsSpec)) nodeFindsCard

/-- THE TIED CARD OF 'tabularylaw14.NodeHalves'. -/
def nodeHalvesCard : Claim7 := { stood := { row := nodeHalvesRow, standIns := [], harness := (true, "da34bb18c784ab9e87ff9316e9269a9866a8281f7037fee7a0c397eb733ed011"), looks := false }, kinds := [], alts := [], laidByText := true, laidKinds := [.data, .pinned], laidTests := true, laidLooks := .later }
def NodeHalvesCardSaid : Prop := Claim7.holds Tryd.pinned (.plain (OpenSpec.ofChange nodeHalvesSpec)) nodeHalvesCard

/-- THE TIED CARD OF 'tabularylaw14.NodeChanges'. -/
def nodeChangesCard : Claim7 := { stood := { row := nodeChangesRow, standIns := [], harness := (true, "da34bb18c784ab9e87ff9316e9269a9866a8281f7037fee7a0c397eb733ed011"), looks := false }, kinds := [], alts := [], laidByText := true, laidKinds := [.data, .pinned], laidTests := true, laidLooks := .later }
def NodeChangesCardSaid : Prop := Claim7.holds Tryd.pinned (.plain (OpenSpec.ofChange nodeChangesSpec)) nodeChangesCard

/-- THE SECOND FORM's CARD OF 'tabularylaw14.NodeAsks'. -/
def nodeAsksUptoCard : Claim7 := { stood := { row := nodeAsksUptoRow, standIns := [], harness := (true, "da34bb18c784ab9e87ff9316e9269a9866a8281f7037fee7a0c397eb733ed011"), looks := false }, kinds := [], alts := [], laidByText := true, laidKinds := [.data, .pinned], laidTests := true, laidLooks := .later }
def NodeAsksUptoCardSaid : Prop := Claim7.holds Tryd.pinned (.plain (OpenSpec.upto nodeAsksSpec)) nodeAsksUptoCard

/-- THE SECOND FORM's CARD OF 'tabularylaw14.NodeBack'. -/
def nodeBackUptoCard : Claim7 := { stood := { row := nodeBackUptoRow, standIns := [], harness := (true, "da34bb18c784ab9e87ff9316e9269a9866a8281f7037fee7a0c397eb733ed011"), looks := false }, kinds := [], alts := [], laidByText := true, laidKinds := [.data, .pinned], laidTests := true, laidLooks := .later }
def NodeBackUptoCardSaid : Prop := Claim7.holds Tryd.pinned (.plain (OpenSpec.upto nodeBackSpec)) nodeBackUptoCard

/-- THE SECOND FORM's CARD OF 'tabularylaw14.NodeFinds'. -/
def nodeFindsUptoCard : Claim7 := { stood := { row := nodeFindsUptoRow, standIns := [], harness := (true, "da34bb18c784ab9e87ff9316e9269a9866a8281f7037fee7a0c397eb733ed011"), looks := false }, kinds := [], alts := [], laidByText := true, laidKinds := [.data, .pinned], laidTests := true, laidLooks := .later }
def NodeFindsUptoCardSaid : Prop := Claim7.holds Tryd.pinned (.plain (OpenSpec.upto nodeFindsSpec)) nodeFindsUptoCard

/-- THE SECOND FORM's CARD OF 'tabularylaw14.NodeHalves'. -/
def nodeHalvesUptoCard : Claim7 := { stood := { row := nodeHalvesUptoRow, standIns := [], harness := (true, "da34bb18c784ab9e87ff9316e9269a9866a8281f7037fee7a0c397eb733ed011"), looks := false }, kinds := [], alts := [], laidByText := true, laidKinds := [.data, .pinned], laidTests := true, laidLooks := .later }
def NodeHalvesUptoCardSaid : Prop := Claim7.holds Tryd.pinned (.plain (OpenSpec.upto nodeHalvesSpec)) nodeHalvesUptoCard

/-- THE SECOND FORM's CARD OF 'tabularylaw14.NodeChanges'. -/
def nodeChangesUptoCard : Claim7 := { stood := { row := nodeChangesUptoRow, standIns := [], harness := (true, "da34bb18c784ab9e87ff9316e9269a9866a8281f7037fee7a0c397eb733ed011"), looks := false }, kinds := [], alts := [], laidByText := true, laidKinds := [.data, .pinned], laidTests := true, laidLooks := .later }
def NodeChangesUptoCardSaid : Prop := Claim7.holds Tryd.pinned (.plain (OpenSpec.upto nodeChangesSpec)) nodeChangesUptoCard
end Rows
end Go.Proofs.YtibmlgkakeakcaaDoor
