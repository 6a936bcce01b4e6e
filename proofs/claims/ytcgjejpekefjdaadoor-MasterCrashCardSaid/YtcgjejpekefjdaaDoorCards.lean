/-
  DERIVED. GIVEN WITH THE SEED: THE CARDS: each row of YtcgjejpekefjdaaDoorRows.lean that lists a variable, with what it lists TIED to the program's text (the seventh form; the later family's looks); each row that meets fmt, with fmt's text TOLD by the authors' own Lean function (tested against real Go, not proved from fmt's source: count such statements apart). THE CARD IS WHAT COUNTS. Prove the row's statement (the work); the ties are given (YtcgjejpekefjdaaDoorTie.lean); close each card by the builder's one call (the guide's Derived/Test/ToyasCard.lean, 'card_holds'). Laid BY PROGRAM, IN A SANDBOX (cutbox-door.mjs). By AI agents, Wed Nov 11 2026. No macro, syntax, notation, axiom, sorry.
-/
import Derived.Test.YtcgjejpekefjdaaDoorRows
import GoSem.ClaimSeven
namespace Go.Proofs.YtcgjejpekefjdaaDoor
namespace Rows

/-- THE TIED CARD OF 'tabularylaw10.MasterNobody'. -/
def masterNobodyCard : Claim7 := { stood := { row := masterNobodyRow, standIns := [], harness := (true, "fbc4cd2ed57b865b3ce4db9340db1b72fd7aa0f06b063b9f42e206a507b83cdc"), looks := false }, kinds := [], alts := [], laidByText := true, laidKinds := [.data, .data, .pinned], laidTests := true, laidLooks := .later }
def MasterNobodyCardSaid : Prop := Claim7.holds Tryd.pinned (.plain (OpenSpec.ofChange masterNobodySpec)) masterNobodyCard

/-- THE TIED CARD OF 'tabularylaw10.MasterTurns'. -/
def masterTurnsCard : Claim7 := { stood := { row := masterTurnsRow, standIns := [], harness := (true, "fbc4cd2ed57b865b3ce4db9340db1b72fd7aa0f06b063b9f42e206a507b83cdc"), looks := false }, kinds := [], alts := [], laidByText := true, laidKinds := [.data, .data, .pinned], laidTests := true, laidLooks := .later }
def MasterTurnsCardSaid : Prop := Claim7.holds Tryd.pinned (.plain (OpenSpec.ofChange masterTurnsSpec)) masterTurnsCard

/-- THE TIED CARD OF 'tabularylaw10.MasterCrash'. -/
def masterCrashCard : Claim7 := { stood := { row := masterCrashRow, standIns := [], harness := (true, "fbc4cd2ed57b865b3ce4db9340db1b72fd7aa0f06b063b9f42e206a507b83cdc"), looks := false }, kinds := [], alts := [], laidByText := true, laidKinds := [.data, .data, .pinned], laidTests := true, laidLooks := .later }
def MasterCrashCardSaid : Prop := Claim7.holds Tryd.pinned (.plain (OpenSpec.ofChange masterCrashSpec)) masterCrashCard

/-- THE TIED CARD OF 'tabularylaw08.WalNobody'. -/
def walNobodyCard : Claim7 := { stood := { row := walNobodyRow, standIns := [], harness := (true, "fbc4cd2ed57b865b3ce4db9340db1b72fd7aa0f06b063b9f42e206a507b83cdc"), looks := false }, kinds := [], alts := [], laidByText := true, laidKinds := [.data, .data, .pinned], laidTests := true, laidLooks := .later }
def WalNobodyCardSaid : Prop := Claim7.holds Tryd.pinned (.plain (OpenSpec.ofChange walNobodySpec)) walNobodyCard

/-- THE TIED CARD OF 'tabularylaw08.WalFull'. -/
def walFullCard : Claim7 := { stood := { row := walFullRow, standIns := [], harness := (true, "fbc4cd2ed57b865b3ce4db9340db1b72fd7aa0f06b063b9f42e206a507b83cdc"), looks := false }, kinds := [], alts := [], laidByText := true, laidKinds := [.data, .data, .pinned], laidTests := true, laidLooks := .later }
def WalFullCardSaid : Prop := Claim7.holds Tryd.pinned (.plain (OpenSpec.ofChange walFullSpec)) walFullCard

/-- THE TIED CARD OF 'tabularylaw08.WalLasts'. -/
def walLastsCard : Claim7 := { stood := { row := walLastsRow, standIns := [], harness := (true, "fbc4cd2ed57b865b3ce4db9340db1b72fd7aa0f06b063b9f42e206a507b83cdc"), looks := false }, kinds := [], alts := [], laidByText := true, laidKinds := [.data, .data, .pinned], laidTests := true, laidLooks := .later }
def WalLastsCardSaid : Prop := Claim7.holds Tryd.pinned (.plain (OpenSpec.ofChange walLastsSpec)) walLastsCard

/-- THE TIED CARD OF 'tabularylaw08.WalEpochs'. -/
def walEpochsCard : Claim7 := { stood := { row := walEpochsRow, standIns := [], harness := (true, "fbc4cd2ed57b865b3ce4db9340db1b72fd7aa0f06b063b9f42e206a507b83cdc"), looks := false }, kinds := [], alts := [], laidByText := true, laidKinds := [.data, .data, .pinned], laidTests := true, laidLooks := .later }
def WalEpochsCardSaid : Prop := Claim7.holds Tryd.pinned (.plain (OpenSpec.ofChange walEpochsSpec)) walEpochsCard

/-- THE SECOND FORM's CARD OF 'tabularylaw10.MasterNobody'. -/
def masterNobodyUptoCard : Claim7 := { stood := { row := masterNobodyUptoRow, standIns := [], harness := (true, "fbc4cd2ed57b865b3ce4db9340db1b72fd7aa0f06b063b9f42e206a507b83cdc"), looks := false }, kinds := [], alts := [], laidByText := true, laidKinds := [.data, .data, .pinned], laidTests := true, laidLooks := .later }
def MasterNobodyUptoCardSaid : Prop := Claim7.holds Tryd.pinned (.plain (OpenSpec.upto masterNobodySpec)) masterNobodyUptoCard

/-- THE SECOND FORM's CARD OF 'tabularylaw10.MasterTurns'. -/
def masterTurnsUptoCard : Claim7 := { stood := { row := masterTurnsUptoRow, standIns := [], harness := (true, "fbc4cd2ed57b865b3ce4db9340db1b72fd7aa0f06b063b9f42e206a507b83cdc"), looks := false }, kinds := [], alts := [], laidByText := true, laidKinds := [.data, .data, .pinned], laidTests := true, laidLooks := .later }
def MasterTurnsUptoCardSaid : Prop := Claim7.holds Tryd.pinned (.plain (OpenSpec.upto masterTurnsSpec)) masterTurnsUptoCard

/-- THE SECOND FORM's CARD OF 'tabularylaw10.MasterCrash'. -/
def masterCrashUptoCard : Claim7 := { stood := { row := masterCrashUptoRow, standIns := [], harness := (true, "fbc4cd2ed57b865b3ce4db9340db1b72fd7aa0f06b063b9f42e206a507b83cdc"), looks := false }, kinds := [], alts := [], laidByText := true, laidKinds := [.data, .data, .pinned], laidTests := true, laidLooks := .later }
def MasterCrashUptoCardSaid : Prop := Claim7.holds Tryd.pinned (.plain (OpenSpec.upto masterCrashSpec)) masterCrashUptoCard

/-- THE SECOND FORM's CARD OF 'tabularylaw08.WalNobody'. -/
def walNobodyUptoCard : Claim7 := { stood := { row := walNobodyUptoRow, standIns := [], harness := (true, "fbc4cd2ed57b865b3ce4db9340db1b72fd7aa0f06b063b9f42e206a507b83cdc"), looks := false }, kinds := [], alts := [], laidByText := true, laidKinds := [.data, .data, .pinned], laidTests := true, laidLooks := .later }
def WalNobodyUptoCardSaid : Prop := Claim7.holds Tryd.pinned (.plain (OpenSpec.upto walNobodySpec)) walNobodyUptoCard

/-- THE SECOND FORM's CARD OF 'tabularylaw08.WalFull'. -/
def walFullUptoCard : Claim7 := { stood := { row := walFullUptoRow, standIns := [], harness := (true, "fbc4cd2ed57b865b3ce4db9340db1b72fd7aa0f06b063b9f42e206a507b83cdc"), looks := false }, kinds := [], alts := [], laidByText := true, laidKinds := [.data, .data, .pinned], laidTests := true, laidLooks := .later }
def WalFullUptoCardSaid : Prop := Claim7.holds Tryd.pinned (.plain (OpenSpec.upto walFullSpec)) walFullUptoCard

/-- THE SECOND FORM's CARD OF 'tabularylaw08.WalLasts'. -/
def walLastsUptoCard : Claim7 := { stood := { row := walLastsUptoRow, standIns := [], harness := (true, "fbc4cd2ed57b865b3ce4db9340db1b72fd7aa0f06b063b9f42e206a507b83cdc"), looks := false }, kinds := [], alts := [], laidByText := true, laidKinds := [.data, .data, .pinned], laidTests := true, laidLooks := .later }
def WalLastsUptoCardSaid : Prop := Claim7.holds Tryd.pinned (.plain (OpenSpec.upto walLastsSpec)) walLastsUptoCard

/-- THE SECOND FORM's CARD OF 'tabularylaw08.WalEpochs'. -/
def walEpochsUptoCard : Claim7 := { stood := { row := walEpochsUptoRow, standIns := [], harness := (true, "fbc4cd2ed57b865b3ce4db9340db1b72fd7aa0f06b063b9f42e206a507b83cdc"), looks := false }, kinds := [], alts := [], laidByText := true, laidKinds := [.data, .data, .pinned], laidTests := true, laidLooks := .later }
def WalEpochsUptoCardSaid : Prop := Claim7.holds Tryd.pinned (.plain (OpenSpec.upto walEpochsSpec)) walEpochsUptoCard
end Rows
end Go.Proofs.YtcgjejpekefjdaaDoor
