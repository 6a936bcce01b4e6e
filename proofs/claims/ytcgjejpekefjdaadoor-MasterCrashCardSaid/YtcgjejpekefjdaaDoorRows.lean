/-
  NARROWER THAN 'FOR EVERY INPUT', by the rows' own cells (each row's printed sentence says how): MasterNobody: laid · MasterTurns: laid · MasterCrash: laid · WalNobody: laid · WalFull: laid · WalLasts: laid · WalEpochs: laid.
  DERIVED. THE GIVEN ROWS OF THIS SEAT. 7 by the template 'for every input the law returns true; each argument reads behind the call as it read before'; 0 by the template 'total and deterministic' (their statements: YtcgjejpekefjdaaDoorTotals.lean).
  GIVEN WITH THE SEED: the statements are not yours to turn. If you find one false, say at which input.
  Laid BY PROGRAM, IN A SANDBOX (cutbox-rows.mjs): the forced cells as the released guide's own fill.sh prints them over the translation 92a8181373109849… (all of the seat's roots in one cut). By AI agents, Wed Nov 11 2026. No macro, syntax, notation, axiom, sorry.
-/
import Derived.Test.YtcgjejpekefjdaaDoorChecked
import GoSem.PinnedTables
import GoSem.Claim
import GoSem.ClaimJoined
import GoSem.ClaimMapViews
import Derived.JoinedTies
import Derived.KernelRfl
namespace Go.Proofs.YtcgjejpekefjdaaDoor
/- THE CELL 'sum', in the pinned program and in every row, IS THE sha256 OF THE DUMP (.gsa) THAT YtcgjejpekefjdaaDoorProg.lean LOADS. Nothing in Lean hashes anything: it is a label: what it is worth is what the hold of that sum in a sandbox is worth. -/
noncomputable def Tryd.pinned : Pinned := { name := "ytcgjejpekefjdaadoor", sum := "92a8181373109849ab2fac742e93f33c4696b2b590d90917f9f0075a0c399939", checked := Tryd.checked }
namespace Rows
def none {H : Type} : Left H := { results := [], args := [] }

/- WHAT THE LISTED PACKAGE-LEVEL VARIABLES READ AS WHEN THE CALL BEGINS. Each datum BY PROGRAM (the guide's laid-datum.mjs) off the statement by which the dump's own 'gosem.cut.vars' lays the variable. In a bare row this is a premise. The card (YtcgjejpekefjdaaDoorCards.lean) ties it to the program's text. -/
def laid_unicode_utf8_acceptRanges {H : Type} : DataW H := .agg [.agg [.lit (.int .u8 128), .lit (.int .u8 191)], .agg [.lit (.int .u8 160), .lit (.int .u8 191)], .agg [.lit (.int .u8 128), .lit (.int .u8 159)], .agg [.lit (.int .u8 144), .lit (.int .u8 191)], .agg [.lit (.int .u8 128), .lit (.int .u8 143)], .agg [.lit (.int .u8 0), .lit (.int .u8 0)], .agg [.lit (.int .u8 0), .lit (.int .u8 0)], .agg [.lit (.int .u8 0), .lit (.int .u8 0)], .agg [.lit (.int .u8 0), .lit (.int .u8 0)], .agg [.lit (.int .u8 0), .lit (.int .u8 0)], .agg [.lit (.int .u8 0), .lit (.int .u8 0)], .agg [.lit (.int .u8 0), .lit (.int .u8 0)], .agg [.lit (.int .u8 0), .lit (.int .u8 0)], .agg [.lit (.int .u8 0), .lit (.int .u8 0)], .agg [.lit (.int .u8 0), .lit (.int .u8 0)], .agg [.lit (.int .u8 0), .lit (.int .u8 0)]]
def laid_tabulary_crc_half {H : Type} : DataW H := .agg [.lit (.int .u32 0), .lit (.int .u32 498536548), .lit (.int .u32 997073096), .lit (.int .u32 651767980), .lit (.int .u32 1994146192), .lit (.int .u32 1802195444), .lit (.int .u32 1303535960), .lit (.int .u32 1342533948), .lit (.int .u32 3988292384), .lit (.int .u32 4027552580), .lit (.int .u32 3604390888), .lit (.int .u32 3412177804), .lit (.int .u32 2607071920), .lit (.int .u32 2262029012), .lit (.int .u32 2685067896), .lit (.int .u32 3183342108)]
/-- One of Go's own tables, pinned by name: the form's constant. -/
def laid_unicode_utf8_first : DataW Unit := Go.Pinned.utf8First

/-- 'tabularylaw10.MasterNobody': WHATEVER THE INPUT: true; the input reads as it did. -/
def masterNobodySpec : ChangeSpec := { name := "masterNobody", fn := fun _ => fun
  | [d1, d2, d3] => { results := [.lit (.bool true)], args := [d1, d2, d3] }
  | _ => none }
def masterNobodyRow : OpenClaim := { program := "ytcgjejpekefjdaadoor", sum := "92a8181373109849ab2fac742e93f33c4696b2b590d90917f9f0075a0c399939", func := "tabulary/tabularylaw10.MasterNobody", spec := "masterNobody", named := ["unicode/utf8.first", "unicode/utf8.acceptRanges", "tabulary/crc.half"], apart := false, laid := [("unicode/utf8.acceptRanges", laid_unicode_utf8_acceptRanges), ("tabulary/crc.half", laid_tabulary_crc_half), ("unicode/utf8.first", laid_unicode_utf8_first)] }
def MasterNobodySaid : Prop := masterNobodyRow.holds Tryd.pinned (OpenSpec.ofChange masterNobodySpec)

/-- ITS FALSE NEIGHBOUR: 'it returns false'. Refute it at one input. -/
def masterNobodyWrong : ChangeSpec := { name := "masterNobody", fn := fun _ => fun
  | [d1, d2, d3] => { results := [.lit (.bool false)], args := [d1, d2, d3] }
  | _ => none }
def MasterNobodyWrongFalsely : Prop := masterNobodyRow.holds Tryd.pinned (OpenSpec.ofChange masterNobodyWrong)

/-- 'tabularylaw10.MasterTurns': WHATEVER THE INPUT: true; the input reads as it did. -/
def masterTurnsSpec : ChangeSpec := { name := "masterTurns", fn := fun _ => fun
  | [d1, d2] => { results := [.lit (.bool true)], args := [d1, d2] }
  | _ => none }
def masterTurnsRow : OpenClaim := { program := "ytcgjejpekefjdaadoor", sum := "92a8181373109849ab2fac742e93f33c4696b2b590d90917f9f0075a0c399939", func := "tabulary/tabularylaw10.MasterTurns", spec := "masterTurns", named := ["unicode/utf8.first", "unicode/utf8.acceptRanges", "tabulary/crc.half"], apart := false, laid := [("unicode/utf8.acceptRanges", laid_unicode_utf8_acceptRanges), ("tabulary/crc.half", laid_tabulary_crc_half), ("unicode/utf8.first", laid_unicode_utf8_first)] }
def MasterTurnsSaid : Prop := masterTurnsRow.holds Tryd.pinned (OpenSpec.ofChange masterTurnsSpec)

/-- ITS FALSE NEIGHBOUR: 'it returns false'. Refute it at one input. -/
def masterTurnsWrong : ChangeSpec := { name := "masterTurns", fn := fun _ => fun
  | [d1, d2] => { results := [.lit (.bool false)], args := [d1, d2] }
  | _ => none }
def MasterTurnsWrongFalsely : Prop := masterTurnsRow.holds Tryd.pinned (OpenSpec.ofChange masterTurnsWrong)

/-- 'tabularylaw10.MasterCrash': WHATEVER THE INPUT: true; the input reads as it did. -/
def masterCrashSpec : ChangeSpec := { name := "masterCrash", fn := fun _ => fun
  | [d1, d2, d3, d4] => { results := [.lit (.bool true)], args := [d1, d2, d3, d4] }
  | _ => none }
def masterCrashRow : OpenClaim := { program := "ytcgjejpekefjdaadoor", sum := "92a8181373109849ab2fac742e93f33c4696b2b590d90917f9f0075a0c399939", func := "tabulary/tabularylaw10.MasterCrash", spec := "masterCrash", named := ["unicode/utf8.first", "unicode/utf8.acceptRanges", "tabulary/crc.half"], apart := false, laid := [("unicode/utf8.acceptRanges", laid_unicode_utf8_acceptRanges), ("tabulary/crc.half", laid_tabulary_crc_half), ("unicode/utf8.first", laid_unicode_utf8_first)] }
def MasterCrashSaid : Prop := masterCrashRow.holds Tryd.pinned (OpenSpec.ofChange masterCrashSpec)

/-- ITS FALSE NEIGHBOUR: 'it returns false'. Refute it at one input. -/
def masterCrashWrong : ChangeSpec := { name := "masterCrash", fn := fun _ => fun
  | [d1, d2, d3, d4] => { results := [.lit (.bool false)], args := [d1, d2, d3, d4] }
  | _ => none }
def MasterCrashWrongFalsely : Prop := masterCrashRow.holds Tryd.pinned (OpenSpec.ofChange masterCrashWrong)

/-- 'tabularylaw08.WalNobody': WHATEVER THE INPUT: true; the input reads as it did. -/
def walNobodySpec : ChangeSpec := { name := "walNobody", fn := fun _ => fun
  | [d1, d2, d3, d4] => { results := [.lit (.bool true)], args := [d1, d2, d3, d4] }
  | _ => none }
def walNobodyRow : OpenClaim := { program := "ytcgjejpekefjdaadoor", sum := "92a8181373109849ab2fac742e93f33c4696b2b590d90917f9f0075a0c399939", func := "tabulary/tabularylaw08.WalNobody", spec := "walNobody", named := ["unicode/utf8.first", "unicode/utf8.acceptRanges", "tabulary/crc.half"], apart := false, laid := [("unicode/utf8.acceptRanges", laid_unicode_utf8_acceptRanges), ("tabulary/crc.half", laid_tabulary_crc_half), ("unicode/utf8.first", laid_unicode_utf8_first)] }
def WalNobodySaid : Prop := walNobodyRow.holds Tryd.pinned (OpenSpec.ofChange walNobodySpec)

/-- ITS FALSE NEIGHBOUR: 'it returns false'. Refute it at one input. -/
def walNobodyWrong : ChangeSpec := { name := "walNobody", fn := fun _ => fun
  | [d1, d2, d3, d4] => { results := [.lit (.bool false)], args := [d1, d2, d3, d4] }
  | _ => none }
def WalNobodyWrongFalsely : Prop := walNobodyRow.holds Tryd.pinned (OpenSpec.ofChange walNobodyWrong)

/-- 'tabularylaw08.WalFull': WHATEVER THE INPUT: true; the input reads as it did. -/
def walFullSpec : ChangeSpec := { name := "walFull", fn := fun _ => fun
  | [d] => { results := [.lit (.bool true)], args := [d] }
  | _ => none }
def walFullRow : OpenClaim := { program := "ytcgjejpekefjdaadoor", sum := "92a8181373109849ab2fac742e93f33c4696b2b590d90917f9f0075a0c399939", func := "tabulary/tabularylaw08.WalFull", spec := "walFull", recurses := true, named := ["unicode/utf8.first", "unicode/utf8.acceptRanges", "tabulary/crc.half"], apart := false, laid := [("unicode/utf8.acceptRanges", laid_unicode_utf8_acceptRanges), ("tabulary/crc.half", laid_tabulary_crc_half), ("unicode/utf8.first", laid_unicode_utf8_first)] }
def WalFullSaid : Prop := walFullRow.holds Tryd.pinned (OpenSpec.ofChange walFullSpec)

/-- ITS FALSE NEIGHBOUR: 'it returns false'. Refute it at one input. -/
def walFullWrong : ChangeSpec := { name := "walFull", fn := fun _ => fun
  | [d] => { results := [.lit (.bool false)], args := [d] }
  | _ => none }
def WalFullWrongFalsely : Prop := walFullRow.holds Tryd.pinned (OpenSpec.ofChange walFullWrong)

/-- 'tabularylaw08.WalLasts': WHATEVER THE INPUT: true; the input reads as it did. -/
def walLastsSpec : ChangeSpec := { name := "walLasts", fn := fun _ => fun
  | [d1, d2, d3] => { results := [.lit (.bool true)], args := [d1, d2, d3] }
  | _ => none }
def walLastsRow : OpenClaim := { program := "ytcgjejpekefjdaadoor", sum := "92a8181373109849ab2fac742e93f33c4696b2b590d90917f9f0075a0c399939", func := "tabulary/tabularylaw08.WalLasts", spec := "walLasts", named := ["unicode/utf8.first", "unicode/utf8.acceptRanges", "tabulary/crc.half"], apart := false, laid := [("unicode/utf8.acceptRanges", laid_unicode_utf8_acceptRanges), ("tabulary/crc.half", laid_tabulary_crc_half), ("unicode/utf8.first", laid_unicode_utf8_first)] }
def WalLastsSaid : Prop := walLastsRow.holds Tryd.pinned (OpenSpec.ofChange walLastsSpec)

/-- ITS FALSE NEIGHBOUR: 'it returns false'. Refute it at one input. -/
def walLastsWrong : ChangeSpec := { name := "walLasts", fn := fun _ => fun
  | [d1, d2, d3] => { results := [.lit (.bool false)], args := [d1, d2, d3] }
  | _ => none }
def WalLastsWrongFalsely : Prop := walLastsRow.holds Tryd.pinned (OpenSpec.ofChange walLastsWrong)

/-- 'tabularylaw08.WalEpochs': WHATEVER THE INPUT: true; the input reads as it did. -/
def walEpochsSpec : ChangeSpec := { name := "walEpochs", fn := fun _ => fun
  | [d1, d2, d3] => { results := [.lit (.bool true)], args := [d1, d2, d3] }
  | _ => none }
def walEpochsRow : OpenClaim := { program := "ytcgjejpekefjdaadoor", sum := "92a8181373109849ab2fac742e93f33c4696b2b590d90917f9f0075a0c399939", func := "tabulary/tabularylaw08.WalEpochs", spec := "walEpochs", recurses := true, named := ["unicode/utf8.first", "unicode/utf8.acceptRanges", "tabulary/crc.half"], apart := false, laid := [("unicode/utf8.acceptRanges", laid_unicode_utf8_acceptRanges), ("tabulary/crc.half", laid_tabulary_crc_half), ("unicode/utf8.first", laid_unicode_utf8_first)] }
def WalEpochsSaid : Prop := walEpochsRow.holds Tryd.pinned (OpenSpec.ofChange walEpochsSpec)

/-- ITS FALSE NEIGHBOUR: 'it returns false'. Refute it at one input. -/
def walEpochsWrong : ChangeSpec := { name := "walEpochs", fn := fun _ => fun
  | [d1, d2, d3] => { results := [.lit (.bool false)], args := [d1, d2, d3] }
  | _ => none }
def WalEpochsWrongFalsely : Prop := walEpochsRow.holds Tryd.pinned (OpenSpec.ofChange walEpochsWrong)

/- THE SECOND FORM. 'bulk': how many values and letters a reading holds, each counted each time it is reached (what is shared counts as often as it is met; a slice's spare places count too). A statement '..UptoSaid' is the law's where the arguments, and the package variables that the reading takes, are together of bulk at most 1048576: NARROWER than '..Said'. Prove '..Said' where nothing that the law and all that it calls make is longer than what came in: it says more and counts as full. Else prove '..UptoSaid'. A law counts once. -/
mutual
def uptoBulk {H : Type} : DataW H → Nat
  | .lit (.string bytes) => bytes.length + 1
  | .lit _ => 1
  | .nil => 1
  | .ptr d => uptoBulk d + 1
  | .slice elems spare => uptoBulkAll elems + uptoBulkAll spare + 1
  | .agg parts => uptoBulkAll parts + 1
  | .iface _ d => uptoBulk d + 1
  | .map entries => uptoBulkEntries entries + 1
  | .held _ => 1
def uptoBulkAll {H : Type} : List (DataW H) → Nat
  | [] => 0
  | d :: r => uptoBulk d + uptoBulkAll r
def uptoBulkEntries {H : Type} : List (Lit × DataW H) → Nat
  | [] => 0
  | x :: r => uptoBulkEntry x + uptoBulkEntries r
def uptoBulkEntry {H : Type} : Lit × DataW H → Nat
  | (.string bytes, d) => bytes.length + uptoBulk d + 1
  | (_, d) => uptoBulk d + 1
 end
def uptoSmall : (H : Type) → List (DataW H) → Bool := fun _ ds => decide (uptoBulkAll ds ≤ 1048576)
def OpenSpec.upto (s : _root_.Go.ChangeSpec) : _root_.Go.OpenSpec := { _root_.Go.OpenSpec.ofChange s with cond := some uptoSmall }

/-- 'tabularylaw10.MasterNobody', WHERE WHAT IT READS IS OF BULK AT MOST 1048576: true; the input reads as it did. -/
def masterNobodyUptoRow : OpenClaim := { program := "ytcgjejpekefjdaadoor", sum := "92a8181373109849ab2fac742e93f33c4696b2b590d90917f9f0075a0c399939", func := "tabulary/tabularylaw10.MasterNobody", spec := "masterNobody", named := ["unicode/utf8.first", "unicode/utf8.acceptRanges", "tabulary/crc.half"], apart := false, laid := [("unicode/utf8.acceptRanges", laid_unicode_utf8_acceptRanges), ("tabulary/crc.half", laid_tabulary_crc_half), ("unicode/utf8.first", laid_unicode_utf8_first)], narrowed := true }
def MasterNobodyUptoSaid : Prop := masterNobodyUptoRow.holds Tryd.pinned (OpenSpec.upto masterNobodySpec)

/-- 'tabularylaw10.MasterTurns', WHERE WHAT IT READS IS OF BULK AT MOST 1048576: true; the input reads as it did. -/
def masterTurnsUptoRow : OpenClaim := { program := "ytcgjejpekefjdaadoor", sum := "92a8181373109849ab2fac742e93f33c4696b2b590d90917f9f0075a0c399939", func := "tabulary/tabularylaw10.MasterTurns", spec := "masterTurns", named := ["unicode/utf8.first", "unicode/utf8.acceptRanges", "tabulary/crc.half"], apart := false, laid := [("unicode/utf8.acceptRanges", laid_unicode_utf8_acceptRanges), ("tabulary/crc.half", laid_tabulary_crc_half), ("unicode/utf8.first", laid_unicode_utf8_first)], narrowed := true }
def MasterTurnsUptoSaid : Prop := masterTurnsUptoRow.holds Tryd.pinned (OpenSpec.upto masterTurnsSpec)

/-- 'tabularylaw10.MasterCrash', WHERE WHAT IT READS IS OF BULK AT MOST 1048576: true; the input reads as it did. -/
def masterCrashUptoRow : OpenClaim := { program := "ytcgjejpekefjdaadoor", sum := "92a8181373109849ab2fac742e93f33c4696b2b590d90917f9f0075a0c399939", func := "tabulary/tabularylaw10.MasterCrash", spec := "masterCrash", named := ["unicode/utf8.first", "unicode/utf8.acceptRanges", "tabulary/crc.half"], apart := false, laid := [("unicode/utf8.acceptRanges", laid_unicode_utf8_acceptRanges), ("tabulary/crc.half", laid_tabulary_crc_half), ("unicode/utf8.first", laid_unicode_utf8_first)], narrowed := true }
def MasterCrashUptoSaid : Prop := masterCrashUptoRow.holds Tryd.pinned (OpenSpec.upto masterCrashSpec)

/-- 'tabularylaw08.WalNobody', WHERE WHAT IT READS IS OF BULK AT MOST 1048576: true; the input reads as it did. -/
def walNobodyUptoRow : OpenClaim := { program := "ytcgjejpekefjdaadoor", sum := "92a8181373109849ab2fac742e93f33c4696b2b590d90917f9f0075a0c399939", func := "tabulary/tabularylaw08.WalNobody", spec := "walNobody", named := ["unicode/utf8.first", "unicode/utf8.acceptRanges", "tabulary/crc.half"], apart := false, laid := [("unicode/utf8.acceptRanges", laid_unicode_utf8_acceptRanges), ("tabulary/crc.half", laid_tabulary_crc_half), ("unicode/utf8.first", laid_unicode_utf8_first)], narrowed := true }
def WalNobodyUptoSaid : Prop := walNobodyUptoRow.holds Tryd.pinned (OpenSpec.upto walNobodySpec)

/-- 'tabularylaw08.WalFull', WHERE WHAT IT READS IS OF BULK AT MOST 1048576: true; the input reads as it did. -/
def walFullUptoRow : OpenClaim := { program := "ytcgjejpekefjdaadoor", sum := "92a8181373109849ab2fac742e93f33c4696b2b590d90917f9f0075a0c399939", func := "tabulary/tabularylaw08.WalFull", spec := "walFull", recurses := true, named := ["unicode/utf8.first", "unicode/utf8.acceptRanges", "tabulary/crc.half"], apart := false, laid := [("unicode/utf8.acceptRanges", laid_unicode_utf8_acceptRanges), ("tabulary/crc.half", laid_tabulary_crc_half), ("unicode/utf8.first", laid_unicode_utf8_first)], narrowed := true }
def WalFullUptoSaid : Prop := walFullUptoRow.holds Tryd.pinned (OpenSpec.upto walFullSpec)

/-- 'tabularylaw08.WalLasts', WHERE WHAT IT READS IS OF BULK AT MOST 1048576: true; the input reads as it did. -/
def walLastsUptoRow : OpenClaim := { program := "ytcgjejpekefjdaadoor", sum := "92a8181373109849ab2fac742e93f33c4696b2b590d90917f9f0075a0c399939", func := "tabulary/tabularylaw08.WalLasts", spec := "walLasts", named := ["unicode/utf8.first", "unicode/utf8.acceptRanges", "tabulary/crc.half"], apart := false, laid := [("unicode/utf8.acceptRanges", laid_unicode_utf8_acceptRanges), ("tabulary/crc.half", laid_tabulary_crc_half), ("unicode/utf8.first", laid_unicode_utf8_first)], narrowed := true }
def WalLastsUptoSaid : Prop := walLastsUptoRow.holds Tryd.pinned (OpenSpec.upto walLastsSpec)

/-- 'tabularylaw08.WalEpochs', WHERE WHAT IT READS IS OF BULK AT MOST 1048576: true; the input reads as it did. -/
def walEpochsUptoRow : OpenClaim := { program := "ytcgjejpekefjdaadoor", sum := "92a8181373109849ab2fac742e93f33c4696b2b590d90917f9f0075a0c399939", func := "tabulary/tabularylaw08.WalEpochs", spec := "walEpochs", recurses := true, named := ["unicode/utf8.first", "unicode/utf8.acceptRanges", "tabulary/crc.half"], apart := false, laid := [("unicode/utf8.acceptRanges", laid_unicode_utf8_acceptRanges), ("tabulary/crc.half", laid_tabulary_crc_half), ("unicode/utf8.first", laid_unicode_utf8_first)], narrowed := true }
def WalEpochsUptoSaid : Prop := walEpochsUptoRow.holds Tryd.pinned (OpenSpec.upto walEpochsSpec)

end Rows
end Go.Proofs.YtcgjejpekefjdaaDoor
