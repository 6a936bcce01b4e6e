/-
  NARROWER THAN 'FOR EVERY INPUT', by the rows' own cells (each row's printed sentence says how): PageFills: laid · StampWraps: laid · StampOpens: laid · StampBursts: laid · StampTears: laid · StampWhole: laid · PageBack: laid · PageOpens: laid · PageBursts: laid · PageOnly: laid.
  DERIVED. THE GIVEN ROWS OF THIS SEAT. 10 by the template 'for every input the law returns true; each argument reads behind the call as it read before'; 0 by the template 'total and deterministic' (their statements: YtibhoekbjgoanaaDoorTotals.lean).
  GIVEN WITH THE SEED: the statements are not yours to turn. If you find one false, say at which input.
  Laid BY PROGRAM, IN A SANDBOX (cutbox-rows.mjs): the forced cells as the released guide's own fill.sh prints them over the translation 26ee385876ac840e… (all of the seat's roots in one cut). By AI agents, Wed Nov 11 2026. No macro, syntax, notation, axiom, sorry.
-/
import Derived.Test.YtibhoekbjgoanaaDoorChecked
import GoSem.PinnedTables
import GoSem.Claim
import GoSem.ClaimJoined
import GoSem.ClaimMapViews
import Derived.JoinedTies
import Derived.KernelRfl
namespace Go.Proofs.YtibhoekbjgoanaaDoor
/- THE CELL 'sum', in the pinned program and in every row, IS THE sha256 OF THE DUMP (.gsa) THAT YtibhoekbjgoanaaDoorProg.lean LOADS. Nothing in Lean hashes anything: it is a label: what it is worth is what the hold of that sum in a sandbox is worth. -/
noncomputable def Tryd.pinned : Pinned := { name := "ytibhoekbjgoanaadoor", sum := "26ee385876ac840ed9ca7509ee4ba639131336e905072bc2a90978f9bb09c2e5", checked := Tryd.checked }
namespace Rows
def none {H : Type} : Left H := { results := [], args := [] }

/- WHAT THE LISTED PACKAGE-LEVEL VARIABLES READ AS WHEN THE CALL BEGINS. Each datum BY PROGRAM (the guide's laid-datum.mjs) off the statement by which the dump's own 'gosem.cut.vars' lays the variable. In a bare row this is a premise. The card (YtibhoekbjgoanaaDoorCards.lean) ties it to the program's text. -/
def laid_unicode_utf8_acceptRanges {H : Type} : DataW H := .agg [.agg [.lit (.int .u8 128), .lit (.int .u8 191)], .agg [.lit (.int .u8 160), .lit (.int .u8 191)], .agg [.lit (.int .u8 128), .lit (.int .u8 159)], .agg [.lit (.int .u8 144), .lit (.int .u8 191)], .agg [.lit (.int .u8 128), .lit (.int .u8 143)], .agg [.lit (.int .u8 0), .lit (.int .u8 0)], .agg [.lit (.int .u8 0), .lit (.int .u8 0)], .agg [.lit (.int .u8 0), .lit (.int .u8 0)], .agg [.lit (.int .u8 0), .lit (.int .u8 0)], .agg [.lit (.int .u8 0), .lit (.int .u8 0)], .agg [.lit (.int .u8 0), .lit (.int .u8 0)], .agg [.lit (.int .u8 0), .lit (.int .u8 0)], .agg [.lit (.int .u8 0), .lit (.int .u8 0)], .agg [.lit (.int .u8 0), .lit (.int .u8 0)], .agg [.lit (.int .u8 0), .lit (.int .u8 0)], .agg [.lit (.int .u8 0), .lit (.int .u8 0)]]
/-- One of Go's own tables, pinned by name: the form's constant. -/
def laid_unicode_utf8_first : DataW Unit := Go.Pinned.utf8First
def laid_tabulary_crc_half {H : Type} : DataW H := .agg [.lit (.int .u32 0), .lit (.int .u32 498536548), .lit (.int .u32 997073096), .lit (.int .u32 651767980), .lit (.int .u32 1994146192), .lit (.int .u32 1802195444), .lit (.int .u32 1303535960), .lit (.int .u32 1342533948), .lit (.int .u32 3988292384), .lit (.int .u32 4027552580), .lit (.int .u32 3604390888), .lit (.int .u32 3412177804), .lit (.int .u32 2607071920), .lit (.int .u32 2262029012), .lit (.int .u32 2685067896), .lit (.int .u32 3183342108)]

/-- 'tabularylaw09.PageFills': WHATEVER THE INPUT: true; the input reads as it did. -/
def pageFillsSpec : ChangeSpec := { name := "pageFills", fn := fun _ => fun
  | [d1, d2, d3] => { results := [.lit (.bool true)], args := [d1, d2, d3] }
  | _ => none }
def pageFillsRow : OpenClaim := { program := "ytibhoekbjgoanaadoor", sum := "26ee385876ac840ed9ca7509ee4ba639131336e905072bc2a90978f9bb09c2e5", func := "tabulary/tabularylaw09.PageFills", spec := "pageFills", named := ["unicode/utf8.first", "unicode/utf8.acceptRanges"], apart := false, laid := [("unicode/utf8.acceptRanges", laid_unicode_utf8_acceptRanges), ("unicode/utf8.first", laid_unicode_utf8_first)] }
def PageFillsSaid : Prop := pageFillsRow.holds Tryd.pinned (OpenSpec.ofChange pageFillsSpec)

/-- ITS FALSE NEIGHBOUR: 'it returns false'. Refute it at one input. -/
def pageFillsWrong : ChangeSpec := { name := "pageFills", fn := fun _ => fun
  | [d1, d2, d3] => { results := [.lit (.bool false)], args := [d1, d2, d3] }
  | _ => none }
def PageFillsWrongFalsely : Prop := pageFillsRow.holds Tryd.pinned (OpenSpec.ofChange pageFillsWrong)

/-- 'tabularylaw07.StampWraps': WHATEVER THE INPUT: true; the input reads as it did. -/
def stampWrapsSpec : ChangeSpec := { name := "stampWraps", fn := fun _ => fun
  | [d1, d2, d3] => { results := [.lit (.bool true)], args := [d1, d2, d3] }
  | _ => none }
def stampWrapsRow : OpenClaim := { program := "ytibhoekbjgoanaadoor", sum := "26ee385876ac840ed9ca7509ee4ba639131336e905072bc2a90978f9bb09c2e5", func := "tabulary/tabularylaw07.StampWraps", spec := "stampWraps", named := ["tabulary/crc.half", "unicode/utf8.first", "unicode/utf8.acceptRanges"], apart := false, laid := [("unicode/utf8.acceptRanges", laid_unicode_utf8_acceptRanges), ("tabulary/crc.half", laid_tabulary_crc_half), ("unicode/utf8.first", laid_unicode_utf8_first)] }
def StampWrapsSaid : Prop := stampWrapsRow.holds Tryd.pinned (OpenSpec.ofChange stampWrapsSpec)

/-- ITS FALSE NEIGHBOUR: 'it returns false'. Refute it at one input. -/
def stampWrapsWrong : ChangeSpec := { name := "stampWraps", fn := fun _ => fun
  | [d1, d2, d3] => { results := [.lit (.bool false)], args := [d1, d2, d3] }
  | _ => none }
def StampWrapsWrongFalsely : Prop := stampWrapsRow.holds Tryd.pinned (OpenSpec.ofChange stampWrapsWrong)

/-- 'tabularylaw07.StampOpens': WHATEVER THE INPUT: true; the input reads as it did. -/
def stampOpensSpec : ChangeSpec := { name := "stampOpens", fn := fun _ => fun
  | [d] => { results := [.lit (.bool true)], args := [d] }
  | _ => none }
def stampOpensRow : OpenClaim := { program := "ytibhoekbjgoanaadoor", sum := "26ee385876ac840ed9ca7509ee4ba639131336e905072bc2a90978f9bb09c2e5", func := "tabulary/tabularylaw07.StampOpens", spec := "stampOpens", named := ["unicode/utf8.first", "unicode/utf8.acceptRanges", "tabulary/crc.half"], apart := false, laid := [("unicode/utf8.acceptRanges", laid_unicode_utf8_acceptRanges), ("tabulary/crc.half", laid_tabulary_crc_half), ("unicode/utf8.first", laid_unicode_utf8_first)] }
def StampOpensSaid : Prop := stampOpensRow.holds Tryd.pinned (OpenSpec.ofChange stampOpensSpec)

/-- ITS FALSE NEIGHBOUR: 'it returns false'. Refute it at one input. -/
def stampOpensWrong : ChangeSpec := { name := "stampOpens", fn := fun _ => fun
  | [d] => { results := [.lit (.bool false)], args := [d] }
  | _ => none }
def StampOpensWrongFalsely : Prop := stampOpensRow.holds Tryd.pinned (OpenSpec.ofChange stampOpensWrong)

/-- 'tabularylaw07.StampBursts': WHATEVER THE INPUT: true; the input reads as it did. -/
def stampBurstsSpec : ChangeSpec := { name := "stampBursts", fn := fun _ => fun
  | [d1, d2, d3, d4] => { results := [.lit (.bool true)], args := [d1, d2, d3, d4] }
  | _ => none }
def stampBurstsRow : OpenClaim := { program := "ytibhoekbjgoanaadoor", sum := "26ee385876ac840ed9ca7509ee4ba639131336e905072bc2a90978f9bb09c2e5", func := "tabulary/tabularylaw07.StampBursts", spec := "stampBursts", named := ["tabulary/crc.half", "unicode/utf8.first", "unicode/utf8.acceptRanges"], apart := false, laid := [("unicode/utf8.acceptRanges", laid_unicode_utf8_acceptRanges), ("tabulary/crc.half", laid_tabulary_crc_half), ("unicode/utf8.first", laid_unicode_utf8_first)] }
def StampBurstsSaid : Prop := stampBurstsRow.holds Tryd.pinned (OpenSpec.ofChange stampBurstsSpec)

/-- ITS FALSE NEIGHBOUR: 'it returns false'. Refute it at one input. -/
def stampBurstsWrong : ChangeSpec := { name := "stampBursts", fn := fun _ => fun
  | [d1, d2, d3, d4] => { results := [.lit (.bool false)], args := [d1, d2, d3, d4] }
  | _ => none }
def StampBurstsWrongFalsely : Prop := stampBurstsRow.holds Tryd.pinned (OpenSpec.ofChange stampBurstsWrong)

/-- 'tabularylaw07.StampTears': WHATEVER THE INPUT: true; the input reads as it did. -/
def stampTearsSpec : ChangeSpec := { name := "stampTears", fn := fun _ => fun
  | [d1, d2, d3] => { results := [.lit (.bool true)], args := [d1, d2, d3] }
  | _ => none }
def stampTearsRow : OpenClaim := { program := "ytibhoekbjgoanaadoor", sum := "26ee385876ac840ed9ca7509ee4ba639131336e905072bc2a90978f9bb09c2e5", func := "tabulary/tabularylaw07.StampTears", spec := "stampTears", named := ["tabulary/crc.half", "unicode/utf8.first", "unicode/utf8.acceptRanges"], apart := false, laid := [("unicode/utf8.acceptRanges", laid_unicode_utf8_acceptRanges), ("tabulary/crc.half", laid_tabulary_crc_half), ("unicode/utf8.first", laid_unicode_utf8_first)] }
def StampTearsSaid : Prop := stampTearsRow.holds Tryd.pinned (OpenSpec.ofChange stampTearsSpec)

/-- ITS FALSE NEIGHBOUR: 'it returns false'. Refute it at one input. -/
def stampTearsWrong : ChangeSpec := { name := "stampTears", fn := fun _ => fun
  | [d1, d2, d3] => { results := [.lit (.bool false)], args := [d1, d2, d3] }
  | _ => none }
def StampTearsWrongFalsely : Prop := stampTearsRow.holds Tryd.pinned (OpenSpec.ofChange stampTearsWrong)

/-- 'tabularylaw07.StampWhole': WHATEVER THE INPUT: true; the input reads as it did. -/
def stampWholeSpec : ChangeSpec := { name := "stampWhole", fn := fun _ => fun
  | [d1, d2, d3, d4, d5] => { results := [.lit (.bool true)], args := [d1, d2, d3, d4, d5] }
  | _ => none }
def stampWholeRow : OpenClaim := { program := "ytibhoekbjgoanaadoor", sum := "26ee385876ac840ed9ca7509ee4ba639131336e905072bc2a90978f9bb09c2e5", func := "tabulary/tabularylaw07.StampWhole", spec := "stampWhole", named := ["tabulary/crc.half", "unicode/utf8.first", "unicode/utf8.acceptRanges"], apart := false, laid := [("unicode/utf8.acceptRanges", laid_unicode_utf8_acceptRanges), ("tabulary/crc.half", laid_tabulary_crc_half), ("unicode/utf8.first", laid_unicode_utf8_first)] }
def StampWholeSaid : Prop := stampWholeRow.holds Tryd.pinned (OpenSpec.ofChange stampWholeSpec)

/-- ITS FALSE NEIGHBOUR: 'it returns false'. Refute it at one input. -/
def stampWholeWrong : ChangeSpec := { name := "stampWhole", fn := fun _ => fun
  | [d1, d2, d3, d4, d5] => { results := [.lit (.bool false)], args := [d1, d2, d3, d4, d5] }
  | _ => none }
def StampWholeWrongFalsely : Prop := stampWholeRow.holds Tryd.pinned (OpenSpec.ofChange stampWholeWrong)

/-- 'tabularylaw09.PageBack': WHATEVER THE INPUT: true; the input reads as it did. -/
def pageBackSpec : ChangeSpec := { name := "pageBack", fn := fun _ => fun
  | [d1, d2, d3, d4] => { results := [.lit (.bool true)], args := [d1, d2, d3, d4] }
  | _ => none }
def pageBackRow : OpenClaim := { program := "ytibhoekbjgoanaadoor", sum := "26ee385876ac840ed9ca7509ee4ba639131336e905072bc2a90978f9bb09c2e5", func := "tabulary/tabularylaw09.PageBack", spec := "pageBack", named := ["unicode/utf8.first", "unicode/utf8.acceptRanges"], apart := false, laid := [("unicode/utf8.acceptRanges", laid_unicode_utf8_acceptRanges), ("unicode/utf8.first", laid_unicode_utf8_first)] }
def PageBackSaid : Prop := pageBackRow.holds Tryd.pinned (OpenSpec.ofChange pageBackSpec)

/-- ITS FALSE NEIGHBOUR: 'it returns false'. Refute it at one input. -/
def pageBackWrong : ChangeSpec := { name := "pageBack", fn := fun _ => fun
  | [d1, d2, d3, d4] => { results := [.lit (.bool false)], args := [d1, d2, d3, d4] }
  | _ => none }
def PageBackWrongFalsely : Prop := pageBackRow.holds Tryd.pinned (OpenSpec.ofChange pageBackWrong)

/-- 'tabularylaw09.PageOpens': WHATEVER THE INPUT: true; the input reads as it did. -/
def pageOpensSpec : ChangeSpec := { name := "pageOpens", fn := fun _ => fun
  | [d1, d2] => { results := [.lit (.bool true)], args := [d1, d2] }
  | _ => none }
def pageOpensRow : OpenClaim := { program := "ytibhoekbjgoanaadoor", sum := "26ee385876ac840ed9ca7509ee4ba639131336e905072bc2a90978f9bb09c2e5", func := "tabulary/tabularylaw09.PageOpens", spec := "pageOpens", named := ["unicode/utf8.first", "unicode/utf8.acceptRanges", "tabulary/crc.half"], apart := false, laid := [("unicode/utf8.acceptRanges", laid_unicode_utf8_acceptRanges), ("tabulary/crc.half", laid_tabulary_crc_half), ("unicode/utf8.first", laid_unicode_utf8_first)] }
def PageOpensSaid : Prop := pageOpensRow.holds Tryd.pinned (OpenSpec.ofChange pageOpensSpec)

/-- ITS FALSE NEIGHBOUR: 'it returns false'. Refute it at one input. -/
def pageOpensWrong : ChangeSpec := { name := "pageOpens", fn := fun _ => fun
  | [d1, d2] => { results := [.lit (.bool false)], args := [d1, d2] }
  | _ => none }
def PageOpensWrongFalsely : Prop := pageOpensRow.holds Tryd.pinned (OpenSpec.ofChange pageOpensWrong)

/-- 'tabularylaw09.PageBursts': WHATEVER THE INPUT: true; the input reads as it did. -/
def pageBurstsSpec : ChangeSpec := { name := "pageBursts", fn := fun _ => fun
  | [d1, d2, d3] => { results := [.lit (.bool true)], args := [d1, d2, d3] }
  | _ => none }
def pageBurstsRow : OpenClaim := { program := "ytibhoekbjgoanaadoor", sum := "26ee385876ac840ed9ca7509ee4ba639131336e905072bc2a90978f9bb09c2e5", func := "tabulary/tabularylaw09.PageBursts", spec := "pageBursts", named := ["unicode/utf8.first", "unicode/utf8.acceptRanges", "tabulary/crc.half"], apart := false, laid := [("unicode/utf8.acceptRanges", laid_unicode_utf8_acceptRanges), ("tabulary/crc.half", laid_tabulary_crc_half), ("unicode/utf8.first", laid_unicode_utf8_first)] }
def PageBurstsSaid : Prop := pageBurstsRow.holds Tryd.pinned (OpenSpec.ofChange pageBurstsSpec)

/-- ITS FALSE NEIGHBOUR: 'it returns false'. Refute it at one input. -/
def pageBurstsWrong : ChangeSpec := { name := "pageBursts", fn := fun _ => fun
  | [d1, d2, d3] => { results := [.lit (.bool false)], args := [d1, d2, d3] }
  | _ => none }
def PageBurstsWrongFalsely : Prop := pageBurstsRow.holds Tryd.pinned (OpenSpec.ofChange pageBurstsWrong)

/-- 'tabularylaw09.PageOnly': WHATEVER THE INPUT: true; the input reads as it did. -/
def pageOnlySpec : ChangeSpec := { name := "pageOnly", fn := fun _ => fun
  | [d1, d2] => { results := [.lit (.bool true)], args := [d1, d2] }
  | _ => none }
def pageOnlyRow : OpenClaim := { program := "ytibhoekbjgoanaadoor", sum := "26ee385876ac840ed9ca7509ee4ba639131336e905072bc2a90978f9bb09c2e5", func := "tabulary/tabularylaw09.PageOnly", spec := "pageOnly", named := ["unicode/utf8.first", "unicode/utf8.acceptRanges", "tabulary/crc.half"], apart := false, laid := [("unicode/utf8.acceptRanges", laid_unicode_utf8_acceptRanges), ("tabulary/crc.half", laid_tabulary_crc_half), ("unicode/utf8.first", laid_unicode_utf8_first)] }
def PageOnlySaid : Prop := pageOnlyRow.holds Tryd.pinned (OpenSpec.ofChange pageOnlySpec)

/-- ITS FALSE NEIGHBOUR: 'it returns false'. Refute it at one input. -/
def pageOnlyWrong : ChangeSpec := { name := "pageOnly", fn := fun _ => fun
  | [d1, d2] => { results := [.lit (.bool false)], args := [d1, d2] }
  | _ => none }
def PageOnlyWrongFalsely : Prop := pageOnlyRow.holds Tryd.pinned (OpenSpec.ofChange pageOnlyWrong)

/- THE SECOND FORM. 'bulk': how many values and letters a reading holds, each counted each time it is reached (what is shared counts as often as it is met; a slice's spare places count too). A statement '..UptoSaid' is the law's where the arguments, and the package variables that the reading takes, are together of bulk at most 1048576: NARROWER than '..Said'. Prove '..Said' where nothing that the law and all that it calls make is longer than what came in: it says more and counts as full. Else prove '..UptoSaid'. A law counts once. -/
mutual
def uptoBulk {H : Type} : DataW H → Nat
  | .lit (.string bytes) => bytes.length + 1
  | .lit _ => 1
  | .nil => 1
  | .ptr d => uptoBulk d + 1
  | .slice elems spare => uptoBulkAll elems + uptoBulkAll spare + 1
  | .agg parts => uptoBulkAll parts + 1
  | .iface _ d => uptoBulk d + 1
  | .map entries => uptoBulkEntries entries + 1
  | .held _ => 1
def uptoBulkAll {H : Type} : List (DataW H) → Nat
  | [] => 0
  | d :: r => uptoBulk d + uptoBulkAll r
def uptoBulkEntries {H : Type} : List (Lit × DataW H) → Nat
  | [] => 0
  | x :: r => uptoBulkEntry x + uptoBulkEntries r
def uptoBulkEntry {H : Type} : Lit × DataW H → Nat
  | (.string bytes, d) => bytes.length + uptoBulk d + 1
  | (_, d) => uptoBulk d + 1
 end
def uptoSmall : (H : Type) → List (DataW H) → Bool := fun _ ds => decide (uptoBulkAll ds ≤ 1048576)
def OpenSpec.upto (s : _root_.Go.ChangeSpec) : _root_.Go.OpenSpec := { _root_.Go.OpenSpec.ofChange s with cond := some uptoSmall }

/-- 'tabularylaw09.PageFills', WHERE WHAT IT READS IS OF BULK AT MOST 1048576: true; the input reads as it did. -/
def pageFillsUptoRow : OpenClaim := { program := "ytibhoekbjgoanaadoor", sum := "26ee385876ac840ed9ca7509ee4ba639131336e905072bc2a90978f9bb09c2e5", func := "tabulary/tabularylaw09.PageFills", spec := "pageFills", named := ["unicode/utf8.first", "unicode/utf8.acceptRanges"], apart := false, laid := [("unicode/utf8.acceptRanges", laid_unicode_utf8_acceptRanges), ("unicode/utf8.first", laid_unicode_utf8_first)], narrowed := true }
def PageFillsUptoSaid : Prop := pageFillsUptoRow.holds Tryd.pinned (OpenSpec.upto pageFillsSpec)

/-- 'tabularylaw07.StampWraps', WHERE WHAT IT READS IS OF BULK AT MOST 1048576: true; the input reads as it did. -/
def stampWrapsUptoRow : OpenClaim := { program := "ytibhoekbjgoanaadoor", sum := "26ee385876ac840ed9ca7509ee4ba639131336e905072bc2a90978f9bb09c2e5", func := "tabulary/tabularylaw07.StampWraps", spec := "stampWraps", named := ["tabulary/crc.half", "unicode/utf8.first", "unicode/utf8.acceptRanges"], apart := false, laid := [("unicode/utf8.acceptRanges", laid_unicode_utf8_acceptRanges), ("tabulary/crc.half", laid_tabulary_crc_half), ("unicode/utf8.first", laid_unicode_utf8_first)], narrowed := true }
def StampWrapsUptoSaid : Prop := stampWrapsUptoRow.holds Tryd.pinned (OpenSpec.upto stampWrapsSpec)

/-- 'tabularylaw07.StampOpens', WHERE WHAT IT READS IS OF BULK AT MOST 1048576: true; the input reads as it did. -/
def stampOpensUptoRow : OpenClaim := { program := "ytibhoekbjgoanaadoor", sum := "26ee385876ac840ed9ca7509ee4ba639131336e905072bc2a90978f9bb09c2e5", func := "tabulary/tabularylaw07.StampOpens", spec := "stampOpens", named := ["unicode/utf8.first", "unicode/utf8.acceptRanges", "tabulary/crc.half"], apart := false, laid := [("unicode/utf8.acceptRanges", laid_unicode_utf8_acceptRanges), ("tabulary/crc.half", laid_tabulary_crc_half), ("unicode/utf8.first", laid_unicode_utf8_first)], narrowed := true }
def StampOpensUptoSaid : Prop := stampOpensUptoRow.holds Tryd.pinned (OpenSpec.upto stampOpensSpec)

/-- 'tabularylaw07.StampBursts', WHERE WHAT IT READS IS OF BULK AT MOST 1048576: true; the input reads as it did. -/
def stampBurstsUptoRow : OpenClaim := { program := "ytibhoekbjgoanaadoor", sum := "26ee385876ac840ed9ca7509ee4ba639131336e905072bc2a90978f9bb09c2e5", func := "tabulary/tabularylaw07.StampBursts", spec := "stampBursts", named := ["tabulary/crc.half", "unicode/utf8.first", "unicode/utf8.acceptRanges"], apart := false, laid := [("unicode/utf8.acceptRanges", laid_unicode_utf8_acceptRanges), ("tabulary/crc.half", laid_tabulary_crc_half), ("unicode/utf8.first", laid_unicode_utf8_first)], narrowed := true }
def StampBurstsUptoSaid : Prop := stampBurstsUptoRow.holds Tryd.pinned (OpenSpec.upto stampBurstsSpec)

/-- 'tabularylaw07.StampTears', WHERE WHAT IT READS IS OF BULK AT MOST 1048576: true; the input reads as it did. -/
def stampTearsUptoRow : OpenClaim := { program := "ytibhoekbjgoanaadoor", sum := "26ee385876ac840ed9ca7509ee4ba639131336e905072bc2a90978f9bb09c2e5", func := "tabulary/tabularylaw07.StampTears", spec := "stampTears", named := ["tabulary/crc.half", "unicode/utf8.first", "unicode/utf8.acceptRanges"], apart := false, laid := [("unicode/utf8.acceptRanges", laid_unicode_utf8_acceptRanges), ("tabulary/crc.half", laid_tabulary_crc_half), ("unicode/utf8.first", laid_unicode_utf8_first)], narrowed := true }
def StampTearsUptoSaid : Prop := stampTearsUptoRow.holds Tryd.pinned (OpenSpec.upto stampTearsSpec)

/-- 'tabularylaw07.StampWhole', WHERE WHAT IT READS IS OF BULK AT MOST 1048576: true; the input reads as it did. -/
def stampWholeUptoRow : OpenClaim := { program := "ytibhoekbjgoanaadoor", sum := "26ee385876ac840ed9ca7509ee4ba639131336e905072bc2a90978f9bb09c2e5", func := "tabulary/tabularylaw07.StampWhole", spec := "stampWhole", named := ["tabulary/crc.half", "unicode/utf8.first", "unicode/utf8.acceptRanges"], apart := false, laid := [("unicode/utf8.acceptRanges", laid_unicode_utf8_acceptRanges), ("tabulary/crc.half", laid_tabulary_crc_half), ("unicode/utf8.first", laid_unicode_utf8_first)], narrowed := true }
def StampWholeUptoSaid : Prop := stampWholeUptoRow.holds Tryd.pinned (OpenSpec.upto stampWholeSpec)

/-- 'tabularylaw09.PageBack', WHERE WHAT IT READS IS OF BULK AT MOST 1048576: true; the input reads as it did. -/
def pageBackUptoRow : OpenClaim := { program := "ytibhoekbjgoanaadoor", sum := "26ee385876ac840ed9ca7509ee4ba639131336e905072bc2a90978f9bb09c2e5", func := "tabulary/tabularylaw09.PageBack", spec := "pageBack", named := ["unicode/utf8.first", "unicode/utf8.acceptRanges"], apart := false, laid := [("unicode/utf8.acceptRanges", laid_unicode_utf8_acceptRanges), ("unicode/utf8.first", laid_unicode_utf8_first)], narrowed := true }
def PageBackUptoSaid : Prop := pageBackUptoRow.holds Tryd.pinned (OpenSpec.upto pageBackSpec)

/-- 'tabularylaw09.PageOpens', WHERE WHAT IT READS IS OF BULK AT MOST 1048576: true; the input reads as it did. -/
def pageOpensUptoRow : OpenClaim := { program := "ytibhoekbjgoanaadoor", sum := "26ee385876ac840ed9ca7509ee4ba639131336e905072bc2a90978f9bb09c2e5", func := "tabulary/tabularylaw09.PageOpens", spec := "pageOpens", named := ["unicode/utf8.first", "unicode/utf8.acceptRanges", "tabulary/crc.half"], apart := false, laid := [("unicode/utf8.acceptRanges", laid_unicode_utf8_acceptRanges), ("tabulary/crc.half", laid_tabulary_crc_half), ("unicode/utf8.first", laid_unicode_utf8_first)], narrowed := true }
def PageOpensUptoSaid : Prop := pageOpensUptoRow.holds Tryd.pinned (OpenSpec.upto pageOpensSpec)

/-- 'tabularylaw09.PageBursts', WHERE WHAT IT READS IS OF BULK AT MOST 1048576: true; the input reads as it did. -/
def pageBurstsUptoRow : OpenClaim := { program := "ytibhoekbjgoanaadoor", sum := "26ee385876ac840ed9ca7509ee4ba639131336e905072bc2a90978f9bb09c2e5", func := "tabulary/tabularylaw09.PageBursts", spec := "pageBursts", named := ["unicode/utf8.first", "unicode/utf8.acceptRanges", "tabulary/crc.half"], apart := false, laid := [("unicode/utf8.acceptRanges", laid_unicode_utf8_acceptRanges), ("tabulary/crc.half", laid_tabulary_crc_half), ("unicode/utf8.first", laid_unicode_utf8_first)], narrowed := true }
def PageBurstsUptoSaid : Prop := pageBurstsUptoRow.holds Tryd.pinned (OpenSpec.upto pageBurstsSpec)

/-- 'tabularylaw09.PageOnly', WHERE WHAT IT READS IS OF BULK AT MOST 1048576: true; the input reads as it did. -/
def pageOnlyUptoRow : OpenClaim := { program := "ytibhoekbjgoanaadoor", sum := "26ee385876ac840ed9ca7509ee4ba639131336e905072bc2a90978f9bb09c2e5", func := "tabulary/tabularylaw09.PageOnly", spec := "pageOnly", named := ["unicode/utf8.first", "unicode/utf8.acceptRanges", "tabulary/crc.half"], apart := false, laid := [("unicode/utf8.acceptRanges", laid_unicode_utf8_acceptRanges), ("tabulary/crc.half", laid_tabulary_crc_half), ("unicode/utf8.first", laid_unicode_utf8_first)], narrowed := true }
def PageOnlyUptoSaid : Prop := pageOnlyUptoRow.holds Tryd.pinned (OpenSpec.upto pageOnlySpec)

end Rows
end Go.Proofs.YtibhoekbjgoanaaDoor
