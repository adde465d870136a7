/-
  NARROWER THAN 'FOR EVERY INPUT', by the rows' own cells (each row's printed sentence says how): LayoutsExact: loops, laid · RawTables: laid · RawValues: loops, laid · RawWrites: loops, laid · RawBack: loops, laid · RawReads: laid · RawAgain: laid.
  DERIVED. THE GIVEN ROWS OF THIS SEAT. 7 by the template 'for every input the law returns true; each argument reads behind the call as it read before'; 0 by the template 'total and deterministic' (their statements: YtgnnakibcjonbaaGreatDoorTotals.lean).
  GIVEN WITH THE SEED: the statements are not yours to turn. If you find one false, say at which input.
  Laid BY PROGRAM, IN A SANDBOX (cutbox-rows.mjs): the forced cells as the released guide's own fill.sh prints them over the translation c1f5dd64901705e0… (all of the seat's roots in one cut). By AI agents, Wed Nov 11 2026. No macro, syntax, notation, axiom, sorry.
-/
import Derived.Test.YtgnnakibcjonbaaGreatDoorChecked
import GoSem.PinnedTables
import GoSem.Claim
import GoSem.ClaimJoined
import GoSem.ClaimMapViews
import Derived.JoinedTies
import Derived.KernelRfl
namespace Go.Proofs.YtgnnakibcjonbaaGreatDoor
/- THE CELL 'sum', in the pinned program and in every row, IS THE sha256 OF THE DUMP (.gsa) THAT YtgnnakibcjonbaaGreatDoorProg.lean LOADS. Nothing in Lean hashes anything: it is a label: what it is worth is what the hold of that sum in a sandbox is worth. -/
noncomputable def Tryz.pinned : Pinned := { name := "ytgnnakibcjonbaagreatdoor", sum := "c1f5dd64901705e0f9dccfcfa42eafce9d9edb2d868183ac109b4af2860e2fda", checked := Tryz.checked }
namespace Rows
def none {H : Type} : Left H := { results := [], args := [] }

/- WHAT THE LISTED PACKAGE-LEVEL VARIABLES READ AS WHEN THE CALL BEGINS. Each datum BY PROGRAM (the guide's laid-datum.mjs) off the statement by which the dump's own 'gosem.cut.vars' lays the variable. In a bare row this is a premise. The card (YtgnnakibcjonbaaGreatDoorCards.lean) ties it to the program's text. -/
def laid_unicode_utf8_acceptRanges {H : Type} : DataW H := .agg [.agg [.lit (.int .u8 128), .lit (.int .u8 191)], .agg [.lit (.int .u8 160), .lit (.int .u8 191)], .agg [.lit (.int .u8 128), .lit (.int .u8 159)], .agg [.lit (.int .u8 144), .lit (.int .u8 191)], .agg [.lit (.int .u8 128), .lit (.int .u8 143)], .agg [.lit (.int .u8 0), .lit (.int .u8 0)], .agg [.lit (.int .u8 0), .lit (.int .u8 0)], .agg [.lit (.int .u8 0), .lit (.int .u8 0)], .agg [.lit (.int .u8 0), .lit (.int .u8 0)], .agg [.lit (.int .u8 0), .lit (.int .u8 0)], .agg [.lit (.int .u8 0), .lit (.int .u8 0)], .agg [.lit (.int .u8 0), .lit (.int .u8 0)], .agg [.lit (.int .u8 0), .lit (.int .u8 0)], .agg [.lit (.int .u8 0), .lit (.int .u8 0)], .agg [.lit (.int .u8 0), .lit (.int .u8 0)], .agg [.lit (.int .u8 0), .lit (.int .u8 0)]]
/-- One of Go's own tables, pinned by name: the form's constant. -/
def laid_unicode_utf8_first : DataW Unit := Go.Pinned.utf8First

/-- 'examinertop.LayoutsExact': WHATEVER THE INPUT: true; the input reads as it did. -/
def layoutsExactSpec : ChangeSpec := { name := "layoutsExact", fn := fun _ => fun
  | [d1, d2] => { results := [.lit (.bool true)], args := [d1, d2] }
  | _ => none }
def layoutsExactRow : OpenClaim := { program := "ytgnnakibcjonbaagreatdoor", sum := "c1f5dd64901705e0f9dccfcfa42eafce9d9edb2d868183ac109b4af2860e2fda", func := "examiner/examinertop.LayoutsExact", spec := "layoutsExact", inPlace := ["internal/bytealg.IndexByteString", "internal/bytealg.IndexString", "internal/bytealg.abigen_runtime_cmpstring", "internal/abi.NoEscape", "internal/bytealg.MakeNoZero"], unfollowed := true, recurses := true, named := ["internal/bytealg.MaxLen", "unicode/utf8.first", "unicode/utf8.acceptRanges"], loops := true, apart := false, laid := [("unicode/utf8.acceptRanges", laid_unicode_utf8_acceptRanges), ("unicode/utf8.first", laid_unicode_utf8_first)] }
def LayoutsExactSaid : Prop := layoutsExactRow.holds Tryz.pinned (OpenSpec.ofChange layoutsExactSpec)

/-- ITS FALSE NEIGHBOUR: 'it returns false'. Refute it at one input. -/
def layoutsExactWrong : ChangeSpec := { name := "layoutsExact", fn := fun _ => fun
  | [d1, d2] => { results := [.lit (.bool false)], args := [d1, d2] }
  | _ => none }
def LayoutsExactWrongFalsely : Prop := layoutsExactRow.holds Tryz.pinned (OpenSpec.ofChange layoutsExactWrong)

/-- 'examinerlaw16.RawTables': WHATEVER THE INPUT: true; the input reads as it did. -/
def rawTablesSpec : ChangeSpec := { name := "rawTables", fn := fun _ => fun
  | [d1, d2] => { results := [.lit (.bool true)], args := [d1, d2] }
  | _ => none }
def rawTablesRow : OpenClaim := { program := "ytgnnakibcjonbaagreatdoor", sum := "c1f5dd64901705e0f9dccfcfa42eafce9d9edb2d868183ac109b4af2860e2fda", func := "examiner/examinerlaw16.RawTables", spec := "rawTables", inPlace := ["internal/bytealg.IndexByteString", "internal/bytealg.IndexString", "internal/bytealg.abigen_runtime_cmpstring", "internal/abi.NoEscape", "internal/bytealg.MakeNoZero"], unfollowed := true, recurses := true, named := ["internal/bytealg.MaxLen", "unicode/utf8.first", "unicode/utf8.acceptRanges"], apart := false, laid := [("unicode/utf8.acceptRanges", laid_unicode_utf8_acceptRanges), ("unicode/utf8.first", laid_unicode_utf8_first)] }
def RawTablesSaid : Prop := rawTablesRow.holds Tryz.pinned (OpenSpec.ofChange rawTablesSpec)

/-- ITS FALSE NEIGHBOUR: 'it returns false'. Refute it at one input. -/
def rawTablesWrong : ChangeSpec := { name := "rawTables", fn := fun _ => fun
  | [d1, d2] => { results := [.lit (.bool false)], args := [d1, d2] }
  | _ => none }
def RawTablesWrongFalsely : Prop := rawTablesRow.holds Tryz.pinned (OpenSpec.ofChange rawTablesWrong)

/-- 'examinerlaw16.RawValues': WHATEVER THE INPUT: true; the input reads as it did. -/
def rawValuesSpec : ChangeSpec := { name := "rawValues", fn := fun _ => fun
  | [d1, d2] => { results := [.lit (.bool true)], args := [d1, d2] }
  | _ => none }
def rawValuesRow : OpenClaim := { program := "ytgnnakibcjonbaagreatdoor", sum := "c1f5dd64901705e0f9dccfcfa42eafce9d9edb2d868183ac109b4af2860e2fda", func := "examiner/examinerlaw16.RawValues", spec := "rawValues", inPlace := ["internal/bytealg.IndexByteString", "internal/bytealg.IndexString", "internal/bytealg.abigen_runtime_cmpstring", "internal/abi.NoEscape", "internal/bytealg.MakeNoZero"], unfollowed := true, recurses := true, named := ["internal/bytealg.MaxLen", "unicode/utf8.first", "unicode/utf8.acceptRanges"], loops := true, apart := false, laid := [("unicode/utf8.acceptRanges", laid_unicode_utf8_acceptRanges), ("unicode/utf8.first", laid_unicode_utf8_first)] }
def RawValuesSaid : Prop := rawValuesRow.holds Tryz.pinned (OpenSpec.ofChange rawValuesSpec)

/-- ITS FALSE NEIGHBOUR: 'it returns false'. Refute it at one input. -/
def rawValuesWrong : ChangeSpec := { name := "rawValues", fn := fun _ => fun
  | [d1, d2] => { results := [.lit (.bool false)], args := [d1, d2] }
  | _ => none }
def RawValuesWrongFalsely : Prop := rawValuesRow.holds Tryz.pinned (OpenSpec.ofChange rawValuesWrong)

/-- 'examinerlaw16.RawWrites': WHATEVER THE INPUT: true; the input reads as it did. -/
def rawWritesSpec : ChangeSpec := { name := "rawWrites", fn := fun _ => fun
  | [d1, d2] => { results := [.lit (.bool true)], args := [d1, d2] }
  | _ => none }
def rawWritesRow : OpenClaim := { program := "ytgnnakibcjonbaagreatdoor", sum := "c1f5dd64901705e0f9dccfcfa42eafce9d9edb2d868183ac109b4af2860e2fda", func := "examiner/examinerlaw16.RawWrites", spec := "rawWrites", inPlace := ["internal/bytealg.IndexByteString", "internal/bytealg.IndexString", "internal/bytealg.abigen_runtime_cmpstring", "internal/abi.NoEscape", "internal/bytealg.MakeNoZero"], unfollowed := true, recurses := true, named := ["internal/bytealg.MaxLen", "unicode/utf8.first", "unicode/utf8.acceptRanges"], loops := true, apart := false, laid := [("unicode/utf8.acceptRanges", laid_unicode_utf8_acceptRanges), ("unicode/utf8.first", laid_unicode_utf8_first)] }
def RawWritesSaid : Prop := rawWritesRow.holds Tryz.pinned (OpenSpec.ofChange rawWritesSpec)

/-- ITS FALSE NEIGHBOUR: 'it returns false'. Refute it at one input. -/
def rawWritesWrong : ChangeSpec := { name := "rawWrites", fn := fun _ => fun
  | [d1, d2] => { results := [.lit (.bool false)], args := [d1, d2] }
  | _ => none }
def RawWritesWrongFalsely : Prop := rawWritesRow.holds Tryz.pinned (OpenSpec.ofChange rawWritesWrong)

/-- 'examinerlaw16.RawBack': WHATEVER THE INPUT: true; the input reads as it did. -/
def rawBackSpec : ChangeSpec := { name := "rawBack", fn := fun _ => fun
  | [d1, d2] => { results := [.lit (.bool true)], args := [d1, d2] }
  | _ => none }
def rawBackRow : OpenClaim := { program := "ytgnnakibcjonbaagreatdoor", sum := "c1f5dd64901705e0f9dccfcfa42eafce9d9edb2d868183ac109b4af2860e2fda", func := "examiner/examinerlaw16.RawBack", spec := "rawBack", inPlace := ["internal/bytealg.IndexByteString", "internal/bytealg.IndexString", "internal/bytealg.abigen_runtime_cmpstring", "internal/abi.NoEscape", "internal/bytealg.MakeNoZero"], unfollowed := true, recurses := true, named := ["internal/bytealg.MaxLen", "unicode/utf8.first", "unicode/utf8.acceptRanges"], loops := true, apart := false, laid := [("unicode/utf8.acceptRanges", laid_unicode_utf8_acceptRanges), ("unicode/utf8.first", laid_unicode_utf8_first)] }
def RawBackSaid : Prop := rawBackRow.holds Tryz.pinned (OpenSpec.ofChange rawBackSpec)

/-- ITS FALSE NEIGHBOUR: 'it returns false'. Refute it at one input. -/
def rawBackWrong : ChangeSpec := { name := "rawBack", fn := fun _ => fun
  | [d1, d2] => { results := [.lit (.bool false)], args := [d1, d2] }
  | _ => none }
def RawBackWrongFalsely : Prop := rawBackRow.holds Tryz.pinned (OpenSpec.ofChange rawBackWrong)

/-- 'examinerlaw16.RawReads': WHATEVER THE INPUT: true; the input reads as it did. -/
def rawReadsSpec : ChangeSpec := { name := "rawReads", fn := fun _ => fun
  | [d1, d2, d3] => { results := [.lit (.bool true)], args := [d1, d2, d3] }
  | _ => none }
def rawReadsRow : OpenClaim := { program := "ytgnnakibcjonbaagreatdoor", sum := "c1f5dd64901705e0f9dccfcfa42eafce9d9edb2d868183ac109b4af2860e2fda", func := "examiner/examinerlaw16.RawReads", spec := "rawReads", inPlace := ["internal/bytealg.IndexByteString", "internal/bytealg.IndexString", "internal/bytealg.abigen_runtime_cmpstring", "internal/abi.NoEscape", "internal/bytealg.MakeNoZero"], unfollowed := true, recurses := true, named := ["internal/bytealg.MaxLen", "unicode/utf8.first", "unicode/utf8.acceptRanges"], apart := false, laid := [("unicode/utf8.acceptRanges", laid_unicode_utf8_acceptRanges), ("unicode/utf8.first", laid_unicode_utf8_first)] }
def RawReadsSaid : Prop := rawReadsRow.holds Tryz.pinned (OpenSpec.ofChange rawReadsSpec)

/-- ITS FALSE NEIGHBOUR: 'it returns false'. Refute it at one input. -/
def rawReadsWrong : ChangeSpec := { name := "rawReads", fn := fun _ => fun
  | [d1, d2, d3] => { results := [.lit (.bool false)], args := [d1, d2, d3] }
  | _ => none }
def RawReadsWrongFalsely : Prop := rawReadsRow.holds Tryz.pinned (OpenSpec.ofChange rawReadsWrong)

/-- 'examinerlaw16.RawAgain': WHATEVER THE INPUT: true; the input reads as it did. -/
def rawAgainSpec : ChangeSpec := { name := "rawAgain", fn := fun _ => fun
  | [d1, d2] => { results := [.lit (.bool true)], args := [d1, d2] }
  | _ => none }
def rawAgainRow : OpenClaim := { program := "ytgnnakibcjonbaagreatdoor", sum := "c1f5dd64901705e0f9dccfcfa42eafce9d9edb2d868183ac109b4af2860e2fda", func := "examiner/examinerlaw16.RawAgain", spec := "rawAgain", inPlace := ["internal/bytealg.IndexByteString", "internal/bytealg.IndexString", "internal/bytealg.abigen_runtime_cmpstring", "internal/abi.NoEscape", "internal/bytealg.MakeNoZero"], unfollowed := true, recurses := true, named := ["internal/bytealg.MaxLen", "unicode/utf8.first", "unicode/utf8.acceptRanges"], apart := false, laid := [("unicode/utf8.acceptRanges", laid_unicode_utf8_acceptRanges), ("unicode/utf8.first", laid_unicode_utf8_first)] }
def RawAgainSaid : Prop := rawAgainRow.holds Tryz.pinned (OpenSpec.ofChange rawAgainSpec)

/-- ITS FALSE NEIGHBOUR: 'it returns false'. Refute it at one input. -/
def rawAgainWrong : ChangeSpec := { name := "rawAgain", fn := fun _ => fun
  | [d1, d2] => { results := [.lit (.bool false)], args := [d1, d2] }
  | _ => none }
def RawAgainWrongFalsely : Prop := rawAgainRow.holds Tryz.pinned (OpenSpec.ofChange rawAgainWrong)

/- THE SECOND FORM. 'bulk': how many values and letters a reading holds, each counted each time it is reached (what is shared counts as often as it is met; a slice's spare places count too). A statement '..UptoSaid' is the law's where the arguments, and the package variables that the reading takes, are together of bulk at most 1048576: NARROWER than '..Said'. Prove '..Said' where nothing that the law and all that it calls make is longer than what came in: it says more and counts as full. Else prove '..UptoSaid'. A law counts once. -/
mutual
def uptoBulk {H : Type} : DataW H → Nat
  | .lit (.string bytes) => bytes.length + 1
  | .lit _ => 1
  | .nil => 1
  | .ptr d => uptoBulk d + 1
  | .slice elems spare => uptoBulkAll elems + uptoBulkAll spare + 1
  | .agg parts => uptoBulkAll parts + 1
  | .iface _ d => uptoBulk d + 1
  | .map entries => uptoBulkEntries entries + 1
  | .held _ => 1
def uptoBulkAll {H : Type} : List (DataW H) → Nat
  | [] => 0
  | d :: r => uptoBulk d + uptoBulkAll r
def uptoBulkEntries {H : Type} : List (Lit × DataW H) → Nat
  | [] => 0
  | x :: r => uptoBulkEntry x + uptoBulkEntries r
def uptoBulkEntry {H : Type} : Lit × DataW H → Nat
  | (.string bytes, d) => bytes.length + uptoBulk d + 1
  | (_, d) => uptoBulk d + 1
 end
def uptoSmall : (H : Type) → List (DataW H) → Bool := fun _ ds => decide (uptoBulkAll ds ≤ 1048576)
def OpenSpec.upto (s : _root_.Go.ChangeSpec) : _root_.Go.OpenSpec := { _root_.Go.OpenSpec.ofChange s with cond := some uptoSmall }

/-- 'examinertop.LayoutsExact', WHERE WHAT IT READS IS OF BULK AT MOST 1048576: true; the input reads as it did. -/
def layoutsExactUptoRow : OpenClaim := { program := "ytgnnakibcjonbaagreatdoor", sum := "c1f5dd64901705e0f9dccfcfa42eafce9d9edb2d868183ac109b4af2860e2fda", func := "examiner/examinertop.LayoutsExact", spec := "layoutsExact", inPlace := ["internal/bytealg.IndexByteString", "internal/bytealg.IndexString", "internal/bytealg.abigen_runtime_cmpstring", "internal/abi.NoEscape", "internal/bytealg.MakeNoZero"], unfollowed := true, recurses := true, named := ["internal/bytealg.MaxLen", "unicode/utf8.first", "unicode/utf8.acceptRanges"], loops := true, apart := false, laid := [("unicode/utf8.acceptRanges", laid_unicode_utf8_acceptRanges), ("unicode/utf8.first", laid_unicode_utf8_first)], narrowed := true }
def LayoutsExactUptoSaid : Prop := layoutsExactUptoRow.holds Tryz.pinned (OpenSpec.upto layoutsExactSpec)

/-- 'examinerlaw16.RawTables', WHERE WHAT IT READS IS OF BULK AT MOST 1048576: true; the input reads as it did. -/
def rawTablesUptoRow : OpenClaim := { program := "ytgnnakibcjonbaagreatdoor", sum := "c1f5dd64901705e0f9dccfcfa42eafce9d9edb2d868183ac109b4af2860e2fda", func := "examiner/examinerlaw16.RawTables", spec := "rawTables", inPlace := ["internal/bytealg.IndexByteString", "internal/bytealg.IndexString", "internal/bytealg.abigen_runtime_cmpstring", "internal/abi.NoEscape", "internal/bytealg.MakeNoZero"], unfollowed := true, recurses := true, named := ["internal/bytealg.MaxLen", "unicode/utf8.first", "unicode/utf8.acceptRanges"], apart := false, laid := [("unicode/utf8.acceptRanges", laid_unicode_utf8_acceptRanges), ("unicode/utf8.first", laid_unicode_utf8_first)], narrowed := true }
def RawTablesUptoSaid : Prop := rawTablesUptoRow.holds Tryz.pinned (OpenSpec.upto rawTablesSpec)

/-- 'examinerlaw16.RawValues', WHERE WHAT IT READS IS OF BULK AT MOST 1048576: true; the input reads as it did. -/
def rawValuesUptoRow : OpenClaim := { program := "ytgnnakibcjonbaagreatdoor", sum := "c1f5dd64901705e0f9dccfcfa42eafce9d9edb2d868183ac109b4af2860e2fda", func := "examiner/examinerlaw16.RawValues", spec := "rawValues", inPlace := ["internal/bytealg.IndexByteString", "internal/bytealg.IndexString", "internal/bytealg.abigen_runtime_cmpstring", "internal/abi.NoEscape", "internal/bytealg.MakeNoZero"], unfollowed := true, recurses := true, named := ["internal/bytealg.MaxLen", "unicode/utf8.first", "unicode/utf8.acceptRanges"], loops := true, apart := false, laid := [("unicode/utf8.acceptRanges", laid_unicode_utf8_acceptRanges), ("unicode/utf8.first", laid_unicode_utf8_first)], narrowed := true }
def RawValuesUptoSaid : Prop := rawValuesUptoRow.holds Tryz.pinned (OpenSpec.upto rawValuesSpec)

/-- 'examinerlaw16.RawWrites', WHERE WHAT IT READS IS OF BULK AT MOST 1048576: true; the input reads as it did. -/
def rawWritesUptoRow : OpenClaim := { program := "ytgnnakibcjonbaagreatdoor", sum := "c1f5dd64901705e0f9dccfcfa42eafce9d9edb2d868183ac109b4af2860e2fda", func := "examiner/examinerlaw16.RawWrites", spec := "rawWrites", inPlace := ["internal/bytealg.IndexByteString", "internal/bytealg.IndexString", "internal/bytealg.abigen_runtime_cmpstring", "internal/abi.NoEscape", "internal/bytealg.MakeNoZero"], unfollowed := true, recurses := true, named := ["internal/bytealg.MaxLen", "unicode/utf8.first", "unicode/utf8.acceptRanges"], loops := true, apart := false, laid := [("unicode/utf8.acceptRanges", laid_unicode_utf8_acceptRanges), ("unicode/utf8.first", laid_unicode_utf8_first)], narrowed := true }
def RawWritesUptoSaid : Prop := rawWritesUptoRow.holds Tryz.pinned (OpenSpec.upto rawWritesSpec)

/-- 'examinerlaw16.RawBack', WHERE WHAT IT READS IS OF BULK AT MOST 1048576: true; the input reads as it did. -/
def rawBackUptoRow : OpenClaim := { program := "ytgnnakibcjonbaagreatdoor", sum := "c1f5dd64901705e0f9dccfcfa42eafce9d9edb2d868183ac109b4af2860e2fda", func := "examiner/examinerlaw16.RawBack", spec := "rawBack", inPlace := ["internal/bytealg.IndexByteString", "internal/bytealg.IndexString", "internal/bytealg.abigen_runtime_cmpstring", "internal/abi.NoEscape", "internal/bytealg.MakeNoZero"], unfollowed := true, recurses := true, named := ["internal/bytealg.MaxLen", "unicode/utf8.first", "unicode/utf8.acceptRanges"], loops := true, apart := false, laid := [("unicode/utf8.acceptRanges", laid_unicode_utf8_acceptRanges), ("unicode/utf8.first", laid_unicode_utf8_first)], narrowed := true }
def RawBackUptoSaid : Prop := rawBackUptoRow.holds Tryz.pinned (OpenSpec.upto rawBackSpec)

/-- 'examinerlaw16.RawReads', WHERE WHAT IT READS IS OF BULK AT MOST 1048576: true; the input reads as it did. -/
def rawReadsUptoRow : OpenClaim := { program := "ytgnnakibcjonbaagreatdoor", sum := "c1f5dd64901705e0f9dccfcfa42eafce9d9edb2d868183ac109b4af2860e2fda", func := "examiner/examinerlaw16.RawReads", spec := "rawReads", inPlace := ["internal/bytealg.IndexByteString", "internal/bytealg.IndexString", "internal/bytealg.abigen_runtime_cmpstring", "internal/abi.NoEscape", "internal/bytealg.MakeNoZero"], unfollowed := true, recurses := true, named := ["internal/bytealg.MaxLen", "unicode/utf8.first", "unicode/utf8.acceptRanges"], apart := false, laid := [("unicode/utf8.acceptRanges", laid_unicode_utf8_acceptRanges), ("unicode/utf8.first", laid_unicode_utf8_first)], narrowed := true }
def RawReadsUptoSaid : Prop := rawReadsUptoRow.holds Tryz.pinned (OpenSpec.upto rawReadsSpec)

/-- 'examinerlaw16.RawAgain', WHERE WHAT IT READS IS OF BULK AT MOST 1048576: true; the input reads as it did. -/
def rawAgainUptoRow : OpenClaim := { program := "ytgnnakibcjonbaagreatdoor", sum := "c1f5dd64901705e0f9dccfcfa42eafce9d9edb2d868183ac109b4af2860e2fda", func := "examiner/examinerlaw16.RawAgain", spec := "rawAgain", inPlace := ["internal/bytealg.IndexByteString", "internal/bytealg.IndexString", "internal/bytealg.abigen_runtime_cmpstring", "internal/abi.NoEscape", "internal/bytealg.MakeNoZero"], unfollowed := true, recurses := true, named := ["internal/bytealg.MaxLen", "unicode/utf8.first", "unicode/utf8.acceptRanges"], apart := false, laid := [("unicode/utf8.acceptRanges", laid_unicode_utf8_acceptRanges), ("unicode/utf8.first", laid_unicode_utf8_first)], narrowed := true }
def RawAgainUptoSaid : Prop := rawAgainUptoRow.holds Tryz.pinned (OpenSpec.upto rawAgainSpec)

end Rows
end Go.Proofs.YtgnnakibcjonbaaGreatDoor
