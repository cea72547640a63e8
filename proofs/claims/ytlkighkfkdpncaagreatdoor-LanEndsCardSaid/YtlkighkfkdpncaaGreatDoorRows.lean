/-
  NARROWER THAN 'FOR EVERY INPUT', by the rows' own cells (each row's printed sentence says how): LanLong: laid · LanUnlike: laid · LanTexts: laid · LanEnds: laid · LanBack: laid.
  DERIVED. THE GIVEN ROWS OF THIS SEAT. 5 by the template 'for every input the law returns true; each argument reads behind the call as it read before'; 0 by the template 'total and deterministic' (their statements: YtlkighkfkdpncaaGreatDoorTotals.lean).
  GIVEN WITH THE SEED: the statements are not yours to turn. If you find one false, say at which input.
  Laid BY PROGRAM, IN A SANDBOX (cutbox-rows.mjs): the forced cells as the released guide's own fill.sh prints them over the translation 375952b23022ffab… (all of the seat's roots in one cut). By AI agents, Wed Nov 11 2026. No macro, syntax, notation, axiom, sorry.
-/
import Derived.Test.YtlkighkfkdpncaaGreatDoorChecked
import GoSem.PinnedTables
import GoSem.Claim
import GoSem.ClaimJoined
import GoSem.ClaimMapViews
import Derived.JoinedTies
import Derived.KernelRfl
namespace Go.Proofs.YtlkighkfkdpncaaGreatDoor
/- THE CELL 'sum', in the pinned program and in every row, IS THE sha256 OF THE DUMP (.gsa) THAT YtlkighkfkdpncaaGreatDoorProg.lean LOADS. Nothing in Lean hashes anything: it is a label: what it is worth is what the hold of that sum in a sandbox is worth. -/
noncomputable def Tryz.pinned : Pinned := { name := "ytlkighkfkdpncaagreatdoor", sum := "375952b23022ffab716d452c42985d90a2d37e76eea8bdbcc3d7775fce5f0718", checked := Tryz.checked }
namespace Rows
def none {H : Type} : Left H := { results := [], args := [] }

/- WHAT THE LISTED PACKAGE-LEVEL VARIABLES READ AS WHEN THE CALL BEGINS. Each datum BY PROGRAM (the guide's laid-datum.mjs) off the statement by which the dump's own 'gosem.cut.vars' lays the variable. In a bare row this is a premise. The card (YtlkighkfkdpncaaGreatDoorCards.lean) ties it to the program's text. -/
def laid_unicode_utf8_acceptRanges {H : Type} : DataW H := .agg [.agg [.lit (.int .u8 128), .lit (.int .u8 191)], .agg [.lit (.int .u8 160), .lit (.int .u8 191)], .agg [.lit (.int .u8 128), .lit (.int .u8 159)], .agg [.lit (.int .u8 144), .lit (.int .u8 191)], .agg [.lit (.int .u8 128), .lit (.int .u8 143)], .agg [.lit (.int .u8 0), .lit (.int .u8 0)], .agg [.lit (.int .u8 0), .lit (.int .u8 0)], .agg [.lit (.int .u8 0), .lit (.int .u8 0)], .agg [.lit (.int .u8 0), .lit (.int .u8 0)], .agg [.lit (.int .u8 0), .lit (.int .u8 0)], .agg [.lit (.int .u8 0), .lit (.int .u8 0)], .agg [.lit (.int .u8 0), .lit (.int .u8 0)], .agg [.lit (.int .u8 0), .lit (.int .u8 0)], .agg [.lit (.int .u8 0), .lit (.int .u8 0)], .agg [.lit (.int .u8 0), .lit (.int .u8 0)], .agg [.lit (.int .u8 0), .lit (.int .u8 0)]]
/-- One of Go's own tables, pinned by name: the form's constant. -/
def laid_unicode_CaseRanges : DataW Unit := Go.Pinned.caseRanges
/-- One of Go's own tables, pinned by name: the form's constant. -/
def laid_unicode_utf8_first : DataW Unit := Go.Pinned.utf8First

/-- 'zugzwanglaw16.LanLong': WHATEVER THE INPUT: true; the input reads as it did. -/
def lanLongSpec : ChangeSpec := { name := "lanLong", fn := fun _ => fun
  | [d1, d2] => { results := [.lit (.bool true)], args := [d1, d2] }
  | _ => none }
def lanLongRow : OpenClaim := { program := "ytlkighkfkdpncaagreatdoor", sum := "375952b23022ffab716d452c42985d90a2d37e76eea8bdbcc3d7775fce5f0718", func := "zugzwang/zugzwanglaw16.LanLong", spec := "lanLong", inPlace := ["internal/abi.NoEscape", "internal/bytealg.MakeNoZero"], unfollowed := true, recurses := true, named := ["unicode/utf8.first", "unicode/utf8.acceptRanges", "unicode.CaseRanges"], apart := false, laid := [("unicode/utf8.acceptRanges", laid_unicode_utf8_acceptRanges), ("unicode.CaseRanges", laid_unicode_CaseRanges), ("unicode/utf8.first", laid_unicode_utf8_first)] }
def LanLongSaid : Prop := lanLongRow.holds Tryz.pinned (OpenSpec.ofChange lanLongSpec)

/-- ITS FALSE NEIGHBOUR: 'it returns false'. Refute it at one input. -/
def lanLongWrong : ChangeSpec := { name := "lanLong", fn := fun _ => fun
  | [d1, d2] => { results := [.lit (.bool false)], args := [d1, d2] }
  | _ => none }
def LanLongWrongFalsely : Prop := lanLongRow.holds Tryz.pinned (OpenSpec.ofChange lanLongWrong)

/-- 'zugzwanglaw16.LanUnlike': WHATEVER THE INPUT: true; the input reads as it did. -/
def lanUnlikeSpec : ChangeSpec := { name := "lanUnlike", fn := fun _ => fun
  | [d1, d2] => { results := [.lit (.bool true)], args := [d1, d2] }
  | _ => none }
def lanUnlikeRow : OpenClaim := { program := "ytlkighkfkdpncaagreatdoor", sum := "375952b23022ffab716d452c42985d90a2d37e76eea8bdbcc3d7775fce5f0718", func := "zugzwang/zugzwanglaw16.LanUnlike", spec := "lanUnlike", inPlace := ["internal/abi.NoEscape", "internal/bytealg.MakeNoZero"], unfollowed := true, recurses := true, named := ["unicode/utf8.first", "unicode/utf8.acceptRanges", "unicode.CaseRanges"], apart := false, laid := [("unicode/utf8.acceptRanges", laid_unicode_utf8_acceptRanges), ("unicode.CaseRanges", laid_unicode_CaseRanges), ("unicode/utf8.first", laid_unicode_utf8_first)] }
def LanUnlikeSaid : Prop := lanUnlikeRow.holds Tryz.pinned (OpenSpec.ofChange lanUnlikeSpec)

/-- ITS FALSE NEIGHBOUR: 'it returns false'. Refute it at one input. -/
def lanUnlikeWrong : ChangeSpec := { name := "lanUnlike", fn := fun _ => fun
  | [d1, d2] => { results := [.lit (.bool false)], args := [d1, d2] }
  | _ => none }
def LanUnlikeWrongFalsely : Prop := lanUnlikeRow.holds Tryz.pinned (OpenSpec.ofChange lanUnlikeWrong)

/-- 'zugzwanglaw16.LanTexts': WHATEVER THE INPUT: true; the input reads as it did. -/
def lanTextsSpec : ChangeSpec := { name := "lanTexts", fn := fun _ => fun
  | [d1, d2] => { results := [.lit (.bool true)], args := [d1, d2] }
  | _ => none }
def lanTextsRow : OpenClaim := { program := "ytlkighkfkdpncaagreatdoor", sum := "375952b23022ffab716d452c42985d90a2d37e76eea8bdbcc3d7775fce5f0718", func := "zugzwang/zugzwanglaw16.LanTexts", spec := "lanTexts", inPlace := ["internal/abi.NoEscape", "internal/bytealg.MakeNoZero", "internal/bytealg.IndexByteString"], unfollowed := true, recurses := true, named := ["unicode/utf8.first", "unicode/utf8.acceptRanges", "unicode.CaseRanges"], apart := false, laid := [("unicode/utf8.acceptRanges", laid_unicode_utf8_acceptRanges), ("unicode.CaseRanges", laid_unicode_CaseRanges), ("unicode/utf8.first", laid_unicode_utf8_first)] }
def LanTextsSaid : Prop := lanTextsRow.holds Tryz.pinned (OpenSpec.ofChange lanTextsSpec)

/-- ITS FALSE NEIGHBOUR: 'it returns false'. Refute it at one input. -/
def lanTextsWrong : ChangeSpec := { name := "lanTexts", fn := fun _ => fun
  | [d1, d2] => { results := [.lit (.bool false)], args := [d1, d2] }
  | _ => none }
def LanTextsWrongFalsely : Prop := lanTextsRow.holds Tryz.pinned (OpenSpec.ofChange lanTextsWrong)

/-- 'zugzwanglaw16.LanEnds': WHATEVER THE INPUT: true; the input reads as it did. -/
def lanEndsSpec : ChangeSpec := { name := "lanEnds", fn := fun _ => fun
  | [] => { results := [.lit (.bool true)], args := [] }
  | _ => none }
def lanEndsRow : OpenClaim := { program := "ytlkighkfkdpncaagreatdoor", sum := "375952b23022ffab716d452c42985d90a2d37e76eea8bdbcc3d7775fce5f0718", func := "zugzwang/zugzwanglaw16.LanEnds", spec := "lanEnds", inPlace := ["internal/abi.NoEscape", "internal/bytealg.MakeNoZero", "internal/bytealg.IndexByteString"], unfollowed := true, recurses := true, named := ["unicode/utf8.first", "unicode/utf8.acceptRanges", "unicode.CaseRanges"], apart := false, laid := [("unicode/utf8.acceptRanges", laid_unicode_utf8_acceptRanges), ("unicode.CaseRanges", laid_unicode_CaseRanges), ("unicode/utf8.first", laid_unicode_utf8_first)] }
def LanEndsSaid : Prop := lanEndsRow.holds Tryz.pinned (OpenSpec.ofChange lanEndsSpec)

/-- ITS FALSE NEIGHBOUR: 'it returns false'. Refute it at one input. -/
def lanEndsWrong : ChangeSpec := { name := "lanEnds", fn := fun _ => fun
  | [] => { results := [.lit (.bool false)], args := [] }
  | _ => none }
def LanEndsWrongFalsely : Prop := lanEndsRow.holds Tryz.pinned (OpenSpec.ofChange lanEndsWrong)

/-- 'zugzwanglaw16.LanBack': WHATEVER THE INPUT: true; the input reads as it did. -/
def lanBackSpec : ChangeSpec := { name := "lanBack", fn := fun _ => fun
  | [d1, d2, d3] => { results := [.lit (.bool true)], args := [d1, d2, d3] }
  | _ => none }
def lanBackRow : OpenClaim := { program := "ytlkighkfkdpncaagreatdoor", sum := "375952b23022ffab716d452c42985d90a2d37e76eea8bdbcc3d7775fce5f0718", func := "zugzwang/zugzwanglaw16.LanBack", spec := "lanBack", inPlace := ["internal/abi.NoEscape", "internal/bytealg.MakeNoZero", "internal/bytealg.IndexByteString"], unfollowed := true, recurses := true, named := ["unicode/utf8.first", "unicode/utf8.acceptRanges", "unicode.CaseRanges"], apart := false, laid := [("unicode/utf8.acceptRanges", laid_unicode_utf8_acceptRanges), ("unicode.CaseRanges", laid_unicode_CaseRanges), ("unicode/utf8.first", laid_unicode_utf8_first)] }
def LanBackSaid : Prop := lanBackRow.holds Tryz.pinned (OpenSpec.ofChange lanBackSpec)

/-- ITS FALSE NEIGHBOUR: 'it returns false'. Refute it at one input. -/
def lanBackWrong : ChangeSpec := { name := "lanBack", fn := fun _ => fun
  | [d1, d2, d3] => { results := [.lit (.bool false)], args := [d1, d2, d3] }
  | _ => none }
def LanBackWrongFalsely : Prop := lanBackRow.holds Tryz.pinned (OpenSpec.ofChange lanBackWrong)

/- THE SECOND FORM. 'bulk': how many values and letters a reading holds, each counted each time it is reached (what is shared counts as often as it is met; a slice's spare places count too). A statement '..UptoSaid' is the law's where the arguments, and the package variables that the reading takes, are together of bulk at most 1048576: NARROWER than '..Said'. Prove '..Said' where nothing that the law and all that it calls make is longer than what came in: it says more and counts as full. Else prove '..UptoSaid'. A law counts once. -/
mutual
def uptoBulk {H : Type} : DataW H → Nat
  | .lit (.string bytes) => bytes.length + 1
  | .lit _ => 1
  | .nil => 1
  | .ptr d => uptoBulk d + 1
  | .slice elems spare => uptoBulkAll elems + uptoBulkAll spare + 1
  | .agg parts => uptoBulkAll parts + 1
  | .iface _ d => uptoBulk d + 1
  | .map entries => uptoBulkEntries entries + 1
  | .held _ => 1
def uptoBulkAll {H : Type} : List (DataW H) → Nat
  | [] => 0
  | d :: r => uptoBulk d + uptoBulkAll r
def uptoBulkEntries {H : Type} : List (Lit × DataW H) → Nat
  | [] => 0
  | x :: r => uptoBulkEntry x + uptoBulkEntries r
def uptoBulkEntry {H : Type} : Lit × DataW H → Nat
  | (.string bytes, d) => bytes.length + uptoBulk d + 1
  | (_, d) => uptoBulk d + 1
 end
def uptoSmall : (H : Type) → List (DataW H) → Bool := fun _ ds => decide (uptoBulkAll ds ≤ 1048576)
def OpenSpec.upto (s : _root_.Go.ChangeSpec) : _root_.Go.OpenSpec := { _root_.Go.OpenSpec.ofChange s with cond := some uptoSmall }

/-- 'zugzwanglaw16.LanLong', WHERE WHAT IT READS IS OF BULK AT MOST 1048576: true; the input reads as it did. -/
def lanLongUptoRow : OpenClaim := { program := "ytlkighkfkdpncaagreatdoor", sum := "375952b23022ffab716d452c42985d90a2d37e76eea8bdbcc3d7775fce5f0718", func := "zugzwang/zugzwanglaw16.LanLong", spec := "lanLong", inPlace := ["internal/abi.NoEscape", "internal/bytealg.MakeNoZero"], unfollowed := true, recurses := true, named := ["unicode/utf8.first", "unicode/utf8.acceptRanges", "unicode.CaseRanges"], apart := false, laid := [("unicode/utf8.acceptRanges", laid_unicode_utf8_acceptRanges), ("unicode.CaseRanges", laid_unicode_CaseRanges), ("unicode/utf8.first", laid_unicode_utf8_first)], narrowed := true }
def LanLongUptoSaid : Prop := lanLongUptoRow.holds Tryz.pinned (OpenSpec.upto lanLongSpec)

/-- 'zugzwanglaw16.LanUnlike', WHERE WHAT IT READS IS OF BULK AT MOST 1048576: true; the input reads as it did. -/
def lanUnlikeUptoRow : OpenClaim := { program := "ytlkighkfkdpncaagreatdoor", sum := "375952b23022ffab716d452c42985d90a2d37e76eea8bdbcc3d7775fce5f0718", func := "zugzwang/zugzwanglaw16.LanUnlike", spec := "lanUnlike", inPlace := ["internal/abi.NoEscape", "internal/bytealg.MakeNoZero"], unfollowed := true, recurses := true, named := ["unicode/utf8.first", "unicode/utf8.acceptRanges", "unicode.CaseRanges"], apart := false, laid := [("unicode/utf8.acceptRanges", laid_unicode_utf8_acceptRanges), ("unicode.CaseRanges", laid_unicode_CaseRanges), ("unicode/utf8.first", laid_unicode_utf8_first)], narrowed := true }
def LanUnlikeUptoSaid : Prop := lanUnlikeUptoRow.holds Tryz.pinned (OpenSpec.upto lanUnlikeSpec)

/-- 'zugzwanglaw16.LanTexts', WHERE WHAT IT READS IS OF BULK AT MOST 1048576: true; the input reads as it did. -/
def lanTextsUptoRow : OpenClaim := { program := "ytlkighkfkdpncaagreatdoor", sum := "375952b23022ffab716d452c42985d90a2d37e76eea8bdbcc3d7775fce5f0718", func := "zugzwang/zugzwanglaw16.LanTexts", spec := "lanTexts", inPlace := ["internal/abi.NoEscape", "internal/bytealg.MakeNoZero", "internal/bytealg.IndexByteString"], unfollowed := true, recurses := true, named := ["unicode/utf8.first", "unicode/utf8.acceptRanges", "unicode.CaseRanges"], apart := false, laid := [("unicode/utf8.acceptRanges", laid_unicode_utf8_acceptRanges), ("unicode.CaseRanges", laid_unicode_CaseRanges), ("unicode/utf8.first", laid_unicode_utf8_first)], narrowed := true }
def LanTextsUptoSaid : Prop := lanTextsUptoRow.holds Tryz.pinned (OpenSpec.upto lanTextsSpec)

/-- 'zugzwanglaw16.LanEnds', WHERE WHAT IT READS IS OF BULK AT MOST 1048576: true; the input reads as it did. -/
def lanEndsUptoRow : OpenClaim := { program := "ytlkighkfkdpncaagreatdoor", sum := "375952b23022ffab716d452c42985d90a2d37e76eea8bdbcc3d7775fce5f0718", func := "zugzwang/zugzwanglaw16.LanEnds", spec := "lanEnds", inPlace := ["internal/abi.NoEscape", "internal/bytealg.MakeNoZero", "internal/bytealg.IndexByteString"], unfollowed := true, recurses := true, named := ["unicode/utf8.first", "unicode/utf8.acceptRanges", "unicode.CaseRanges"], apart := false, laid := [("unicode/utf8.acceptRanges", laid_unicode_utf8_acceptRanges), ("unicode.CaseRanges", laid_unicode_CaseRanges), ("unicode/utf8.first", laid_unicode_utf8_first)], narrowed := true }
def LanEndsUptoSaid : Prop := lanEndsUptoRow.holds Tryz.pinned (OpenSpec.upto lanEndsSpec)

/-- 'zugzwanglaw16.LanBack', WHERE WHAT IT READS IS OF BULK AT MOST 1048576: true; the input reads as it did. -/
def lanBackUptoRow : OpenClaim := { program := "ytlkighkfkdpncaagreatdoor", sum := "375952b23022ffab716d452c42985d90a2d37e76eea8bdbcc3d7775fce5f0718", func := "zugzwang/zugzwanglaw16.LanBack", spec := "lanBack", inPlace := ["internal/abi.NoEscape", "internal/bytealg.MakeNoZero", "internal/bytealg.IndexByteString"], unfollowed := true, recurses := true, named := ["unicode/utf8.first", "unicode/utf8.acceptRanges", "unicode.CaseRanges"], apart := false, laid := [("unicode/utf8.acceptRanges", laid_unicode_utf8_acceptRanges), ("unicode.CaseRanges", laid_unicode_CaseRanges), ("unicode/utf8.first", laid_unicode_utf8_first)], narrowed := true }
def LanBackUptoSaid : Prop := lanBackUptoRow.holds Tryz.pinned (OpenSpec.upto lanBackSpec)

end Rows
end Go.Proofs.YtlkighkfkdpncaaGreatDoor
