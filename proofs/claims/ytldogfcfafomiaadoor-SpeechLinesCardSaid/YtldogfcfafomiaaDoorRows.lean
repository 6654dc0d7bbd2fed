/-
  NARROWER THAN 'FOR EVERY INPUT', by the rows' own cells (each row's printed sentence says how): SpeechPuts: laid · SpeechBack: laid · SpeechOne: laid · SpeechLines: laid.
  DERIVED. THE GIVEN ROWS OF THIS SEAT. 4 by the template 'for every input the law returns true; each argument reads behind the call as it read before'; 0 by the template 'total and deterministic' (their statements: YtldogfcfafomiaaDoorTotals.lean).
  GIVEN WITH THE SEED: the statements are not yours to turn. If you find one false, say at which input.
  Laid BY PROGRAM, IN A SANDBOX (cutbox-rows.mjs): the forced cells as the released guide's own fill.sh prints them over the translation 23f9023230e68fc7… (all of the seat's roots in one cut). By AI agents, Wed Nov 11 2026. No macro, syntax, notation, axiom, sorry.
-/
import Derived.Test.YtldogfcfafomiaaDoorChecked
import GoSem.PinnedTables
import GoSem.Claim
import GoSem.ClaimJoined
import GoSem.ClaimMapViews
import Derived.JoinedTies
import Derived.KernelRfl
namespace Go.Proofs.YtldogfcfafomiaaDoor
/- THE CELL 'sum', in the pinned program and in every row, IS THE sha256 OF THE DUMP (.gsa) THAT YtldogfcfafomiaaDoorProg.lean LOADS. Nothing in Lean hashes anything: it is a label: what it is worth is what the hold of that sum in a sandbox is worth. -/
noncomputable def Tryd.pinned : Pinned := { name := "ytldogfcfafomiaadoor", sum := "23f9023230e68fc7bf530ac979753716db972a5117055dda249b83871bb73602", checked := Tryd.checked }
namespace Rows
def none {H : Type} : Left H := { results := [], args := [] }

/- WHAT THE LISTED PACKAGE-LEVEL VARIABLES READ AS WHEN THE CALL BEGINS. Each datum BY PROGRAM (the guide's laid-datum.mjs) off the statement by which the dump's own 'gosem.cut.vars' lays the variable. In a bare row this is a premise. The card (YtldogfcfafomiaaDoorCards.lean) ties it to the program's text. -/
def laid_unicode_utf8_acceptRanges {H : Type} : DataW H := .agg [.agg [.lit (.int .u8 128), .lit (.int .u8 191)], .agg [.lit (.int .u8 160), .lit (.int .u8 191)], .agg [.lit (.int .u8 128), .lit (.int .u8 159)], .agg [.lit (.int .u8 144), .lit (.int .u8 191)], .agg [.lit (.int .u8 128), .lit (.int .u8 143)], .agg [.lit (.int .u8 0), .lit (.int .u8 0)], .agg [.lit (.int .u8 0), .lit (.int .u8 0)], .agg [.lit (.int .u8 0), .lit (.int .u8 0)], .agg [.lit (.int .u8 0), .lit (.int .u8 0)], .agg [.lit (.int .u8 0), .lit (.int .u8 0)], .agg [.lit (.int .u8 0), .lit (.int .u8 0)], .agg [.lit (.int .u8 0), .lit (.int .u8 0)], .agg [.lit (.int .u8 0), .lit (.int .u8 0)], .agg [.lit (.int .u8 0), .lit (.int .u8 0)], .agg [.lit (.int .u8 0), .lit (.int .u8 0)], .agg [.lit (.int .u8 0), .lit (.int .u8 0)]]
/-- One of Go's own tables, pinned by name: the form's constant. -/
def laid_unicode_utf8_first : DataW Unit := Go.Pinned.utf8First

/-- 'counterpanelaw32.SpeechPuts': WHATEVER THE INPUT: true; the input reads as it did. -/
def speechPutsSpec : ChangeSpec := { name := "speechPuts", fn := fun _ => fun
  | [d] => { results := [.lit (.bool true)], args := [d] }
  | _ => none }
def speechPutsRow : OpenClaim := { program := "ytldogfcfafomiaadoor", sum := "23f9023230e68fc7bf530ac979753716db972a5117055dda249b83871bb73602", func := "counterpane/counterpanelaw32.SpeechPuts", spec := "speechPuts", inPlace := ["internal/abi.NoEscape", "internal/bytealg.MakeNoZero", "internal/bytealg.CountString", "internal/bytealg.IndexByteString", "internal/bytealg.IndexString"], recurses := true, named := ["unicode/utf8.first", "unicode/utf8.acceptRanges", "internal/bytealg.MaxLen"], apart := false, laid := [("unicode/utf8.acceptRanges", laid_unicode_utf8_acceptRanges), ("unicode/utf8.first", laid_unicode_utf8_first)] }
def SpeechPutsSaid : Prop := speechPutsRow.holds Tryd.pinned (OpenSpec.ofChange speechPutsSpec)

/-- ITS FALSE NEIGHBOUR: 'it returns false'. Refute it at one input. -/
def speechPutsWrong : ChangeSpec := { name := "speechPuts", fn := fun _ => fun
  | [d] => { results := [.lit (.bool false)], args := [d] }
  | _ => none }
def SpeechPutsWrongFalsely : Prop := speechPutsRow.holds Tryd.pinned (OpenSpec.ofChange speechPutsWrong)

/-- 'counterpanelaw32.SpeechBack': WHATEVER THE INPUT: true; the input reads as it did. -/
def speechBackSpec : ChangeSpec := { name := "speechBack", fn := fun _ => fun
  | [d] => { results := [.lit (.bool true)], args := [d] }
  | _ => none }
def speechBackRow : OpenClaim := { program := "ytldogfcfafomiaadoor", sum := "23f9023230e68fc7bf530ac979753716db972a5117055dda249b83871bb73602", func := "counterpane/counterpanelaw32.SpeechBack", spec := "speechBack", inPlace := ["internal/abi.NoEscape", "internal/bytealg.MakeNoZero", "internal/bytealg.CountString", "internal/bytealg.IndexByteString", "internal/bytealg.IndexString"], recurses := true, named := ["unicode/utf8.first", "unicode/utf8.acceptRanges", "internal/bytealg.MaxLen"], apart := false, laid := [("unicode/utf8.acceptRanges", laid_unicode_utf8_acceptRanges), ("unicode/utf8.first", laid_unicode_utf8_first)] }
def SpeechBackSaid : Prop := speechBackRow.holds Tryd.pinned (OpenSpec.ofChange speechBackSpec)

/-- ITS FALSE NEIGHBOUR: 'it returns false'. Refute it at one input. -/
def speechBackWrong : ChangeSpec := { name := "speechBack", fn := fun _ => fun
  | [d] => { results := [.lit (.bool false)], args := [d] }
  | _ => none }
def SpeechBackWrongFalsely : Prop := speechBackRow.holds Tryd.pinned (OpenSpec.ofChange speechBackWrong)

/-- 'counterpanelaw32.SpeechOne': WHATEVER THE INPUT: true; the input reads as it did. -/
def speechOneSpec : ChangeSpec := { name := "speechOne", fn := fun _ => fun
  | [d] => { results := [.lit (.bool true)], args := [d] }
  | _ => none }
def speechOneRow : OpenClaim := { program := "ytldogfcfafomiaadoor", sum := "23f9023230e68fc7bf530ac979753716db972a5117055dda249b83871bb73602", func := "counterpane/counterpanelaw32.SpeechOne", spec := "speechOne", inPlace := ["internal/abi.NoEscape", "internal/bytealg.MakeNoZero", "internal/bytealg.CountString", "internal/bytealg.IndexByteString", "internal/bytealg.IndexString"], recurses := true, named := ["unicode/utf8.first", "unicode/utf8.acceptRanges", "internal/bytealg.MaxLen"], apart := false, laid := [("unicode/utf8.acceptRanges", laid_unicode_utf8_acceptRanges), ("unicode/utf8.first", laid_unicode_utf8_first)] }
def SpeechOneSaid : Prop := speechOneRow.holds Tryd.pinned (OpenSpec.ofChange speechOneSpec)

/-- ITS FALSE NEIGHBOUR: 'it returns false'. Refute it at one input. -/
def speechOneWrong : ChangeSpec := { name := "speechOne", fn := fun _ => fun
  | [d] => { results := [.lit (.bool false)], args := [d] }
  | _ => none }
def SpeechOneWrongFalsely : Prop := speechOneRow.holds Tryd.pinned (OpenSpec.ofChange speechOneWrong)

/-- 'counterpanelaw32.SpeechLines': WHATEVER THE INPUT: true; the input reads as it did. -/
def speechLinesSpec : ChangeSpec := { name := "speechLines", fn := fun _ => fun
  | [d] => { results := [.lit (.bool true)], args := [d] }
  | _ => none }
def speechLinesRow : OpenClaim := { program := "ytldogfcfafomiaadoor", sum := "23f9023230e68fc7bf530ac979753716db972a5117055dda249b83871bb73602", func := "counterpane/counterpanelaw32.SpeechLines", spec := "speechLines", inPlace := ["internal/abi.NoEscape", "internal/bytealg.MakeNoZero", "internal/bytealg.CountString", "internal/bytealg.IndexByteString", "internal/bytealg.IndexString"], recurses := true, named := ["unicode/utf8.first", "unicode/utf8.acceptRanges", "internal/bytealg.MaxLen"], apart := false, laid := [("unicode/utf8.acceptRanges", laid_unicode_utf8_acceptRanges), ("unicode/utf8.first", laid_unicode_utf8_first)] }
def SpeechLinesSaid : Prop := speechLinesRow.holds Tryd.pinned (OpenSpec.ofChange speechLinesSpec)

/-- ITS FALSE NEIGHBOUR: 'it returns false'. Refute it at one input. -/
def speechLinesWrong : ChangeSpec := { name := "speechLines", fn := fun _ => fun
  | [d] => { results := [.lit (.bool false)], args := [d] }
  | _ => none }
def SpeechLinesWrongFalsely : Prop := speechLinesRow.holds Tryd.pinned (OpenSpec.ofChange speechLinesWrong)

/- THE SECOND FORM. 'bulk': how many values and letters a reading holds, each counted each time it is reached (what is shared counts as often as it is met; a slice's spare places count too). A statement '..UptoSaid' is the law's where the arguments, and the package variables that the reading takes, are together of bulk at most 1048576: NARROWER than '..Said'. Prove '..Said' where nothing that the law and all that it calls make is longer than what came in: it says more and counts as full. Else prove '..UptoSaid'. A law counts once. -/
mutual
def uptoBulk {H : Type} : DataW H → Nat
  | .lit (.string bytes) => bytes.length + 1
  | .lit _ => 1
  | .nil => 1
  | .ptr d => uptoBulk d + 1
  | .slice elems spare => uptoBulkAll elems + uptoBulkAll spare + 1
  | .agg parts => uptoBulkAll parts + 1
  | .iface _ d => uptoBulk d + 1
  | .map entries => uptoBulkEntries entries + 1
  | .held _ => 1
def uptoBulkAll {H : Type} : List (DataW H) → Nat
  | [] => 0
  | d :: r => uptoBulk d + uptoBulkAll r
def uptoBulkEntries {H : Type} : List (Lit × DataW H) → Nat
  | [] => 0
  | x :: r => uptoBulkEntry x + uptoBulkEntries r
def uptoBulkEntry {H : Type} : Lit × DataW H → Nat
  | (.string bytes, d) => bytes.length + uptoBulk d + 1
  | (_, d) => uptoBulk d + 1
 end
def uptoSmall : (H : Type) → List (DataW H) → Bool := fun _ ds => decide (uptoBulkAll ds ≤ 1048576)
def OpenSpec.upto (s : _root_.Go.ChangeSpec) : _root_.Go.OpenSpec := { _root_.Go.OpenSpec.ofChange s with cond := some uptoSmall }

/-- 'counterpanelaw32.SpeechPuts', WHERE WHAT IT READS IS OF BULK AT MOST 1048576: true; the input reads as it did. -/
def speechPutsUptoRow : OpenClaim := { program := "ytldogfcfafomiaadoor", sum := "23f9023230e68fc7bf530ac979753716db972a5117055dda249b83871bb73602", func := "counterpane/counterpanelaw32.SpeechPuts", spec := "speechPuts", inPlace := ["internal/abi.NoEscape", "internal/bytealg.MakeNoZero", "internal/bytealg.CountString", "internal/bytealg.IndexByteString", "internal/bytealg.IndexString"], recurses := true, named := ["unicode/utf8.first", "unicode/utf8.acceptRanges", "internal/bytealg.MaxLen"], apart := false, laid := [("unicode/utf8.acceptRanges", laid_unicode_utf8_acceptRanges), ("unicode/utf8.first", laid_unicode_utf8_first)], narrowed := true }
def SpeechPutsUptoSaid : Prop := speechPutsUptoRow.holds Tryd.pinned (OpenSpec.upto speechPutsSpec)

/-- 'counterpanelaw32.SpeechBack', WHERE WHAT IT READS IS OF BULK AT MOST 1048576: true; the input reads as it did. -/
def speechBackUptoRow : OpenClaim := { program := "ytldogfcfafomiaadoor", sum := "23f9023230e68fc7bf530ac979753716db972a5117055dda249b83871bb73602", func := "counterpane/counterpanelaw32.SpeechBack", spec := "speechBack", inPlace := ["internal/abi.NoEscape", "internal/bytealg.MakeNoZero", "internal/bytealg.CountString", "internal/bytealg.IndexByteString", "internal/bytealg.IndexString"], recurses := true, named := ["unicode/utf8.first", "unicode/utf8.acceptRanges", "internal/bytealg.MaxLen"], apart := false, laid := [("unicode/utf8.acceptRanges", laid_unicode_utf8_acceptRanges), ("unicode/utf8.first", laid_unicode_utf8_first)], narrowed := true }
def SpeechBackUptoSaid : Prop := speechBackUptoRow.holds Tryd.pinned (OpenSpec.upto speechBackSpec)

/-- 'counterpanelaw32.SpeechOne', WHERE WHAT IT READS IS OF BULK AT MOST 1048576: true; the input reads as it did. -/
def speechOneUptoRow : OpenClaim := { program := "ytldogfcfafomiaadoor", sum := "23f9023230e68fc7bf530ac979753716db972a5117055dda249b83871bb73602", func := "counterpane/counterpanelaw32.SpeechOne", spec := "speechOne", inPlace := ["internal/abi.NoEscape", "internal/bytealg.MakeNoZero", "internal/bytealg.CountString", "internal/bytealg.IndexByteString", "internal/bytealg.IndexString"], recurses := true, named := ["unicode/utf8.first", "unicode/utf8.acceptRanges", "internal/bytealg.MaxLen"], apart := false, laid := [("unicode/utf8.acceptRanges", laid_unicode_utf8_acceptRanges), ("unicode/utf8.first", laid_unicode_utf8_first)], narrowed := true }
def SpeechOneUptoSaid : Prop := speechOneUptoRow.holds Tryd.pinned (OpenSpec.upto speechOneSpec)

/-- 'counterpanelaw32.SpeechLines', WHERE WHAT IT READS IS OF BULK AT MOST 1048576: true; the input reads as it did. -/
def speechLinesUptoRow : OpenClaim := { program := "ytldogfcfafomiaadoor", sum := "23f9023230e68fc7bf530ac979753716db972a5117055dda249b83871bb73602", func := "counterpane/counterpanelaw32.SpeechLines", spec := "speechLines", inPlace := ["internal/abi.NoEscape", "internal/bytealg.MakeNoZero", "internal/bytealg.CountString", "internal/bytealg.IndexByteString", "internal/bytealg.IndexString"], recurses := true, named := ["unicode/utf8.first", "unicode/utf8.acceptRanges", "internal/bytealg.MaxLen"], apart := false, laid := [("unicode/utf8.acceptRanges", laid_unicode_utf8_acceptRanges), ("unicode/utf8.first", laid_unicode_utf8_first)], narrowed := true }
def SpeechLinesUptoSaid : Prop := speechLinesUptoRow.holds Tryd.pinned (OpenSpec.upto speechLinesSpec)

end Rows
end Go.Proofs.YtldogfcfafomiaaDoor
