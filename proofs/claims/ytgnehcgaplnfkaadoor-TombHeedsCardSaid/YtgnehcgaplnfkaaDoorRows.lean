/-
  NARROWER THAN 'FOR EVERY INPUT', by the rows' own cells (each row's printed sentence says how): RegexAny: laid · RegexEither: laid · RegexLiteral: laid · MatchNot: laid · MatchOwn: laid · MatchEmpty: laid · TombHeeds: laid · TombPrunes: laid.
  DERIVED. THE GIVEN ROWS OF THIS SEAT. 8 by the template 'for every input the law returns true; each argument reads behind the call as it read before'; 0 by the template 'total and deterministic' (their statements: YtgnehcgaplnfkaaDoorTotals.lean).
  GIVEN WITH THE SEED: the statements are not yours to turn. If you find one false, say at which input.
  Laid BY PROGRAM, IN A SANDBOX (cutbox-rows.mjs): the forced cells as the released guide's own fill.sh prints them over the translation 2db9a9d72de1fc42… (all of the seat's roots in one cut). By AI agents, Wed Nov 11 2026. No macro, syntax, notation, axiom, sorry.
-/
import Derived.Test.YtgnehcgaplnfkaaDoorChecked
import GoSem.PinnedTables
import GoSem.Claim
import GoSem.ClaimJoined
import GoSem.ClaimMapViews
import Derived.JoinedTies
import Derived.KernelRfl
namespace Go.Proofs.YtgnehcgaplnfkaaDoor
/- THE CELL 'sum', in the pinned program and in every row, IS THE sha256 OF THE DUMP (.gsa) THAT YtgnehcgaplnfkaaDoorProg.lean LOADS. Nothing in Lean hashes anything: it is a label: what it is worth is what the hold of that sum in a sandbox is worth. -/
noncomputable def Tryd.pinned : Pinned := { name := "ytgnehcgaplnfkaadoor", sum := "2db9a9d72de1fc4218211e39ea3146b71a6273a16149bc441aeb60a95f37db05", checked := Tryd.checked }
namespace Rows
def none {H : Type} : Left H := { results := [], args := [] }

/- WHAT THE LISTED PACKAGE-LEVEL VARIABLES READ AS WHEN THE CALL BEGINS. Each datum BY PROGRAM (the guide's laid-datum.mjs) off the statement by which the dump's own 'gosem.cut.vars' lays the variable. In a bare row this is a premise. The card (YtgnehcgaplnfkaaDoorCards.lean) ties it to the program's text. -/
def laid_unicode_utf8_acceptRanges {H : Type} : DataW H := .agg [.agg [.lit (.int .u8 128), .lit (.int .u8 191)], .agg [.lit (.int .u8 160), .lit (.int .u8 191)], .agg [.lit (.int .u8 128), .lit (.int .u8 159)], .agg [.lit (.int .u8 144), .lit (.int .u8 191)], .agg [.lit (.int .u8 128), .lit (.int .u8 143)], .agg [.lit (.int .u8 0), .lit (.int .u8 0)], .agg [.lit (.int .u8 0), .lit (.int .u8 0)], .agg [.lit (.int .u8 0), .lit (.int .u8 0)], .agg [.lit (.int .u8 0), .lit (.int .u8 0)], .agg [.lit (.int .u8 0), .lit (.int .u8 0)], .agg [.lit (.int .u8 0), .lit (.int .u8 0)], .agg [.lit (.int .u8 0), .lit (.int .u8 0)], .agg [.lit (.int .u8 0), .lit (.int .u8 0)], .agg [.lit (.int .u8 0), .lit (.int .u8 0)], .agg [.lit (.int .u8 0), .lit (.int .u8 0)], .agg [.lit (.int .u8 0), .lit (.int .u8 0)]]
/-- One of Go's own tables, pinned by name: the form's constant. -/
def laid_unicode_utf8_first : DataW Unit := Go.Pinned.utf8First

/-- 'dryrotlaw08.RegexAny': WHATEVER THE INPUT: true; the input reads as it did. -/
def regexAnySpec : ChangeSpec := { name := "regexAny", fn := fun _ => fun
  | [d] => { results := [.lit (.bool true)], args := [d] }
  | _ => none }
def regexAnyRow : OpenClaim := { program := "ytgnehcgaplnfkaadoor", sum := "2db9a9d72de1fc4218211e39ea3146b71a6273a16149bc441aeb60a95f37db05", func := "dryrot/dryrotlaw08.RegexAny", spec := "regexAny", inPlace := ["internal/abi.NoEscape", "internal/bytealg.MakeNoZero", "internal/bytealg.IndexByteString", "internal/bytealg.IndexString"], unfollowed := true, recurses := true, named := ["unicode/utf8.first", "unicode/utf8.acceptRanges", "internal/bytealg.MaxLen"], apart := false, laid := [("unicode/utf8.acceptRanges", laid_unicode_utf8_acceptRanges), ("unicode/utf8.first", laid_unicode_utf8_first)] }
def RegexAnySaid : Prop := regexAnyRow.holds Tryd.pinned (OpenSpec.ofChange regexAnySpec)

/-- ITS FALSE NEIGHBOUR: 'it returns false'. Refute it at one input. -/
def regexAnyWrong : ChangeSpec := { name := "regexAny", fn := fun _ => fun
  | [d] => { results := [.lit (.bool false)], args := [d] }
  | _ => none }
def RegexAnyWrongFalsely : Prop := regexAnyRow.holds Tryd.pinned (OpenSpec.ofChange regexAnyWrong)

/-- 'dryrotlaw08.RegexEither': WHATEVER THE INPUT: true; the input reads as it did. -/
def regexEitherSpec : ChangeSpec := { name := "regexEither", fn := fun _ => fun
  | [d1, d2, d3] => { results := [.lit (.bool true)], args := [d1, d2, d3] }
  | _ => none }
def regexEitherRow : OpenClaim := { program := "ytgnehcgaplnfkaadoor", sum := "2db9a9d72de1fc4218211e39ea3146b71a6273a16149bc441aeb60a95f37db05", func := "dryrot/dryrotlaw08.RegexEither", spec := "regexEither", inPlace := ["internal/abi.NoEscape", "internal/bytealg.MakeNoZero", "internal/bytealg.IndexByteString", "internal/bytealg.IndexString"], unfollowed := true, recurses := true, named := ["unicode/utf8.first", "unicode/utf8.acceptRanges", "internal/bytealg.MaxLen"], apart := false, laid := [("unicode/utf8.acceptRanges", laid_unicode_utf8_acceptRanges), ("unicode/utf8.first", laid_unicode_utf8_first)] }
def RegexEitherSaid : Prop := regexEitherRow.holds Tryd.pinned (OpenSpec.ofChange regexEitherSpec)

/-- ITS FALSE NEIGHBOUR: 'it returns false'. Refute it at one input. -/
def regexEitherWrong : ChangeSpec := { name := "regexEither", fn := fun _ => fun
  | [d1, d2, d3] => { results := [.lit (.bool false)], args := [d1, d2, d3] }
  | _ => none }
def RegexEitherWrongFalsely : Prop := regexEitherRow.holds Tryd.pinned (OpenSpec.ofChange regexEitherWrong)

/-- 'dryrotlaw08.RegexLiteral': WHATEVER THE INPUT: true; the input reads as it did. -/
def regexLiteralSpec : ChangeSpec := { name := "regexLiteral", fn := fun _ => fun
  | [d1, d2] => { results := [.lit (.bool true)], args := [d1, d2] }
  | _ => none }
def regexLiteralRow : OpenClaim := { program := "ytgnehcgaplnfkaadoor", sum := "2db9a9d72de1fc4218211e39ea3146b71a6273a16149bc441aeb60a95f37db05", func := "dryrot/dryrotlaw08.RegexLiteral", spec := "regexLiteral", inPlace := ["internal/abi.NoEscape", "internal/bytealg.MakeNoZero", "internal/bytealg.IndexByteString", "internal/bytealg.IndexString"], unfollowed := true, recurses := true, named := ["unicode/utf8.first", "unicode/utf8.acceptRanges", "internal/bytealg.MaxLen"], apart := false, laid := [("unicode/utf8.acceptRanges", laid_unicode_utf8_acceptRanges), ("unicode/utf8.first", laid_unicode_utf8_first)] }
def RegexLiteralSaid : Prop := regexLiteralRow.holds Tryd.pinned (OpenSpec.ofChange regexLiteralSpec)

/-- ITS FALSE NEIGHBOUR: 'it returns false'. Refute it at one input. -/
def regexLiteralWrong : ChangeSpec := { name := "regexLiteral", fn := fun _ => fun
  | [d1, d2] => { results := [.lit (.bool false)], args := [d1, d2] }
  | _ => none }
def RegexLiteralWrongFalsely : Prop := regexLiteralRow.holds Tryd.pinned (OpenSpec.ofChange regexLiteralWrong)

/-- 'dryrotlaw09.MatchNot': WHATEVER THE INPUT: true; the input reads as it did. -/
def matchNotSpec : ChangeSpec := { name := "matchNot", fn := fun _ => fun
  | [d1, d2, d3, d4] => { results := [.lit (.bool true)], args := [d1, d2, d3, d4] }
  | _ => none }
def matchNotRow : OpenClaim := { program := "ytgnehcgaplnfkaadoor", sum := "2db9a9d72de1fc4218211e39ea3146b71a6273a16149bc441aeb60a95f37db05", func := "dryrot/dryrotlaw09.MatchNot", spec := "matchNot", inPlace := ["internal/abi.NoEscape", "internal/bytealg.MakeNoZero", "internal/bytealg.IndexByteString", "internal/bytealg.IndexString"], unfollowed := true, recurses := true, named := ["unicode/utf8.first", "unicode/utf8.acceptRanges", "internal/bytealg.MaxLen"], apart := false, laid := [("unicode/utf8.acceptRanges", laid_unicode_utf8_acceptRanges), ("unicode/utf8.first", laid_unicode_utf8_first)] }
def MatchNotSaid : Prop := matchNotRow.holds Tryd.pinned (OpenSpec.ofChange matchNotSpec)

/-- ITS FALSE NEIGHBOUR: 'it returns false'. Refute it at one input. -/
def matchNotWrong : ChangeSpec := { name := "matchNot", fn := fun _ => fun
  | [d1, d2, d3, d4] => { results := [.lit (.bool false)], args := [d1, d2, d3, d4] }
  | _ => none }
def MatchNotWrongFalsely : Prop := matchNotRow.holds Tryd.pinned (OpenSpec.ofChange matchNotWrong)

/-- 'dryrotlaw09.MatchOwn': WHATEVER THE INPUT: true; the input reads as it did. -/
def matchOwnSpec : ChangeSpec := { name := "matchOwn", fn := fun _ => fun
  | [d1, d2] => { results := [.lit (.bool true)], args := [d1, d2] }
  | _ => none }
def matchOwnRow : OpenClaim := { program := "ytgnehcgaplnfkaadoor", sum := "2db9a9d72de1fc4218211e39ea3146b71a6273a16149bc441aeb60a95f37db05", func := "dryrot/dryrotlaw09.MatchOwn", spec := "matchOwn", inPlace := ["internal/abi.NoEscape", "internal/bytealg.MakeNoZero", "internal/bytealg.IndexByteString", "internal/bytealg.IndexString"], unfollowed := true, recurses := true, named := ["unicode/utf8.first", "unicode/utf8.acceptRanges", "internal/bytealg.MaxLen"], apart := false, laid := [("unicode/utf8.acceptRanges", laid_unicode_utf8_acceptRanges), ("unicode/utf8.first", laid_unicode_utf8_first)] }
def MatchOwnSaid : Prop := matchOwnRow.holds Tryd.pinned (OpenSpec.ofChange matchOwnSpec)

/-- ITS FALSE NEIGHBOUR: 'it returns false'. Refute it at one input. -/
def matchOwnWrong : ChangeSpec := { name := "matchOwn", fn := fun _ => fun
  | [d1, d2] => { results := [.lit (.bool false)], args := [d1, d2] }
  | _ => none }
def MatchOwnWrongFalsely : Prop := matchOwnRow.holds Tryd.pinned (OpenSpec.ofChange matchOwnWrong)

/-- 'dryrotlaw09.MatchEmpty': WHATEVER THE INPUT: true; the input reads as it did. -/
def matchEmptySpec : ChangeSpec := { name := "matchEmpty", fn := fun _ => fun
  | [d1, d2] => { results := [.lit (.bool true)], args := [d1, d2] }
  | _ => none }
def matchEmptyRow : OpenClaim := { program := "ytgnehcgaplnfkaadoor", sum := "2db9a9d72de1fc4218211e39ea3146b71a6273a16149bc441aeb60a95f37db05", func := "dryrot/dryrotlaw09.MatchEmpty", spec := "matchEmpty", inPlace := ["internal/abi.NoEscape", "internal/bytealg.MakeNoZero", "internal/bytealg.IndexByteString", "internal/bytealg.IndexString"], unfollowed := true, recurses := true, named := ["unicode/utf8.first", "unicode/utf8.acceptRanges", "internal/bytealg.MaxLen"], apart := false, laid := [("unicode/utf8.acceptRanges", laid_unicode_utf8_acceptRanges), ("unicode/utf8.first", laid_unicode_utf8_first)] }
def MatchEmptySaid : Prop := matchEmptyRow.holds Tryd.pinned (OpenSpec.ofChange matchEmptySpec)

/-- ITS FALSE NEIGHBOUR: 'it returns false'. Refute it at one input. -/
def matchEmptyWrong : ChangeSpec := { name := "matchEmpty", fn := fun _ => fun
  | [d1, d2] => { results := [.lit (.bool false)], args := [d1, d2] }
  | _ => none }
def MatchEmptyWrongFalsely : Prop := matchEmptyRow.holds Tryd.pinned (OpenSpec.ofChange matchEmptyWrong)

/-- 'dryrotlaw14.TombHeeds': WHATEVER THE INPUT: true; the input reads as it did. -/
def tombHeedsSpec : ChangeSpec := { name := "tombHeeds", fn := fun _ => fun
  | [d1, d2, d3, d4] => { results := [.lit (.bool true)], args := [d1, d2, d3, d4] }
  | _ => none }
def tombHeedsRow : OpenClaim := { program := "ytgnehcgaplnfkaadoor", sum := "2db9a9d72de1fc4218211e39ea3146b71a6273a16149bc441aeb60a95f37db05", func := "dryrot/dryrotlaw14.TombHeeds", spec := "tombHeeds", inPlace := ["internal/abi.NoEscape", "internal/bytealg.MakeNoZero", "internal/bytealg.IndexByteString", "internal/bytealg.IndexString"], unfollowed := true, recurses := true, named := ["unicode/utf8.first", "unicode/utf8.acceptRanges", "internal/bytealg.MaxLen"], apart := false, laid := [("unicode/utf8.acceptRanges", laid_unicode_utf8_acceptRanges), ("unicode/utf8.first", laid_unicode_utf8_first)] }
def TombHeedsSaid : Prop := tombHeedsRow.holds Tryd.pinned (OpenSpec.ofChange tombHeedsSpec)

/-- ITS FALSE NEIGHBOUR: 'it returns false'. Refute it at one input. -/
def tombHeedsWrong : ChangeSpec := { name := "tombHeeds", fn := fun _ => fun
  | [d1, d2, d3, d4] => { results := [.lit (.bool false)], args := [d1, d2, d3, d4] }
  | _ => none }
def TombHeedsWrongFalsely : Prop := tombHeedsRow.holds Tryd.pinned (OpenSpec.ofChange tombHeedsWrong)

/-- 'dryrotlaw14.TombPrunes': WHATEVER THE INPUT: true; the input reads as it did. -/
def tombPrunesSpec : ChangeSpec := { name := "tombPrunes", fn := fun _ => fun
  | [d1, d2] => { results := [.lit (.bool true)], args := [d1, d2] }
  | _ => none }
def tombPrunesRow : OpenClaim := { program := "ytgnehcgaplnfkaadoor", sum := "2db9a9d72de1fc4218211e39ea3146b71a6273a16149bc441aeb60a95f37db05", func := "dryrot/dryrotlaw14.TombPrunes", spec := "tombPrunes", inPlace := ["internal/abi.NoEscape", "internal/bytealg.MakeNoZero", "internal/bytealg.IndexByteString", "internal/bytealg.IndexString"], unfollowed := true, recurses := true, named := ["unicode/utf8.first", "unicode/utf8.acceptRanges", "internal/bytealg.MaxLen"], apart := false, laid := [("unicode/utf8.acceptRanges", laid_unicode_utf8_acceptRanges), ("unicode/utf8.first", laid_unicode_utf8_first)] }
def TombPrunesSaid : Prop := tombPrunesRow.holds Tryd.pinned (OpenSpec.ofChange tombPrunesSpec)

/-- ITS FALSE NEIGHBOUR: 'it returns false'. Refute it at one input. -/
def tombPrunesWrong : ChangeSpec := { name := "tombPrunes", fn := fun _ => fun
  | [d1, d2] => { results := [.lit (.bool false)], args := [d1, d2] }
  | _ => none }
def TombPrunesWrongFalsely : Prop := tombPrunesRow.holds Tryd.pinned (OpenSpec.ofChange tombPrunesWrong)

/- THE SECOND FORM. 'bulk': how many values and letters a reading holds, each counted each time it is reached (what is shared counts as often as it is met; a slice's spare places count too). A statement '..UptoSaid' is the law's where the arguments, and the package variables that the reading takes, are together of bulk at most 1048576: NARROWER than '..Said'. Prove '..Said' where nothing that the law and all that it calls make is longer than what came in: it says more and counts as full. Else prove '..UptoSaid'. A law counts once. -/
mutual
def uptoBulk {H : Type} : DataW H → Nat
  | .lit (.string bytes) => bytes.length + 1
  | .lit _ => 1
  | .nil => 1
  | .ptr d => uptoBulk d + 1
  | .slice elems spare => uptoBulkAll elems + uptoBulkAll spare + 1
  | .agg parts => uptoBulkAll parts + 1
  | .iface _ d => uptoBulk d + 1
  | .map entries => uptoBulkEntries entries + 1
  | .held _ => 1
def uptoBulkAll {H : Type} : List (DataW H) → Nat
  | [] => 0
  | d :: r => uptoBulk d + uptoBulkAll r
def uptoBulkEntries {H : Type} : List (Lit × DataW H) → Nat
  | [] => 0
  | x :: r => uptoBulkEntry x + uptoBulkEntries r
def uptoBulkEntry {H : Type} : Lit × DataW H → Nat
  | (.string bytes, d) => bytes.length + uptoBulk d + 1
  | (_, d) => uptoBulk d + 1
 end
def uptoSmall : (H : Type) → List (DataW H) → Bool := fun _ ds => decide (uptoBulkAll ds ≤ 1048576)
def OpenSpec.upto (s : _root_.Go.ChangeSpec) : _root_.Go.OpenSpec := { _root_.Go.OpenSpec.ofChange s with cond := some uptoSmall }

/-- 'dryrotlaw08.RegexAny', WHERE WHAT IT READS IS OF BULK AT MOST 1048576: true; the input reads as it did. -/
def regexAnyUptoRow : OpenClaim := { program := "ytgnehcgaplnfkaadoor", sum := "2db9a9d72de1fc4218211e39ea3146b71a6273a16149bc441aeb60a95f37db05", func := "dryrot/dryrotlaw08.RegexAny", spec := "regexAny", inPlace := ["internal/abi.NoEscape", "internal/bytealg.MakeNoZero", "internal/bytealg.IndexByteString", "internal/bytealg.IndexString"], unfollowed := true, recurses := true, named := ["unicode/utf8.first", "unicode/utf8.acceptRanges", "internal/bytealg.MaxLen"], apart := false, laid := [("unicode/utf8.acceptRanges", laid_unicode_utf8_acceptRanges), ("unicode/utf8.first", laid_unicode_utf8_first)], narrowed := true }
def RegexAnyUptoSaid : Prop := regexAnyUptoRow.holds Tryd.pinned (OpenSpec.upto regexAnySpec)

/-- 'dryrotlaw08.RegexEither', WHERE WHAT IT READS IS OF BULK AT MOST 1048576: true; the input reads as it did. -/
def regexEitherUptoRow : OpenClaim := { program := "ytgnehcgaplnfkaadoor", sum := "2db9a9d72de1fc4218211e39ea3146b71a6273a16149bc441aeb60a95f37db05", func := "dryrot/dryrotlaw08.RegexEither", spec := "regexEither", inPlace := ["internal/abi.NoEscape", "internal/bytealg.MakeNoZero", "internal/bytealg.IndexByteString", "internal/bytealg.IndexString"], unfollowed := true, recurses := true, named := ["unicode/utf8.first", "unicode/utf8.acceptRanges", "internal/bytealg.MaxLen"], apart := false, laid := [("unicode/utf8.acceptRanges", laid_unicode_utf8_acceptRanges), ("unicode/utf8.first", laid_unicode_utf8_first)], narrowed := true }
def RegexEitherUptoSaid : Prop := regexEitherUptoRow.holds Tryd.pinned (OpenSpec.upto regexEitherSpec)

/-- 'dryrotlaw08.RegexLiteral', WHERE WHAT IT READS IS OF BULK AT MOST 1048576: true; the input reads as it did. -/
def regexLiteralUptoRow : OpenClaim := { program := "ytgnehcgaplnfkaadoor", sum := "2db9a9d72de1fc4218211e39ea3146b71a6273a16149bc441aeb60a95f37db05", func := "dryrot/dryrotlaw08.RegexLiteral", spec := "regexLiteral", inPlace := ["internal/abi.NoEscape", "internal/bytealg.MakeNoZero", "internal/bytealg.IndexByteString", "internal/bytealg.IndexString"], unfollowed := true, recurses := true, named := ["unicode/utf8.first", "unicode/utf8.acceptRanges", "internal/bytealg.MaxLen"], apart := false, laid := [("unicode/utf8.acceptRanges", laid_unicode_utf8_acceptRanges), ("unicode/utf8.first", laid_unicode_utf8_first)], narrowed := true }
def RegexLiteralUptoSaid : Prop := regexLiteralUptoRow.holds Tryd.pinned (OpenSpec.upto regexLiteralSpec)

/-- 'dryrotlaw09.MatchNot', WHERE WHAT IT READS IS OF BULK AT MOST 1048576: true; the input reads as it did. -/
def matchNotUptoRow : OpenClaim := { program := "ytgnehcgaplnfkaadoor", sum := "2db9a9d72de1fc4218211e39ea3146b71a6273a16149bc441aeb60a95f37db05", func := "dryrot/dryrotlaw09.MatchNot", spec := "matchNot", inPlace := ["internal/abi.NoEscape", "internal/bytealg.MakeNoZero", "internal/bytealg.IndexByteString", "internal/bytealg.IndexString"], unfollowed := true, recurses := true, named := ["unicode/utf8.first", "unicode/utf8.acceptRanges", "internal/bytealg.MaxLen"], apart := false, laid := [("unicode/utf8.acceptRanges", laid_unicode_utf8_acceptRanges), ("unicode/utf8.first", laid_unicode_utf8_first)], narrowed := true }
def MatchNotUptoSaid : Prop := matchNotUptoRow.holds Tryd.pinned (OpenSpec.upto matchNotSpec)

/-- 'dryrotlaw09.MatchOwn', WHERE WHAT IT READS IS OF BULK AT MOST 1048576: true; the input reads as it did. -/
def matchOwnUptoRow : OpenClaim := { program := "ytgnehcgaplnfkaadoor", sum := "2db9a9d72de1fc4218211e39ea3146b71a6273a16149bc441aeb60a95f37db05", func := "dryrot/dryrotlaw09.MatchOwn", spec := "matchOwn", inPlace := ["internal/abi.NoEscape", "internal/bytealg.MakeNoZero", "internal/bytealg.IndexByteString", "internal/bytealg.IndexString"], unfollowed := true, recurses := true, named := ["unicode/utf8.first", "unicode/utf8.acceptRanges", "internal/bytealg.MaxLen"], apart := false, laid := [("unicode/utf8.acceptRanges", laid_unicode_utf8_acceptRanges), ("unicode/utf8.first", laid_unicode_utf8_first)], narrowed := true }
def MatchOwnUptoSaid : Prop := matchOwnUptoRow.holds Tryd.pinned (OpenSpec.upto matchOwnSpec)

/-- 'dryrotlaw09.MatchEmpty', WHERE WHAT IT READS IS OF BULK AT MOST 1048576: true; the input reads as it did. -/
def matchEmptyUptoRow : OpenClaim := { program := "ytgnehcgaplnfkaadoor", sum := "2db9a9d72de1fc4218211e39ea3146b71a6273a16149bc441aeb60a95f37db05", func := "dryrot/dryrotlaw09.MatchEmpty", spec := "matchEmpty", inPlace := ["internal/abi.NoEscape", "internal/bytealg.MakeNoZero", "internal/bytealg.IndexByteString", "internal/bytealg.IndexString"], unfollowed := true, recurses := true, named := ["unicode/utf8.first", "unicode/utf8.acceptRanges", "internal/bytealg.MaxLen"], apart := false, laid := [("unicode/utf8.acceptRanges", laid_unicode_utf8_acceptRanges), ("unicode/utf8.first", laid_unicode_utf8_first)], narrowed := true }
def MatchEmptyUptoSaid : Prop := matchEmptyUptoRow.holds Tryd.pinned (OpenSpec.upto matchEmptySpec)

/-- 'dryrotlaw14.TombHeeds', WHERE WHAT IT READS IS OF BULK AT MOST 1048576: true; the input reads as it did. -/
def tombHeedsUptoRow : OpenClaim := { program := "ytgnehcgaplnfkaadoor", sum := "2db9a9d72de1fc4218211e39ea3146b71a6273a16149bc441aeb60a95f37db05", func := "dryrot/dryrotlaw14.TombHeeds", spec := "tombHeeds", inPlace := ["internal/abi.NoEscape", "internal/bytealg.MakeNoZero", "internal/bytealg.IndexByteString", "internal/bytealg.IndexString"], unfollowed := true, recurses := true, named := ["unicode/utf8.first", "unicode/utf8.acceptRanges", "internal/bytealg.MaxLen"], apart := false, laid := [("unicode/utf8.acceptRanges", laid_unicode_utf8_acceptRanges), ("unicode/utf8.first", laid_unicode_utf8_first)], narrowed := true }
def TombHeedsUptoSaid : Prop := tombHeedsUptoRow.holds Tryd.pinned (OpenSpec.upto tombHeedsSpec)

/-- 'dryrotlaw14.TombPrunes', WHERE WHAT IT READS IS OF BULK AT MOST 1048576: true; the input reads as it did. -/
def tombPrunesUptoRow : OpenClaim := { program := "ytgnehcgaplnfkaadoor", sum := "2db9a9d72de1fc4218211e39ea3146b71a6273a16149bc441aeb60a95f37db05", func := "dryrot/dryrotlaw14.TombPrunes", spec := "tombPrunes", inPlace := ["internal/abi.NoEscape", "internal/bytealg.MakeNoZero", "internal/bytealg.IndexByteString", "internal/bytealg.IndexString"], unfollowed := true, recurses := true, named := ["unicode/utf8.first", "unicode/utf8.acceptRanges", "internal/bytealg.MaxLen"], apart := false, laid := [("unicode/utf8.acceptRanges", laid_unicode_utf8_acceptRanges), ("unicode/utf8.first", laid_unicode_utf8_first)], narrowed := true }
def TombPrunesUptoSaid : Prop := tombPrunesUptoRow.holds Tryd.pinned (OpenSpec.upto tombPrunesSpec)

end Rows
end Go.Proofs.YtgnehcgaplnfkaaDoor
