/-
  No cell of these rows narrows 'for every input' (looked for: loops, veiled, ifaces, maps, wideKeys, modest, calm, conditions, laid).
  DERIVED. THE GIVEN ROWS OF THIS SEAT. 7 by the template 'for every input the law returns true; each argument reads behind the call as it read before'; 0 by the template 'total and deterministic' (their statements: YtdbbfhmcbogknaaTotals.lean).
  GIVEN WITH THE SEED: the statements are not yours to turn. If you find one false, say at which input.
  Laid BY PROGRAM, IN A SANDBOX (cutbox-rows.mjs): the forced cells as the released guide's own fill.sh prints them over the translation 1003f808c2518cb0… (all of the seat's roots in one cut). By AI agents, Wed Nov 11 2026. No macro, syntax, notation, axiom, sorry.
-/
import Derived.Test.YtdbbfhmcbogknaaChecked
import GoSem.Claim
import GoSem.ClaimJoined
import GoSem.ClaimMapViews
import Derived.JoinedTies
import Derived.KernelRfl
namespace Go.Proofs.Ytdbbfhmcbogknaa
/- THE CELL 'sum', in the pinned program and in every row, IS THE sha256 OF THE DUMP (.gsa) THAT YtdbbfhmcbogknaaProg.lean LOADS. Nothing in Lean hashes anything: it is a label: what it is worth is what the hold of that sum in a sandbox is worth. -/
noncomputable def Try.pinned : Pinned := { name := "ytdbbfhmcbogknaa", sum := "1003f808c2518cb020a3720a4607682b2e73071df64d5370fb55aeb0a24e4ceb", checked := Try.checked }
namespace Rows
def none {H : Type} : Left H := { results := [], args := [] }

/-- 'dryrotlaw07.LabelsQuote': WHATEVER THE INPUT: true; the input reads as it did. -/
def labelsQuoteSpec : ChangeSpec := { name := "labelsQuote", fn := fun _ => fun
  | [d] => { results := [.lit (.bool true)], args := [d] }
  | _ => none }
def labelsQuoteRow : OpenClaim := { program := "ytdbbfhmcbogknaa", sum := "1003f808c2518cb020a3720a4607682b2e73071df64d5370fb55aeb0a24e4ceb", func := "dryrot/dryrotlaw07.LabelsQuote", spec := "labelsQuote", inPlace := ["internal/abi.NoEscape", "internal/bytealg.MakeNoZero"], unfollowed := true, recurses := true, apart := false }
def LabelsQuoteSaid : Prop := labelsQuoteRow.holds Try.pinned (OpenSpec.ofChange labelsQuoteSpec)

/-- ITS FALSE NEIGHBOUR: 'it returns false'. Refute it at one input. -/
def labelsQuoteWrong : ChangeSpec := { name := "labelsQuote", fn := fun _ => fun
  | [d] => { results := [.lit (.bool false)], args := [d] }
  | _ => none }
def LabelsQuoteWrongFalsely : Prop := labelsQuoteRow.holds Try.pinned (OpenSpec.ofChange labelsQuoteWrong)

/-- 'dryrotlaw07.LabelsShort': WHATEVER THE INPUT: true; the input reads as it did. -/
def labelsShortSpec : ChangeSpec := { name := "labelsShort", fn := fun _ => fun
  | [d1, d2] => { results := [.lit (.bool true)], args := [d1, d2] }
  | _ => none }
def labelsShortRow : OpenClaim := { program := "ytdbbfhmcbogknaa", sum := "1003f808c2518cb020a3720a4607682b2e73071df64d5370fb55aeb0a24e4ceb", func := "dryrot/dryrotlaw07.LabelsShort", spec := "labelsShort", inPlace := ["internal/abi.NoEscape", "internal/bytealg.MakeNoZero"], unfollowed := true, recurses := true, apart := false }
def LabelsShortSaid : Prop := labelsShortRow.holds Try.pinned (OpenSpec.ofChange labelsShortSpec)

/-- ITS FALSE NEIGHBOUR: 'it returns false'. Refute it at one input. -/
def labelsShortWrong : ChangeSpec := { name := "labelsShort", fn := fun _ => fun
  | [d1, d2] => { results := [.lit (.bool false)], args := [d1, d2] }
  | _ => none }
def LabelsShortWrongFalsely : Prop := labelsShortRow.holds Try.pinned (OpenSpec.ofChange labelsShortWrong)

/-- 'dryrotlaw07.LabelsBytes': WHATEVER THE INPUT: true; the input reads as it did. -/
def labelsBytesSpec : ChangeSpec := { name := "labelsBytes", fn := fun _ => fun
  | [d1, d2] => { results := [.lit (.bool true)], args := [d1, d2] }
  | _ => none }
def labelsBytesRow : OpenClaim := { program := "ytdbbfhmcbogknaa", sum := "1003f808c2518cb020a3720a4607682b2e73071df64d5370fb55aeb0a24e4ceb", func := "dryrot/dryrotlaw07.LabelsBytes", spec := "labelsBytes", inPlace := ["internal/abi.NoEscape", "internal/bytealg.MakeNoZero"], unfollowed := true, recurses := true, apart := false }
def LabelsBytesSaid : Prop := labelsBytesRow.holds Try.pinned (OpenSpec.ofChange labelsBytesSpec)

/-- ITS FALSE NEIGHBOUR: 'it returns false'. Refute it at one input. -/
def labelsBytesWrong : ChangeSpec := { name := "labelsBytes", fn := fun _ => fun
  | [d1, d2] => { results := [.lit (.bool false)], args := [d1, d2] }
  | _ => none }
def LabelsBytesWrongFalsely : Prop := labelsBytesRow.holds Try.pinned (OpenSpec.ofChange labelsBytesWrong)

/-- 'dryrotlaw07.LabelsCan': WHATEVER THE INPUT: true; the input reads as it did. -/
def labelsCanSpec : ChangeSpec := { name := "labelsCan", fn := fun _ => fun
  | [d1, d2, d3] => { results := [.lit (.bool true)], args := [d1, d2, d3] }
  | _ => none }
def labelsCanRow : OpenClaim := { program := "ytdbbfhmcbogknaa", sum := "1003f808c2518cb020a3720a4607682b2e73071df64d5370fb55aeb0a24e4ceb", func := "dryrot/dryrotlaw07.LabelsCan", spec := "labelsCan", inPlace := ["internal/abi.NoEscape", "internal/bytealg.MakeNoZero"], unfollowed := true, recurses := true, apart := false }
def LabelsCanSaid : Prop := labelsCanRow.holds Try.pinned (OpenSpec.ofChange labelsCanSpec)

/-- ITS FALSE NEIGHBOUR: 'it returns false'. Refute it at one input. -/
def labelsCanWrong : ChangeSpec := { name := "labelsCan", fn := fun _ => fun
  | [d1, d2, d3] => { results := [.lit (.bool false)], args := [d1, d2, d3] }
  | _ => none }
def LabelsCanWrongFalsely : Prop := labelsCanRow.holds Try.pinned (OpenSpec.ofChange labelsCanWrong)

/-- 'dryrotlaw07.LabelsOrder': WHATEVER THE INPUT: true; the input reads as it did. -/
def labelsOrderSpec : ChangeSpec := { name := "labelsOrder", fn := fun _ => fun
  | [d1, d2, d3] => { results := [.lit (.bool true)], args := [d1, d2, d3] }
  | _ => none }
def labelsOrderRow : OpenClaim := { program := "ytdbbfhmcbogknaa", sum := "1003f808c2518cb020a3720a4607682b2e73071df64d5370fb55aeb0a24e4ceb", func := "dryrot/dryrotlaw07.LabelsOrder", spec := "labelsOrder", inPlace := ["internal/abi.NoEscape", "internal/bytealg.MakeNoZero"], unfollowed := true, recurses := true, apart := false }
def LabelsOrderSaid : Prop := labelsOrderRow.holds Try.pinned (OpenSpec.ofChange labelsOrderSpec)

/-- ITS FALSE NEIGHBOUR: 'it returns false'. Refute it at one input. -/
def labelsOrderWrong : ChangeSpec := { name := "labelsOrder", fn := fun _ => fun
  | [d1, d2, d3] => { results := [.lit (.bool false)], args := [d1, d2, d3] }
  | _ => none }
def LabelsOrderWrongFalsely : Prop := labelsOrderRow.holds Try.pinned (OpenSpec.ofChange labelsOrderWrong)

/-- 'dryrotlaw07.LabelsText': WHATEVER THE INPUT: true; the input reads as it did. -/
def labelsTextSpec : ChangeSpec := { name := "labelsText", fn := fun _ => fun
  | [d1, d2] => { results := [.lit (.bool true)], args := [d1, d2] }
  | _ => none }
def labelsTextRow : OpenClaim := { program := "ytdbbfhmcbogknaa", sum := "1003f808c2518cb020a3720a4607682b2e73071df64d5370fb55aeb0a24e4ceb", func := "dryrot/dryrotlaw07.LabelsText", spec := "labelsText", inPlace := ["internal/abi.NoEscape", "internal/bytealg.MakeNoZero", "internal/bytealg.IndexByteString", "internal/bytealg.IndexString"], unfollowed := true, recurses := true, named := ["internal/bytealg.MaxLen"], apart := false }
def LabelsTextSaid : Prop := labelsTextRow.holds Try.pinned (OpenSpec.ofChange labelsTextSpec)

/-- ITS FALSE NEIGHBOUR: 'it returns false'. Refute it at one input. -/
def labelsTextWrong : ChangeSpec := { name := "labelsText", fn := fun _ => fun
  | [d1, d2] => { results := [.lit (.bool false)], args := [d1, d2] }
  | _ => none }
def LabelsTextWrongFalsely : Prop := labelsTextRow.holds Try.pinned (OpenSpec.ofChange labelsTextWrong)

/-- 'dryrotlaw07.LabelsBack': WHATEVER THE INPUT: true; the input reads as it did. -/
def labelsBackSpec : ChangeSpec := { name := "labelsBack", fn := fun _ => fun
  | [d1, d2] => { results := [.lit (.bool true)], args := [d1, d2] }
  | _ => none }
def labelsBackRow : OpenClaim := { program := "ytdbbfhmcbogknaa", sum := "1003f808c2518cb020a3720a4607682b2e73071df64d5370fb55aeb0a24e4ceb", func := "dryrot/dryrotlaw07.LabelsBack", spec := "labelsBack", inPlace := ["internal/abi.NoEscape", "internal/bytealg.MakeNoZero", "internal/bytealg.IndexByteString", "internal/bytealg.IndexString"], unfollowed := true, recurses := true, named := ["internal/bytealg.MaxLen"], apart := false }
def LabelsBackSaid : Prop := labelsBackRow.holds Try.pinned (OpenSpec.ofChange labelsBackSpec)

/-- ITS FALSE NEIGHBOUR: 'it returns false'. Refute it at one input. -/
def labelsBackWrong : ChangeSpec := { name := "labelsBack", fn := fun _ => fun
  | [d1, d2] => { results := [.lit (.bool false)], args := [d1, d2] }
  | _ => none }
def LabelsBackWrongFalsely : Prop := labelsBackRow.holds Try.pinned (OpenSpec.ofChange labelsBackWrong)

/- THE SECOND FORM. 'bulk': how many values and letters a reading holds, each counted each time it is reached (what is shared counts as often as it is met; a slice's spare places count too). A statement '..UptoSaid' is the law's where the arguments, and the package variables that the reading takes, are together of bulk at most 1048576: NARROWER than '..Said'. Prove '..Said' where nothing that the law and all that it calls make is longer than what came in: it says more and counts as full. Else prove '..UptoSaid'. A law counts once. -/
mutual
def uptoBulk {H : Type} : DataW H → Nat
  | .lit (.string bytes) => bytes.length + 1
  | .lit _ => 1
  | .nil => 1
  | .ptr d => uptoBulk d + 1
  | .slice elems spare => uptoBulkAll elems + uptoBulkAll spare + 1
  | .agg parts => uptoBulkAll parts + 1
  | .iface _ d => uptoBulk d + 1
  | .map entries => uptoBulkEntries entries + 1
  | .held _ => 1
def uptoBulkAll {H : Type} : List (DataW H) → Nat
  | [] => 0
  | d :: r => uptoBulk d + uptoBulkAll r
def uptoBulkEntries {H : Type} : List (Lit × DataW H) → Nat
  | [] => 0
  | x :: r => uptoBulkEntry x + uptoBulkEntries r
def uptoBulkEntry {H : Type} : Lit × DataW H → Nat
  | (.string bytes, d) => bytes.length + uptoBulk d + 1
  | (_, d) => uptoBulk d + 1
 end
def uptoSmall : (H : Type) → List (DataW H) → Bool := fun _ ds => decide (uptoBulkAll ds ≤ 1048576)
def OpenSpec.upto (s : _root_.Go.ChangeSpec) : _root_.Go.OpenSpec := { _root_.Go.OpenSpec.ofChange s with cond := some uptoSmall }

/-- 'dryrotlaw07.LabelsQuote', WHERE WHAT IT READS IS OF BULK AT MOST 1048576: true; the input reads as it did. -/
def labelsQuoteUptoRow : OpenClaim := { program := "ytdbbfhmcbogknaa", sum := "1003f808c2518cb020a3720a4607682b2e73071df64d5370fb55aeb0a24e4ceb", func := "dryrot/dryrotlaw07.LabelsQuote", spec := "labelsQuote", inPlace := ["internal/abi.NoEscape", "internal/bytealg.MakeNoZero"], unfollowed := true, recurses := true, apart := false, narrowed := true }
def LabelsQuoteUptoSaid : Prop := labelsQuoteUptoRow.holds Try.pinned (OpenSpec.upto labelsQuoteSpec)

/-- 'dryrotlaw07.LabelsShort', WHERE WHAT IT READS IS OF BULK AT MOST 1048576: true; the input reads as it did. -/
def labelsShortUptoRow : OpenClaim := { program := "ytdbbfhmcbogknaa", sum := "1003f808c2518cb020a3720a4607682b2e73071df64d5370fb55aeb0a24e4ceb", func := "dryrot/dryrotlaw07.LabelsShort", spec := "labelsShort", inPlace := ["internal/abi.NoEscape", "internal/bytealg.MakeNoZero"], unfollowed := true, recurses := true, apart := false, narrowed := true }
def LabelsShortUptoSaid : Prop := labelsShortUptoRow.holds Try.pinned (OpenSpec.upto labelsShortSpec)

/-- 'dryrotlaw07.LabelsBytes', WHERE WHAT IT READS IS OF BULK AT MOST 1048576: true; the input reads as it did. -/
def labelsBytesUptoRow : OpenClaim := { program := "ytdbbfhmcbogknaa", sum := "1003f808c2518cb020a3720a4607682b2e73071df64d5370fb55aeb0a24e4ceb", func := "dryrot/dryrotlaw07.LabelsBytes", spec := "labelsBytes", inPlace := ["internal/abi.NoEscape", "internal/bytealg.MakeNoZero"], unfollowed := true, recurses := true, apart := false, narrowed := true }
def LabelsBytesUptoSaid : Prop := labelsBytesUptoRow.holds Try.pinned (OpenSpec.upto labelsBytesSpec)

/-- 'dryrotlaw07.LabelsCan', WHERE WHAT IT READS IS OF BULK AT MOST 1048576: true; the input reads as it did. -/
def labelsCanUptoRow : OpenClaim := { program := "ytdbbfhmcbogknaa", sum := "1003f808c2518cb020a3720a4607682b2e73071df64d5370fb55aeb0a24e4ceb", func := "dryrot/dryrotlaw07.LabelsCan", spec := "labelsCan", inPlace := ["internal/abi.NoEscape", "internal/bytealg.MakeNoZero"], unfollowed := true, recurses := true, apart := false, narrowed := true }
def LabelsCanUptoSaid : Prop := labelsCanUptoRow.holds Try.pinned (OpenSpec.upto labelsCanSpec)

/-- 'dryrotlaw07.LabelsOrder', WHERE WHAT IT READS IS OF BULK AT MOST 1048576: true; the input reads as it did. -/
def labelsOrderUptoRow : OpenClaim := { program := "ytdbbfhmcbogknaa", sum := "1003f808c2518cb020a3720a4607682b2e73071df64d5370fb55aeb0a24e4ceb", func := "dryrot/dryrotlaw07.LabelsOrder", spec := "labelsOrder", inPlace := ["internal/abi.NoEscape", "internal/bytealg.MakeNoZero"], unfollowed := true, recurses := true, apart := false, narrowed := true }
def LabelsOrderUptoSaid : Prop := labelsOrderUptoRow.holds Try.pinned (OpenSpec.upto labelsOrderSpec)

/-- 'dryrotlaw07.LabelsText', WHERE WHAT IT READS IS OF BULK AT MOST 1048576: true; the input reads as it did. -/
def labelsTextUptoRow : OpenClaim := { program := "ytdbbfhmcbogknaa", sum := "1003f808c2518cb020a3720a4607682b2e73071df64d5370fb55aeb0a24e4ceb", func := "dryrot/dryrotlaw07.LabelsText", spec := "labelsText", inPlace := ["internal/abi.NoEscape", "internal/bytealg.MakeNoZero", "internal/bytealg.IndexByteString", "internal/bytealg.IndexString"], unfollowed := true, recurses := true, named := ["internal/bytealg.MaxLen"], apart := false, narrowed := true }
def LabelsTextUptoSaid : Prop := labelsTextUptoRow.holds Try.pinned (OpenSpec.upto labelsTextSpec)

/-- 'dryrotlaw07.LabelsBack', WHERE WHAT IT READS IS OF BULK AT MOST 1048576: true; the input reads as it did. -/
def labelsBackUptoRow : OpenClaim := { program := "ytdbbfhmcbogknaa", sum := "1003f808c2518cb020a3720a4607682b2e73071df64d5370fb55aeb0a24e4ceb", func := "dryrot/dryrotlaw07.LabelsBack", spec := "labelsBack", inPlace := ["internal/abi.NoEscape", "internal/bytealg.MakeNoZero", "internal/bytealg.IndexByteString", "internal/bytealg.IndexString"], unfollowed := true, recurses := true, named := ["internal/bytealg.MaxLen"], apart := false, narrowed := true }
def LabelsBackUptoSaid : Prop := labelsBackUptoRow.holds Try.pinned (OpenSpec.upto labelsBackSpec)

end Rows
end Go.Proofs.Ytdbbfhmcbogknaa
