/-
  DERIVED. GIVEN WITH THE SEED: THE CARDS: each row of YtgnehcgaplnfkaaDoorRows.lean that lists a variable, with what it lists TIED to the program's text (the seventh form; the later family's looks); each row that meets fmt, with fmt's text TOLD by the authors' own Lean function (tested against real Go, not proved from fmt's source: count such statements apart). THE CARD IS WHAT COUNTS. Prove the row's statement (the work); the ties are given (YtgnehcgaplnfkaaDoorTie.lean); close each card by the builder's one call (the guide's Derived/Test/ToyasCard.lean, 'card_holds'). Laid BY PROGRAM, IN A SANDBOX (cutbox-door.mjs). By AI agents, Wed Nov 11 2026. No macro, syntax, notation, axiom, sorry.
-/
import Derived.Test.YtgnehcgaplnfkaaDoorRows
import GoSem.ClaimSeven
namespace Go.Proofs.YtgnehcgaplnfkaaDoor
namespace Rows

/-- THE TIED CARD OF 'dryrotlaw08.RegexAny'. -/
def regexAnyCard : Claim7 := { stood := { row := regexAnyRow, standIns := [], harness := (true, "67746eaf485441d39ba168656b825128ec06c6280b8af34b7b596d1029876884"), looks := true }, kinds := [], alts := [], laidByText := true, laidKinds := [.data, .pinned], laidTests := true, laidLooks := .later }
def RegexAnyCardSaid : Prop := Claim7.holds Tryd.pinned (.plain (OpenSpec.ofChange regexAnySpec)) regexAnyCard

/-- THE TIED CARD OF 'dryrotlaw08.RegexEither'. -/
def regexEitherCard : Claim7 := { stood := { row := regexEitherRow, standIns := [], harness := (true, "67746eaf485441d39ba168656b825128ec06c6280b8af34b7b596d1029876884"), looks := true }, kinds := [], alts := [], laidByText := true, laidKinds := [.data, .pinned], laidTests := true, laidLooks := .later }
def RegexEitherCardSaid : Prop := Claim7.holds Tryd.pinned (.plain (OpenSpec.ofChange regexEitherSpec)) regexEitherCard

/-- THE TIED CARD OF 'dryrotlaw08.RegexLiteral'. -/
def regexLiteralCard : Claim7 := { stood := { row := regexLiteralRow, standIns := [], harness := (true, "67746eaf485441d39ba168656b825128ec06c6280b8af34b7b596d1029876884"), looks := true }, kinds := [], alts := [], laidByText := true, laidKinds := [.data, .pinned], laidTests := true, laidLooks := .later }
def RegexLiteralCardSaid : Prop := Claim7.holds Tryd.pinned (.plain (OpenSpec.ofChange regexLiteralSpec)) regexLiteralCard

/-- THE TIED CARD OF 'dryrotlaw09.MatchNot'. -/
def matchNotCard : Claim7 := { stood := { row := matchNotRow, standIns := [], harness := (true, "67746eaf485441d39ba168656b825128ec06c6280b8af34b7b596d1029876884"), looks := true }, kinds := [], alts := [], laidByText := true, laidKinds := [.data, .pinned], laidTests := true, laidLooks := .later }
def MatchNotCardSaid : Prop := Claim7.holds Tryd.pinned (.plain (OpenSpec.ofChange matchNotSpec)) matchNotCard

/-- THE TIED CARD OF 'dryrotlaw09.MatchOwn'. -/
def matchOwnCard : Claim7 := { stood := { row := matchOwnRow, standIns := [], harness := (true, "67746eaf485441d39ba168656b825128ec06c6280b8af34b7b596d1029876884"), looks := true }, kinds := [], alts := [], laidByText := true, laidKinds := [.data, .pinned], laidTests := true, laidLooks := .later }
def MatchOwnCardSaid : Prop := Claim7.holds Tryd.pinned (.plain (OpenSpec.ofChange matchOwnSpec)) matchOwnCard

/-- THE TIED CARD OF 'dryrotlaw09.MatchEmpty'. -/
def matchEmptyCard : Claim7 := { stood := { row := matchEmptyRow, standIns := [], harness := (true, "67746eaf485441d39ba168656b825128ec06c6280b8af34b7b596d1029876884"), looks := true }, kinds := [], alts := [], laidByText := true, laidKinds := [.data, .pinned], laidTests := true, laidLooks := .later }
def MatchEmptyCardSaid : Prop := Claim7.holds Tryd.pinned (.plain (OpenSpec.ofChange matchEmptySpec)) matchEmptyCard

/-- THE TIED CARD OF 'dryrotlaw14.TombHeeds'. -/
def tombHeedsCard : Claim7 := { stood := { row := tombHeedsRow, standIns := [], harness := (true, "67746eaf485441d39ba168656b825128ec06c6280b8af34b7b596d1029876884"), looks := true }, kinds := [], alts := [], laidByText := true, laidKinds := [.data, .pinned], laidTests := true, laidLooks := .later }
def TombHeedsCardSaid : Prop := Claim7.holds Tryd.pinned (.plain (OpenSpec.ofChange tombHeedsSpec)) tombHeedsCard

/-- THE TIED CARD OF 'dryrotlaw14.TombPrunes'. -/
def tombPrunesCard : Claim7 := { stood := { row := tombPrunesRow, standIns := [], harness := (true, "67746eaf485441d39ba168656b825128ec06c6280b8af34b7b596d1029876884"), looks := true }, kinds := [], alts := [], laidByText := true, laidKinds := [.data, .pinned], laidTests := true, laidLooks := .later }
def TombPrunesCardSaid : Prop := Claim7.holds Tryd.pinned (.plain (OpenSpec.ofChange tombPrunesSpec)) tombPrunesCard

/-- THE SECOND FORM's CARD OF 'dryrotlaw08.RegexAny'. -/
def regexAnyUptoCard : Claim7 := { stood := { row := regexAnyUptoRow, standIns := [], harness := (true, "67746eaf485441d39ba168656b825128ec06c6280b8af34b7b596d1029876884"), looks := true }, kinds := [], alts := [], laidByText := true, laidKinds := [.data, .pinned], laidTests := true, laidLooks := .later }
def RegexAnyUptoCardSaid : Prop := Claim7.holds Tryd.pinned (.plain (OpenSpec.upto regexAnySpec)) regexAnyUptoCard

/-- THE SECOND FORM's CARD OF 'dryrotlaw08.RegexEither'. -/
def regexEitherUptoCard : Claim7 := { stood := { row := regexEitherUptoRow, standIns := [], harness := (true, "67746eaf485441d39ba168656b825128ec06c6280b8af34b7b596d1029876884"), looks := true }, kinds := [], alts := [], laidByText := true, laidKinds := [.data, .pinned], laidTests := true, laidLooks := .later }
def RegexEitherUptoCardSaid : Prop := Claim7.holds Tryd.pinned (.plain (OpenSpec.upto regexEitherSpec)) regexEitherUptoCard

/-- THE SECOND FORM's CARD OF 'dryrotlaw08.RegexLiteral'. -/
def regexLiteralUptoCard : Claim7 := { stood := { row := regexLiteralUptoRow, standIns := [], harness := (true, "67746eaf485441d39ba168656b825128ec06c6280b8af34b7b596d1029876884"), looks := true }, kinds := [], alts := [], laidByText := true, laidKinds := [.data, .pinned], laidTests := true, laidLooks := .later }
def RegexLiteralUptoCardSaid : Prop := Claim7.holds Tryd.pinned (.plain (OpenSpec.upto regexLiteralSpec)) regexLiteralUptoCard

/-- THE SECOND FORM's CARD OF 'dryrotlaw09.MatchNot'. -/
def matchNotUptoCard : Claim7 := { stood := { row := matchNotUptoRow, standIns := [], harness := (true, "67746eaf485441d39ba168656b825128ec06c6280b8af34b7b596d1029876884"), looks := true }, kinds := [], alts := [], laidByText := true, laidKinds := [.data, .pinned], laidTests := true, laidLooks := .later }
def MatchNotUptoCardSaid : Prop := Claim7.holds Tryd.pinned (.plain (OpenSpec.upto matchNotSpec)) matchNotUptoCard

/-- THE SECOND FORM's CARD OF 'dryrotlaw09.MatchOwn'. -/
def matchOwnUptoCard : Claim7 := { stood := { row := matchOwnUptoRow, standIns := [], harness := (true, "67746eaf485441d39ba168656b825128ec06c6280b8af34b7b596d1029876884"), looks := true }, kinds := [], alts := [], laidByText := true, laidKinds := [.data, .pinned], laidTests := true, laidLooks := .later }
def MatchOwnUptoCardSaid : Prop := Claim7.holds Tryd.pinned (.plain (OpenSpec.upto matchOwnSpec)) matchOwnUptoCard

/-- THE SECOND FORM's CARD OF 'dryrotlaw09.MatchEmpty'. -/
def matchEmptyUptoCard : Claim7 := { stood := { row := matchEmptyUptoRow, standIns := [], harness := (true, "67746eaf485441d39ba168656b825128ec06c6280b8af34b7b596d1029876884"), looks := true }, kinds := [], alts := [], laidByText := true, laidKinds := [.data, .pinned], laidTests := true, laidLooks := .later }
def MatchEmptyUptoCardSaid : Prop := Claim7.holds Tryd.pinned (.plain (OpenSpec.upto matchEmptySpec)) matchEmptyUptoCard

/-- THE SECOND FORM's CARD OF 'dryrotlaw14.TombHeeds'. -/
def tombHeedsUptoCard : Claim7 := { stood := { row := tombHeedsUptoRow, standIns := [], harness := (true, "67746eaf485441d39ba168656b825128ec06c6280b8af34b7b596d1029876884"), looks := true }, kinds := [], alts := [], laidByText := true, laidKinds := [.data, .pinned], laidTests := true, laidLooks := .later }
def TombHeedsUptoCardSaid : Prop := Claim7.holds Tryd.pinned (.plain (OpenSpec.upto tombHeedsSpec)) tombHeedsUptoCard

/-- THE SECOND FORM's CARD OF 'dryrotlaw14.TombPrunes'. -/
def tombPrunesUptoCard : Claim7 := { stood := { row := tombPrunesUptoRow, standIns := [], harness := (true, "67746eaf485441d39ba168656b825128ec06c6280b8af34b7b596d1029876884"), looks := true }, kinds := [], alts := [], laidByText := true, laidKinds := [.data, .pinned], laidTests := true, laidLooks := .later }
def TombPrunesUptoCardSaid : Prop := Claim7.holds Tryd.pinned (.plain (OpenSpec.upto tombPrunesSpec)) tombPrunesUptoCard
end Rows
end Go.Proofs.YtgnehcgaplnfkaaDoor
