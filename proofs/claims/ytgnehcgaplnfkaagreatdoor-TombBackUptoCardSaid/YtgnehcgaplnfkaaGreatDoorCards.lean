/-
  DERIVED. GIVEN WITH THE SEED: THE CARDS: each row of YtgnehcgaplnfkaaGreatDoorRows.lean that lists a variable, with what it lists TIED to the program's text (the seventh form; the later family's looks); each row that meets fmt, with fmt's text TOLD by the authors' own Lean function (tested against real Go, not proved from fmt's source: count such statements apart). THE CARD IS WHAT COUNTS. Prove the row's statement (the work); the ties are given (YtgnehcgaplnfkaaGreatDoorTie.lean); close each card by the builder's one call (the guide's Derived/Test/ToyasCard.lean, 'card_holds'). Laid BY PROGRAM, IN A SANDBOX (cutbox-door.mjs). By AI agents, Wed Nov 11 2026. No macro, syntax, notation, axiom, sorry.
-/
import Derived.Test.YtgnehcgaplnfkaaGreatDoorRows
import GoSem.ClaimSeven
namespace Go.Proofs.YtgnehcgaplnfkaaGreatDoor
namespace Rows

/-- THE TIED CARD OF 'dryrotlaw10.RecordOnce'. -/
def recordOnceCard : Claim7 := { stood := { row := recordOnceRow, standIns := [], harness := (true, "689019a5bcbe3025e8e712935a5fb244f9219a7736f183a11834497ec0d65d7e"), looks := true }, kinds := [], alts := [], laidByText := true, laidKinds := [.data, .pinned], laidTests := true, laidLooks := .later }
def RecordOnceCardSaid : Prop := Claim7.holds Tryz.pinned (.plain (OpenSpec.ofChange recordOnceSpec)) recordOnceCard

/-- THE TIED CARD OF 'dryrotlaw10.RecordBack'. -/
def recordBackCard : Claim7 := { stood := { row := recordBackRow, standIns := [], harness := (true, "689019a5bcbe3025e8e712935a5fb244f9219a7736f183a11834497ec0d65d7e"), looks := true }, kinds := [], alts := [], laidByText := true, laidKinds := [.data, .pinned], laidTests := true, laidLooks := .later }
def RecordBackCardSaid : Prop := Claim7.holds Tryz.pinned (.plain (OpenSpec.ofChange recordBackSpec)) recordBackCard

/-- THE TIED CARD OF 'dryrotlaw14.TombBack'. -/
def tombBackCard : Claim7 := { stood := { row := tombBackRow, standIns := [], harness := (true, "689019a5bcbe3025e8e712935a5fb244f9219a7736f183a11834497ec0d65d7e"), looks := true }, kinds := [], alts := [], laidByText := true, laidKinds := [.data, .pinned], laidTests := true, laidLooks := .later }
def TombBackCardSaid : Prop := Claim7.holds Tryz.pinned (.plain (OpenSpec.ofChange tombBackSpec)) tombBackCard

/-- THE SECOND FORM's CARD OF 'dryrotlaw10.RecordOnce'. -/
def recordOnceUptoCard : Claim7 := { stood := { row := recordOnceUptoRow, standIns := [], harness := (true, "689019a5bcbe3025e8e712935a5fb244f9219a7736f183a11834497ec0d65d7e"), looks := true }, kinds := [], alts := [], laidByText := true, laidKinds := [.data, .pinned], laidTests := true, laidLooks := .later }
def RecordOnceUptoCardSaid : Prop := Claim7.holds Tryz.pinned (.plain (OpenSpec.upto recordOnceSpec)) recordOnceUptoCard

/-- THE SECOND FORM's CARD OF 'dryrotlaw10.RecordBack'. -/
def recordBackUptoCard : Claim7 := { stood := { row := recordBackUptoRow, standIns := [], harness := (true, "689019a5bcbe3025e8e712935a5fb244f9219a7736f183a11834497ec0d65d7e"), looks := true }, kinds := [], alts := [], laidByText := true, laidKinds := [.data, .pinned], laidTests := true, laidLooks := .later }
def RecordBackUptoCardSaid : Prop := Claim7.holds Tryz.pinned (.plain (OpenSpec.upto recordBackSpec)) recordBackUptoCard

/-- THE SECOND FORM's CARD OF 'dryrotlaw14.TombBack'. -/
def tombBackUptoCard : Claim7 := { stood := { row := tombBackUptoRow, standIns := [], harness := (true, "689019a5bcbe3025e8e712935a5fb244f9219a7736f183a11834497ec0d65d7e"), looks := true }, kinds := [], alts := [], laidByText := true, laidKinds := [.data, .pinned], laidTests := true, laidLooks := .later }
def TombBackUptoCardSaid : Prop := Claim7.holds Tryz.pinned (.plain (OpenSpec.upto tombBackSpec)) tombBackUptoCard
end Rows
end Go.Proofs.YtgnehcgaplnfkaaGreatDoor
