/-
  DERIVED. GIVEN WITH THE SEED: THE CARDS: each row of YtldogfcfafomiaaDoorRows.lean that lists a variable, with what it lists TIED to the program's text (the seventh form; the later family's looks); each row that meets fmt, with fmt's text TOLD by the authors' own Lean function (tested against real Go, not proved from fmt's source: count such statements apart). THE CARD IS WHAT COUNTS. Prove the row's statement (the work); the ties are given (YtldogfcfafomiaaDoorTie.lean); close each card by the builder's one call (the guide's Derived/Test/ToyasCard.lean, 'card_holds'). Laid BY PROGRAM, IN A SANDBOX (cutbox-door.mjs). By AI agents, Wed Nov 11 2026. No macro, syntax, notation, axiom, sorry.
-/
import Derived.Test.YtldogfcfafomiaaDoorRows
import GoSem.ClaimSeven
namespace Go.Proofs.YtldogfcfafomiaaDoor
namespace Rows

/-- THE TIED CARD OF 'counterpanelaw32.SpeechPuts'. -/
def speechPutsCard : Claim7 := { stood := { row := speechPutsRow, standIns := [], harness := (true, "68753b9784317035982dabfb218a4a09f2a8db9f53a9d96d62a22b4134232de3"), looks := false }, kinds := [], alts := [], laidByText := true, laidKinds := [.data, .pinned], laidTests := true, laidLooks := .later }
def SpeechPutsCardSaid : Prop := Claim7.holds Tryd.pinned (.plain (OpenSpec.ofChange speechPutsSpec)) speechPutsCard

/-- THE TIED CARD OF 'counterpanelaw32.SpeechBack'. -/
def speechBackCard : Claim7 := { stood := { row := speechBackRow, standIns := [], harness := (true, "68753b9784317035982dabfb218a4a09f2a8db9f53a9d96d62a22b4134232de3"), looks := false }, kinds := [], alts := [], laidByText := true, laidKinds := [.data, .pinned], laidTests := true, laidLooks := .later }
def SpeechBackCardSaid : Prop := Claim7.holds Tryd.pinned (.plain (OpenSpec.ofChange speechBackSpec)) speechBackCard

/-- THE TIED CARD OF 'counterpanelaw32.SpeechOne'. -/
def speechOneCard : Claim7 := { stood := { row := speechOneRow, standIns := [], harness := (true, "68753b9784317035982dabfb218a4a09f2a8db9f53a9d96d62a22b4134232de3"), looks := false }, kinds := [], alts := [], laidByText := true, laidKinds := [.data, .pinned], laidTests := true, laidLooks := .later }
def SpeechOneCardSaid : Prop := Claim7.holds Tryd.pinned (.plain (OpenSpec.ofChange speechOneSpec)) speechOneCard

/-- THE TIED CARD OF 'counterpanelaw32.SpeechLines'. -/
def speechLinesCard : Claim7 := { stood := { row := speechLinesRow, standIns := [], harness := (true, "68753b9784317035982dabfb218a4a09f2a8db9f53a9d96d62a22b4134232de3"), looks := false }, kinds := [], alts := [], laidByText := true, laidKinds := [.data, .pinned], laidTests := true, laidLooks := .later }
def SpeechLinesCardSaid : Prop := Claim7.holds Tryd.pinned (.plain (OpenSpec.ofChange speechLinesSpec)) speechLinesCard

/-- THE SECOND FORM's CARD OF 'counterpanelaw32.SpeechPuts'. -/
def speechPutsUptoCard : Claim7 := { stood := { row := speechPutsUptoRow, standIns := [], harness := (true, "68753b9784317035982dabfb218a4a09f2a8db9f53a9d96d62a22b4134232de3"), looks := false }, kinds := [], alts := [], laidByText := true, laidKinds := [.data, .pinned], laidTests := true, laidLooks := .later }
def SpeechPutsUptoCardSaid : Prop := Claim7.holds Tryd.pinned (.plain (OpenSpec.upto speechPutsSpec)) speechPutsUptoCard

/-- THE SECOND FORM's CARD OF 'counterpanelaw32.SpeechBack'. -/
def speechBackUptoCard : Claim7 := { stood := { row := speechBackUptoRow, standIns := [], harness := (true, "68753b9784317035982dabfb218a4a09f2a8db9f53a9d96d62a22b4134232de3"), looks := false }, kinds := [], alts := [], laidByText := true, laidKinds := [.data, .pinned], laidTests := true, laidLooks := .later }
def SpeechBackUptoCardSaid : Prop := Claim7.holds Tryd.pinned (.plain (OpenSpec.upto speechBackSpec)) speechBackUptoCard

/-- THE SECOND FORM's CARD OF 'counterpanelaw32.SpeechOne'. -/
def speechOneUptoCard : Claim7 := { stood := { row := speechOneUptoRow, standIns := [], harness := (true, "68753b9784317035982dabfb218a4a09f2a8db9f53a9d96d62a22b4134232de3"), looks := false }, kinds := [], alts := [], laidByText := true, laidKinds := [.data, .pinned], laidTests := true, laidLooks := .later }
def SpeechOneUptoCardSaid : Prop := Claim7.holds Tryd.pinned (.plain (OpenSpec.upto speechOneSpec)) speechOneUptoCard

/-- THE SECOND FORM's CARD OF 'counterpanelaw32.SpeechLines'. -/
def speechLinesUptoCard : Claim7 := { stood := { row := speechLinesUptoRow, standIns := [], harness := (true, "68753b9784317035982dabfb218a4a09f2a8db9f53a9d96d62a22b4134232de3"), looks := false }, kinds := [], alts := [], laidByText := true, laidKinds := [.data, .pinned], laidTests := true, laidLooks := .later }
def SpeechLinesUptoCardSaid : Prop := Claim7.holds Tryd.pinned (.plain (OpenSpec.upto speechLinesSpec)) speechLinesUptoCard
end Rows
end Go.Proofs.YtldogfcfafomiaaDoor
