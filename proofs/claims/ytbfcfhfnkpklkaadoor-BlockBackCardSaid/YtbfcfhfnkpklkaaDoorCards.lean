/-
  DERIVED. GIVEN WITH THE SEED: THE CARDS: each row of YtbfcfhfnkpklkaaDoorRows.lean that lists a variable, with what it lists TIED to the program's text (the seventh form; the later family's looks); each row that meets fmt, with fmt's text TOLD by the authors' own Lean function (tested against real Go, not proved from fmt's source: count such statements apart). THE CARD IS WHAT COUNTS. Prove the row's statement (the work); the ties are given (YtbfcfhfnkpklkaaDoorTie.lean); close each card by the builder's one call (the guide's Derived/Test/ToyasCard.lean, 'card_holds'). Laid BY PROGRAM, IN A SANDBOX (cutbox-door.mjs). By AI agents, Wed Nov 11 2026. No macro, syntax, notation, axiom, sorry.
-/
import Derived.Test.YtbfcfhfnkpklkaaDoorRows
import GoSem.ClaimSeven
namespace Go.Proofs.YtbfcfhfnkpklkaaDoor
namespace Rows

/-- THE TIED CARD OF 'gabletlaw04.BlockSeals'. -/
def blockSealsCard : Claim7 := { stood := { row := blockSealsRow, standIns := [], harness := (true, "9c13db9a89aa982736ccc77d77d4eeb2842af8a365397cd2cc50e040405a1f78"), looks := false }, kinds := [], alts := [], laidByText := true, laidKinds := [.data, .pinned], laidTests := true, laidLooks := .later }
def BlockSealsCardSaid : Prop := Claim7.holds Tryd.pinned (.plain (OpenSpec.ofChange blockSealsSpec)) blockSealsCard

/-- THE TIED CARD OF 'gabletlaw04.BlockOpens'. -/
def blockOpensCard : Claim7 := { stood := { row := blockOpensRow, standIns := [], harness := (true, "9c13db9a89aa982736ccc77d77d4eeb2842af8a365397cd2cc50e040405a1f78"), looks := false }, kinds := [], alts := [], laidByText := true, laidKinds := [.data, .pinned], laidTests := true, laidLooks := .later }
def BlockOpensCardSaid : Prop := Claim7.holds Tryd.pinned (.plain (OpenSpec.ofChange blockOpensSpec)) blockOpensCard

/-- THE TIED CARD OF 'gabletlaw04.BlockBack'. -/
def blockBackCard : Claim7 := { stood := { row := blockBackRow, standIns := [], harness := (true, "9c13db9a89aa982736ccc77d77d4eeb2842af8a365397cd2cc50e040405a1f78"), looks := false }, kinds := [], alts := [], laidByText := true, laidKinds := [.data, .pinned], laidTests := true, laidLooks := .later }
def BlockBackCardSaid : Prop := Claim7.holds Tryd.pinned (.plain (OpenSpec.ofChange blockBackSpec)) blockBackCard

/-- THE TIED CARD OF 'gabletlaw04.BlockEnds'. -/
def blockEndsCard : Claim7 := { stood := { row := blockEndsRow, standIns := [], harness := (true, "9c13db9a89aa982736ccc77d77d4eeb2842af8a365397cd2cc50e040405a1f78"), looks := false }, kinds := [], alts := [], laidByText := true, laidKinds := [.data, .pinned], laidTests := true, laidLooks := .later }
def BlockEndsCardSaid : Prop := Claim7.holds Tryd.pinned (.plain (OpenSpec.ofChange blockEndsSpec)) blockEndsCard

/-- THE SECOND FORM's CARD OF 'gabletlaw04.BlockSeals'. -/
def blockSealsUptoCard : Claim7 := { stood := { row := blockSealsUptoRow, standIns := [], harness := (true, "9c13db9a89aa982736ccc77d77d4eeb2842af8a365397cd2cc50e040405a1f78"), looks := false }, kinds := [], alts := [], laidByText := true, laidKinds := [.data, .pinned], laidTests := true, laidLooks := .later }
def BlockSealsUptoCardSaid : Prop := Claim7.holds Tryd.pinned (.plain (OpenSpec.upto blockSealsSpec)) blockSealsUptoCard

/-- THE SECOND FORM's CARD OF 'gabletlaw04.BlockOpens'. -/
def blockOpensUptoCard : Claim7 := { stood := { row := blockOpensUptoRow, standIns := [], harness := (true, "9c13db9a89aa982736ccc77d77d4eeb2842af8a365397cd2cc50e040405a1f78"), looks := false }, kinds := [], alts := [], laidByText := true, laidKinds := [.data, .pinned], laidTests := true, laidLooks := .later }
def BlockOpensUptoCardSaid : Prop := Claim7.holds Tryd.pinned (.plain (OpenSpec.upto blockOpensSpec)) blockOpensUptoCard

/-- THE SECOND FORM's CARD OF 'gabletlaw04.BlockBack'. -/
def blockBackUptoCard : Claim7 := { stood := { row := blockBackUptoRow, standIns := [], harness := (true, "9c13db9a89aa982736ccc77d77d4eeb2842af8a365397cd2cc50e040405a1f78"), looks := false }, kinds := [], alts := [], laidByText := true, laidKinds := [.data, .pinned], laidTests := true, laidLooks := .later }
def BlockBackUptoCardSaid : Prop := Claim7.holds Tryd.pinned (.plain (OpenSpec.upto blockBackSpec)) blockBackUptoCard

/-- THE SECOND FORM's CARD OF 'gabletlaw04.BlockEnds'. -/
def blockEndsUptoCard : Claim7 := { stood := { row := blockEndsUptoRow, standIns := [], harness := (true, "9c13db9a89aa982736ccc77d77d4eeb2842af8a365397cd2cc50e040405a1f78"), looks := false }, kinds := [], alts := [], laidByText := true, laidKinds := [.data, .pinned], laidTests := true, laidLooks := .later }
def BlockEndsUptoCardSaid : Prop := Claim7.holds Tryd.pinned (.plain (OpenSpec.upto blockEndsSpec)) blockEndsUptoCard
end Rows
end Go.Proofs.YtbfcfhfnkpklkaaDoor
