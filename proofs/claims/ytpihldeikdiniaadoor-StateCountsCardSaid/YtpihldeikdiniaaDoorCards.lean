/-
  DERIVED. GIVEN WITH THE SEED: THE CARDS: each row of YtpihldeikdiniaaDoorRows.lean that lists a variable, with what it lists TIED to the program's text (the seventh form; the later family's looks); each row that meets fmt, with fmt's text TOLD by the authors' own Lean function (tested against real Go, not proved from fmt's source: count such statements apart). THE CARD IS WHAT COUNTS. Prove the row's statement (the work); the ties are given (YtpihldeikdiniaaDoorTie.lean); close each card by the builder's one call (the guide's Derived/Test/ToyasCard.lean, 'card_holds'). Laid BY PROGRAM, IN A SANDBOX (cutbox-door.mjs). By AI agents, Wed Nov 11 2026. No macro, syntax, notation, axiom, sorry.
-/
import Derived.Test.YtpihldeikdiniaaDoorRows
import GoSem.ClaimSeven
namespace Go.Proofs.YtpihldeikdiniaaDoor
namespace Rows

/-- THE TIED CARD OF 'squintlaw13.StateRuns'. -/
def stateRunsCard : Claim7 := { stood := { row := stateRunsRow, standIns := [], harness := (true, "30a04825242d49a389e0f1d0c518735df547fdfb3c0bf5cfc50d564f0155323e"), looks := false }, kinds := [], alts := [], laidByText := true, laidKinds := [.data], laidTests := true, laidLooks := .later }
def StateRunsCardSaid : Prop := Claim7.holds Tryd.pinned (.plain (OpenSpec.ofChange stateRunsSpec)) stateRunsCard

/-- THE TIED CARD OF 'squintlaw13.StateCounts'. -/
def stateCountsCard : Claim7 := { stood := { row := stateCountsRow, standIns := [], harness := (true, "30a04825242d49a389e0f1d0c518735df547fdfb3c0bf5cfc50d564f0155323e"), looks := false }, kinds := [], alts := [], laidByText := true, laidKinds := [.data], laidTests := true, laidLooks := .later }
def StateCountsCardSaid : Prop := Claim7.holds Tryd.pinned (.plain (OpenSpec.ofChange stateCountsSpec)) stateCountsCard

/-- THE TIED CARD OF 'squintlaw13.StateSteps'. -/
def stateStepsCard : Claim7 := { stood := { row := stateStepsRow, standIns := [], harness := (true, "30a04825242d49a389e0f1d0c518735df547fdfb3c0bf5cfc50d564f0155323e"), looks := false }, kinds := [], alts := [], laidByText := true, laidKinds := [.data], laidTests := true, laidLooks := .later }
def StateStepsCardSaid : Prop := Claim7.holds Tryd.pinned (.plain (OpenSpec.ofChange stateStepsSpec)) stateStepsCard

/-- THE TIED CARD OF 'squintlaw13.StateEnds'. -/
def stateEndsCard : Claim7 := { stood := { row := stateEndsRow, standIns := [], harness := (true, "30a04825242d49a389e0f1d0c518735df547fdfb3c0bf5cfc50d564f0155323e"), looks := false }, kinds := [], alts := [], laidByText := true, laidKinds := [.data], laidTests := true, laidLooks := .later }
def StateEndsCardSaid : Prop := Claim7.holds Tryd.pinned (.plain (OpenSpec.ofChange stateEndsSpec)) stateEndsCard

/-- THE TIED CARD OF 'squintlaw14.RegOwners'. -/
def regOwnersCard : Claim7 := { stood := { row := regOwnersRow, standIns := [], harness := (true, "30a04825242d49a389e0f1d0c518735df547fdfb3c0bf5cfc50d564f0155323e"), looks := false }, kinds := [], alts := [], laidByText := true, laidKinds := [.data], laidTests := true, laidLooks := .later }
def RegOwnersCardSaid : Prop := Claim7.holds Tryd.pinned (.plain (OpenSpec.ofChange regOwnersSpec)) regOwnersCard

/-- THE TIED CARD OF 'squintlaw14.RegAlone'. -/
def regAloneCard : Claim7 := { stood := { row := regAloneRow, standIns := [], harness := (true, "30a04825242d49a389e0f1d0c518735df547fdfb3c0bf5cfc50d564f0155323e"), looks := false }, kinds := [], alts := [], laidByText := true, laidKinds := [.data], laidTests := true, laidLooks := .later }
def RegAloneCardSaid : Prop := Claim7.holds Tryd.pinned (.plain (OpenSpec.ofChange regAloneSpec)) regAloneCard

/-- THE TIED CARD OF 'squintlaw14.RegPlays'. -/
def regPlaysCard : Claim7 := { stood := { row := regPlaysRow, standIns := [], harness := (true, "30a04825242d49a389e0f1d0c518735df547fdfb3c0bf5cfc50d564f0155323e"), looks := false }, kinds := [], alts := [], laidByText := true, laidKinds := [.data], laidTests := true, laidLooks := .later }
def RegPlaysCardSaid : Prop := Claim7.holds Tryd.pinned (.plain (OpenSpec.ofChange regPlaysSpec)) regPlaysCard

/-- THE TIED CARD OF 'squintlaw14.RegCopies'. -/
def regCopiesCard : Claim7 := { stood := { row := regCopiesRow, standIns := [], harness := (true, "30a04825242d49a389e0f1d0c518735df547fdfb3c0bf5cfc50d564f0155323e"), looks := false }, kinds := [], alts := [], laidByText := true, laidKinds := [.data], laidTests := true, laidLooks := .later }
def RegCopiesCardSaid : Prop := Claim7.holds Tryd.pinned (.plain (OpenSpec.ofChange regCopiesSpec)) regCopiesCard

/-- THE SECOND FORM's CARD OF 'squintlaw13.StateRuns'. -/
def stateRunsUptoCard : Claim7 := { stood := { row := stateRunsUptoRow, standIns := [], harness := (true, "30a04825242d49a389e0f1d0c518735df547fdfb3c0bf5cfc50d564f0155323e"), looks := false }, kinds := [], alts := [], laidByText := true, laidKinds := [.data], laidTests := true, laidLooks := .later }
def StateRunsUptoCardSaid : Prop := Claim7.holds Tryd.pinned (.plain (OpenSpec.upto stateRunsSpec)) stateRunsUptoCard

/-- THE SECOND FORM's CARD OF 'squintlaw13.StateCounts'. -/
def stateCountsUptoCard : Claim7 := { stood := { row := stateCountsUptoRow, standIns := [], harness := (true, "30a04825242d49a389e0f1d0c518735df547fdfb3c0bf5cfc50d564f0155323e"), looks := false }, kinds := [], alts := [], laidByText := true, laidKinds := [.data], laidTests := true, laidLooks := .later }
def StateCountsUptoCardSaid : Prop := Claim7.holds Tryd.pinned (.plain (OpenSpec.upto stateCountsSpec)) stateCountsUptoCard

/-- THE SECOND FORM's CARD OF 'squintlaw13.StateSteps'. -/
def stateStepsUptoCard : Claim7 := { stood := { row := stateStepsUptoRow, standIns := [], harness := (true, "30a04825242d49a389e0f1d0c518735df547fdfb3c0bf5cfc50d564f0155323e"), looks := false }, kinds := [], alts := [], laidByText := true, laidKinds := [.data], laidTests := true, laidLooks := .later }
def StateStepsUptoCardSaid : Prop := Claim7.holds Tryd.pinned (.plain (OpenSpec.upto stateStepsSpec)) stateStepsUptoCard

/-- THE SECOND FORM's CARD OF 'squintlaw13.StateEnds'. -/
def stateEndsUptoCard : Claim7 := { stood := { row := stateEndsUptoRow, standIns := [], harness := (true, "30a04825242d49a389e0f1d0c518735df547fdfb3c0bf5cfc50d564f0155323e"), looks := false }, kinds := [], alts := [], laidByText := true, laidKinds := [.data], laidTests := true, laidLooks := .later }
def StateEndsUptoCardSaid : Prop := Claim7.holds Tryd.pinned (.plain (OpenSpec.upto stateEndsSpec)) stateEndsUptoCard

/-- THE SECOND FORM's CARD OF 'squintlaw14.RegOwners'. -/
def regOwnersUptoCard : Claim7 := { stood := { row := regOwnersUptoRow, standIns := [], harness := (true, "30a04825242d49a389e0f1d0c518735df547fdfb3c0bf5cfc50d564f0155323e"), looks := false }, kinds := [], alts := [], laidByText := true, laidKinds := [.data], laidTests := true, laidLooks := .later }
def RegOwnersUptoCardSaid : Prop := Claim7.holds Tryd.pinned (.plain (OpenSpec.upto regOwnersSpec)) regOwnersUptoCard

/-- THE SECOND FORM's CARD OF 'squintlaw14.RegAlone'. -/
def regAloneUptoCard : Claim7 := { stood := { row := regAloneUptoRow, standIns := [], harness := (true, "30a04825242d49a389e0f1d0c518735df547fdfb3c0bf5cfc50d564f0155323e"), looks := false }, kinds := [], alts := [], laidByText := true, laidKinds := [.data], laidTests := true, laidLooks := .later }
def RegAloneUptoCardSaid : Prop := Claim7.holds Tryd.pinned (.plain (OpenSpec.upto regAloneSpec)) regAloneUptoCard

/-- THE SECOND FORM's CARD OF 'squintlaw14.RegPlays'. -/
def regPlaysUptoCard : Claim7 := { stood := { row := regPlaysUptoRow, standIns := [], harness := (true, "30a04825242d49a389e0f1d0c518735df547fdfb3c0bf5cfc50d564f0155323e"), looks := false }, kinds := [], alts := [], laidByText := true, laidKinds := [.data], laidTests := true, laidLooks := .later }
def RegPlaysUptoCardSaid : Prop := Claim7.holds Tryd.pinned (.plain (OpenSpec.upto regPlaysSpec)) regPlaysUptoCard

/-- THE SECOND FORM's CARD OF 'squintlaw14.RegCopies'. -/
def regCopiesUptoCard : Claim7 := { stood := { row := regCopiesUptoRow, standIns := [], harness := (true, "30a04825242d49a389e0f1d0c518735df547fdfb3c0bf5cfc50d564f0155323e"), looks := false }, kinds := [], alts := [], laidByText := true, laidKinds := [.data], laidTests := true, laidLooks := .later }
def RegCopiesUptoCardSaid : Prop := Claim7.holds Tryd.pinned (.plain (OpenSpec.upto regCopiesSpec)) regCopiesUptoCard
end Rows
end Go.Proofs.YtpihldeikdiniaaDoor
