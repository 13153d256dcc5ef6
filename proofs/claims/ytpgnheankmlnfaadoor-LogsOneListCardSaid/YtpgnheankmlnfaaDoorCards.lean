/-
  DERIVED. GIVEN WITH THE SEED: THE CARDS: each row of YtpgnheankmlnfaaDoorRows.lean that lists a variable, with what it lists TIED to the program's text (the seventh form; the later family's looks); each row that meets fmt, with fmt's text TOLD by the authors' own Lean function (tested against real Go, not proved from fmt's source: count such statements apart). THE CARD IS WHAT COUNTS. Prove the row's statement (the work); the ties are given (YtpgnheankmlnfaaDoorTie.lean); close each card by the builder's one call (the guide's Derived/Test/ToyasCard.lean, 'card_holds'). Laid BY PROGRAM, IN A SANDBOX (cutbox-door.mjs). By AI agents, Wed Nov 11 2026. No macro, syntax, notation, axiom, sorry.
-/
import Derived.Test.YtpgnheankmlnfaaDoorRows
import GoSem.ClaimSeven
namespace Go.Proofs.YtpgnheankmlnfaaDoor
namespace Rows

/-- THE TIED CARD OF 'quicksilverlaw02.LogsFloor'. -/
def logsFloorCard : Claim7 := { stood := { row := logsFloorRow, standIns := [], harness := (true, "77e549761a41baaa967bcb6c428ad30764149cc1c33fa68b7dd63910110f6b0a"), looks := false }, kinds := [], alts := [], laidByText := true, laidKinds := [.data, .data, .data], laidTests := true, laidLooks := .later }
def LogsFloorCardSaid : Prop := Claim7.holds Tryd.pinned (.plain (OpenSpec.ofChange logsFloorSpec)) logsFloorCard

/-- THE TIED CARD OF 'quicksilverlaw02.LogsDigits'. -/
def logsDigitsCard : Claim7 := { stood := { row := logsDigitsRow, standIns := [], harness := (true, "77e549761a41baaa967bcb6c428ad30764149cc1c33fa68b7dd63910110f6b0a"), looks := false }, kinds := [], alts := [], laidByText := true, laidKinds := [.data, .data, .data], laidTests := true, laidLooks := .later }
def LogsDigitsCardSaid : Prop := Claim7.holds Tryd.pinned (.plain (OpenSpec.ofChange logsDigitsSpec)) logsDigitsCard

/-- THE TIED CARD OF 'quicksilverlaw02.LogsTerms'. -/
def logsTermsCard : Claim7 := { stood := { row := logsTermsRow, standIns := [], harness := (true, "77e549761a41baaa967bcb6c428ad30764149cc1c33fa68b7dd63910110f6b0a"), looks := false }, kinds := [], alts := [], laidByText := true, laidKinds := [.data, .data, .data], laidTests := true, laidLooks := .later }
def LogsTermsCardSaid : Prop := Claim7.holds Tryd.pinned (.plain (OpenSpec.ofChange logsTermsSpec)) logsTermsCard

/-- THE TIED CARD OF 'quicksilverlaw02.LogsSums'. -/
def logsSumsCard : Claim7 := { stood := { row := logsSumsRow, standIns := [], harness := (true, "77e549761a41baaa967bcb6c428ad30764149cc1c33fa68b7dd63910110f6b0a"), looks := false }, kinds := [], alts := [], laidByText := true, laidKinds := [.data, .data, .data], laidTests := true, laidLooks := .later }
def LogsSumsCardSaid : Prop := Claim7.holds Tryd.pinned (.plain (OpenSpec.ofChange logsSumsSpec)) logsSumsCard

/-- THE TIED CARD OF 'quicksilverlaw02.LogsFiner'. -/
def logsFinerCard : Claim7 := { stood := { row := logsFinerRow, standIns := [], harness := (true, "77e549761a41baaa967bcb6c428ad30764149cc1c33fa68b7dd63910110f6b0a"), looks := false }, kinds := [], alts := [], laidByText := true, laidKinds := [.data, .data, .data], laidTests := true, laidLooks := .later }
def LogsFinerCardSaid : Prop := Claim7.holds Tryd.pinned (.plain (OpenSpec.ofChange logsFinerSpec)) logsFinerCard

/-- THE TIED CARD OF 'quicksilverlaw02.LogsOrder'. -/
def logsOrderCard : Claim7 := { stood := { row := logsOrderRow, standIns := [], harness := (true, "77e549761a41baaa967bcb6c428ad30764149cc1c33fa68b7dd63910110f6b0a"), looks := false }, kinds := [], alts := [], laidByText := true, laidKinds := [.data, .data, .data], laidTests := true, laidLooks := .later }
def LogsOrderCardSaid : Prop := Claim7.holds Tryd.pinned (.plain (OpenSpec.ofChange logsOrderSpec)) logsOrderCard

/-- THE TIED CARD OF 'quicksilverlaw02.LogsOneList'. -/
def logsOneListCard : Claim7 := { stood := { row := logsOneListRow, standIns := [], harness := (true, "77e549761a41baaa967bcb6c428ad30764149cc1c33fa68b7dd63910110f6b0a"), looks := false }, kinds := [], alts := [], laidByText := true, laidKinds := [.data, .data, .data], laidTests := true, laidLooks := .later }
def LogsOneListCardSaid : Prop := Claim7.holds Tryd.pinned (.plain (OpenSpec.ofChange logsOneListSpec)) logsOneListCard

/-- THE TIED CARD OF 'quicksilverlaw02.LogsTurned'. -/
def logsTurnedCard : Claim7 := { stood := { row := logsTurnedRow, standIns := [], harness := (true, "77e549761a41baaa967bcb6c428ad30764149cc1c33fa68b7dd63910110f6b0a"), looks := false }, kinds := [], alts := [], laidByText := true, laidKinds := [.data, .data, .data], laidTests := true, laidLooks := .later }
def LogsTurnedCardSaid : Prop := Claim7.holds Tryd.pinned (.plain (OpenSpec.ofChange logsTurnedSpec)) logsTurnedCard

/-- THE TIED CARD OF 'quicksilverlaw02.LogsNarrower'. -/
def logsNarrowerCard : Claim7 := { stood := { row := logsNarrowerRow, standIns := [], harness := (true, "77e549761a41baaa967bcb6c428ad30764149cc1c33fa68b7dd63910110f6b0a"), looks := false }, kinds := [], alts := [], laidByText := true, laidKinds := [.data, .data, .data], laidTests := true, laidLooks := .later }
def LogsNarrowerCardSaid : Prop := Claim7.holds Tryd.pinned (.plain (OpenSpec.ofChange logsNarrowerSpec)) logsNarrowerCard

/-- THE TIED CARD OF 'quicksilverlaw02.LogsBest'. -/
def logsBestCard : Claim7 := { stood := { row := logsBestRow, standIns := [], harness := (true, "77e549761a41baaa967bcb6c428ad30764149cc1c33fa68b7dd63910110f6b0a"), looks := false }, kinds := [], alts := [], laidByText := true, laidKinds := [.data, .data, .data], laidTests := true, laidLooks := .later }
def LogsBestCardSaid : Prop := Claim7.holds Tryd.pinned (.plain (OpenSpec.ofChange logsBestSpec)) logsBestCard

/-- THE TIED CARD OF 'quicksilverlaw02.LogsWhole'. -/
def logsWholeCard : Claim7 := { stood := { row := logsWholeRow, standIns := [], harness := (true, "77e549761a41baaa967bcb6c428ad30764149cc1c33fa68b7dd63910110f6b0a"), looks := false }, kinds := [], alts := [], laidByText := true, laidKinds := [.data, .data, .data], laidTests := true, laidLooks := .later }
def LogsWholeCardSaid : Prop := Claim7.holds Tryd.pinned (.plain (OpenSpec.ofChange logsWholeSpec)) logsWholeCard

/-- THE TIED CARD OF 'quicksilverlaw02.LogsBothWays'. -/
def logsBothWaysCard : Claim7 := { stood := { row := logsBothWaysRow, standIns := [], harness := (true, "77e549761a41baaa967bcb6c428ad30764149cc1c33fa68b7dd63910110f6b0a"), looks := false }, kinds := [], alts := [], laidByText := true, laidKinds := [.data, .data, .data], laidTests := true, laidLooks := .later }
def LogsBothWaysCardSaid : Prop := Claim7.holds Tryd.pinned (.plain (OpenSpec.ofChange logsBothWaysSpec)) logsBothWaysCard

/-- THE TIED CARD OF 'quicksilverlaw02.LogsConvergents'. -/
def logsConvergentsCard : Claim7 := { stood := { row := logsConvergentsRow, standIns := [], harness := (true, "77e549761a41baaa967bcb6c428ad30764149cc1c33fa68b7dd63910110f6b0a"), looks := false }, kinds := [], alts := [], laidByText := true, laidKinds := [.data, .data, .data], laidTests := true, laidLooks := .later }
def LogsConvergentsCardSaid : Prop := Claim7.holds Tryd.pinned (.plain (OpenSpec.ofChange logsConvergentsSpec)) logsConvergentsCard

/-- THE SECOND FORM's CARD OF 'quicksilverlaw02.LogsFloor'. -/
def logsFloorUptoCard : Claim7 := { stood := { row := logsFloorUptoRow, standIns := [], harness := (true, "77e549761a41baaa967bcb6c428ad30764149cc1c33fa68b7dd63910110f6b0a"), looks := false }, kinds := [], alts := [], laidByText := true, laidKinds := [.data, .data, .data], laidTests := true, laidLooks := .later }
def LogsFloorUptoCardSaid : Prop := Claim7.holds Tryd.pinned (.plain (OpenSpec.upto logsFloorSpec)) logsFloorUptoCard

/-- THE SECOND FORM's CARD OF 'quicksilverlaw02.LogsDigits'. -/
def logsDigitsUptoCard : Claim7 := { stood := { row := logsDigitsUptoRow, standIns := [], harness := (true, "77e549761a41baaa967bcb6c428ad30764149cc1c33fa68b7dd63910110f6b0a"), looks := false }, kinds := [], alts := [], laidByText := true, laidKinds := [.data, .data, .data], laidTests := true, laidLooks := .later }
def LogsDigitsUptoCardSaid : Prop := Claim7.holds Tryd.pinned (.plain (OpenSpec.upto logsDigitsSpec)) logsDigitsUptoCard

/-- THE SECOND FORM's CARD OF 'quicksilverlaw02.LogsTerms'. -/
def logsTermsUptoCard : Claim7 := { stood := { row := logsTermsUptoRow, standIns := [], harness := (true, "77e549761a41baaa967bcb6c428ad30764149cc1c33fa68b7dd63910110f6b0a"), looks := false }, kinds := [], alts := [], laidByText := true, laidKinds := [.data, .data, .data], laidTests := true, laidLooks := .later }
def LogsTermsUptoCardSaid : Prop := Claim7.holds Tryd.pinned (.plain (OpenSpec.upto logsTermsSpec)) logsTermsUptoCard

/-- THE SECOND FORM's CARD OF 'quicksilverlaw02.LogsSums'. -/
def logsSumsUptoCard : Claim7 := { stood := { row := logsSumsUptoRow, standIns := [], harness := (true, "77e549761a41baaa967bcb6c428ad30764149cc1c33fa68b7dd63910110f6b0a"), looks := false }, kinds := [], alts := [], laidByText := true, laidKinds := [.data, .data, .data], laidTests := true, laidLooks := .later }
def LogsSumsUptoCardSaid : Prop := Claim7.holds Tryd.pinned (.plain (OpenSpec.upto logsSumsSpec)) logsSumsUptoCard

/-- THE SECOND FORM's CARD OF 'quicksilverlaw02.LogsFiner'. -/
def logsFinerUptoCard : Claim7 := { stood := { row := logsFinerUptoRow, standIns := [], harness := (true, "77e549761a41baaa967bcb6c428ad30764149cc1c33fa68b7dd63910110f6b0a"), looks := false }, kinds := [], alts := [], laidByText := true, laidKinds := [.data, .data, .data], laidTests := true, laidLooks := .later }
def LogsFinerUptoCardSaid : Prop := Claim7.holds Tryd.pinned (.plain (OpenSpec.upto logsFinerSpec)) logsFinerUptoCard

/-- THE SECOND FORM's CARD OF 'quicksilverlaw02.LogsOrder'. -/
def logsOrderUptoCard : Claim7 := { stood := { row := logsOrderUptoRow, standIns := [], harness := (true, "77e549761a41baaa967bcb6c428ad30764149cc1c33fa68b7dd63910110f6b0a"), looks := false }, kinds := [], alts := [], laidByText := true, laidKinds := [.data, .data, .data], laidTests := true, laidLooks := .later }
def LogsOrderUptoCardSaid : Prop := Claim7.holds Tryd.pinned (.plain (OpenSpec.upto logsOrderSpec)) logsOrderUptoCard

/-- THE SECOND FORM's CARD OF 'quicksilverlaw02.LogsOneList'. -/
def logsOneListUptoCard : Claim7 := { stood := { row := logsOneListUptoRow, standIns := [], harness := (true, "77e549761a41baaa967bcb6c428ad30764149cc1c33fa68b7dd63910110f6b0a"), looks := false }, kinds := [], alts := [], laidByText := true, laidKinds := [.data, .data, .data], laidTests := true, laidLooks := .later }
def LogsOneListUptoCardSaid : Prop := Claim7.holds Tryd.pinned (.plain (OpenSpec.upto logsOneListSpec)) logsOneListUptoCard

/-- THE SECOND FORM's CARD OF 'quicksilverlaw02.LogsTurned'. -/
def logsTurnedUptoCard : Claim7 := { stood := { row := logsTurnedUptoRow, standIns := [], harness := (true, "77e549761a41baaa967bcb6c428ad30764149cc1c33fa68b7dd63910110f6b0a"), looks := false }, kinds := [], alts := [], laidByText := true, laidKinds := [.data, .data, .data], laidTests := true, laidLooks := .later }
def LogsTurnedUptoCardSaid : Prop := Claim7.holds Tryd.pinned (.plain (OpenSpec.upto logsTurnedSpec)) logsTurnedUptoCard

/-- THE SECOND FORM's CARD OF 'quicksilverlaw02.LogsNarrower'. -/
def logsNarrowerUptoCard : Claim7 := { stood := { row := logsNarrowerUptoRow, standIns := [], harness := (true, "77e549761a41baaa967bcb6c428ad30764149cc1c33fa68b7dd63910110f6b0a"), looks := false }, kinds := [], alts := [], laidByText := true, laidKinds := [.data, .data, .data], laidTests := true, laidLooks := .later }
def LogsNarrowerUptoCardSaid : Prop := Claim7.holds Tryd.pinned (.plain (OpenSpec.upto logsNarrowerSpec)) logsNarrowerUptoCard

/-- THE SECOND FORM's CARD OF 'quicksilverlaw02.LogsBest'. -/
def logsBestUptoCard : Claim7 := { stood := { row := logsBestUptoRow, standIns := [], harness := (true, "77e549761a41baaa967bcb6c428ad30764149cc1c33fa68b7dd63910110f6b0a"), looks := false }, kinds := [], alts := [], laidByText := true, laidKinds := [.data, .data, .data], laidTests := true, laidLooks := .later }
def LogsBestUptoCardSaid : Prop := Claim7.holds Tryd.pinned (.plain (OpenSpec.upto logsBestSpec)) logsBestUptoCard

/-- THE SECOND FORM's CARD OF 'quicksilverlaw02.LogsWhole'. -/
def logsWholeUptoCard : Claim7 := { stood := { row := logsWholeUptoRow, standIns := [], harness := (true, "77e549761a41baaa967bcb6c428ad30764149cc1c33fa68b7dd63910110f6b0a"), looks := false }, kinds := [], alts := [], laidByText := true, laidKinds := [.data, .data, .data], laidTests := true, laidLooks := .later }
def LogsWholeUptoCardSaid : Prop := Claim7.holds Tryd.pinned (.plain (OpenSpec.upto logsWholeSpec)) logsWholeUptoCard

/-- THE SECOND FORM's CARD OF 'quicksilverlaw02.LogsBothWays'. -/
def logsBothWaysUptoCard : Claim7 := { stood := { row := logsBothWaysUptoRow, standIns := [], harness := (true, "77e549761a41baaa967bcb6c428ad30764149cc1c33fa68b7dd63910110f6b0a"), looks := false }, kinds := [], alts := [], laidByText := true, laidKinds := [.data, .data, .data], laidTests := true, laidLooks := .later }
def LogsBothWaysUptoCardSaid : Prop := Claim7.holds Tryd.pinned (.plain (OpenSpec.upto logsBothWaysSpec)) logsBothWaysUptoCard

/-- THE SECOND FORM's CARD OF 'quicksilverlaw02.LogsConvergents'. -/
def logsConvergentsUptoCard : Claim7 := { stood := { row := logsConvergentsUptoRow, standIns := [], harness := (true, "77e549761a41baaa967bcb6c428ad30764149cc1c33fa68b7dd63910110f6b0a"), looks := false }, kinds := [], alts := [], laidByText := true, laidKinds := [.data, .data, .data], laidTests := true, laidLooks := .later }
def LogsConvergentsUptoCardSaid : Prop := Claim7.holds Tryd.pinned (.plain (OpenSpec.upto logsConvergentsSpec)) logsConvergentsUptoCard
end Rows
end Go.Proofs.YtpgnheankmlnfaaDoor
