/-
  DERIVED. GIVEN WITH THE SEED: THE CARDS: each row of YtdjdillppgijmaaDoorRows.lean that lists a variable, with what it lists TIED to the program's text (the seventh form; the later family's looks); each row that meets fmt, with fmt's text TOLD by the authors' own Lean function (tested against real Go, not proved from fmt's source: count such statements apart). THE CARD IS WHAT COUNTS. Prove the row's statement (the work); the ties are given (YtdjdillppgijmaaDoorTie.lean); close each card by the builder's one call (the guide's Derived/Test/ToyasCard.lean, 'card_holds'). Laid BY PROGRAM, IN A SANDBOX (cutbox-door.mjs). By AI agents, Wed Nov 11 2026. No macro, syntax, notation, axiom, sorry.
-/
import Derived.Test.YtdjdillppgijmaaDoorRows
import GoSem.ClaimSeven
namespace Go.Proofs.YtdjdillppgijmaaDoor
namespace Rows

/-- THE TIED CARD OF 'laws.FnRefills'. -/
def fnRefillsCard : Claim7 := { stood := { row := fnRefillsRow, standIns := [], harness := (true, "439f7eb298ca2b58c499fc93a30914df08e9094640df5b3dfe8c806ef234bf15"), looks := false }, kinds := [], alts := [], laidByText := true, laidKinds := [.data, .pinned], laidTests := true, laidLooks := .later }
def FnRefillsCardSaid : Prop := Claim7.holds Tryd.pinned (.plain (OpenSpec.ofChange fnRefillsSpec)) fnRefillsCard

/-- THE TIED CARD OF 'laws.FnExactPractise'. -/
def fnExactPractiseCard : Claim7 := { stood := { row := fnExactPractiseRow, standIns := [], harness := (true, "439f7eb298ca2b58c499fc93a30914df08e9094640df5b3dfe8c806ef234bf15"), looks := false }, kinds := [], alts := [], laidByText := true, laidKinds := [.data, .pinned], laidTests := true, laidLooks := .later }
def FnExactPractiseCardSaid : Prop := Claim7.holds Tryd.pinned (.plain (OpenSpec.ofChange fnExactPractiseSpec)) fnExactPractiseCard

/-- THE TIED CARD OF 'laws.FnExactRefillWithin'. -/
def fnExactRefillWithinCard : Claim7 := { stood := { row := fnExactRefillWithinRow, standIns := [], harness := (true, "439f7eb298ca2b58c499fc93a30914df08e9094640df5b3dfe8c806ef234bf15"), looks := false }, kinds := [], alts := [], laidByText := true, laidKinds := [.data, .pinned], laidTests := true, laidLooks := .later }
def FnExactRefillWithinCardSaid : Prop := Claim7.holds Tryd.pinned (.plain (OpenSpec.ofChange fnExactRefillWithinSpec)) fnExactRefillWithinCard

/-- THE TIED CARD OF 'laws.FnExactAssignPupils'. -/
def fnExactAssignPupilsCard : Claim7 := { stood := { row := fnExactAssignPupilsRow, standIns := [], harness := (true, "439f7eb298ca2b58c499fc93a30914df08e9094640df5b3dfe8c806ef234bf15"), looks := false }, kinds := [], alts := [], laidByText := true, laidKinds := [.data, .pinned], laidTests := true, laidLooks := .later }
def FnExactAssignPupilsCardSaid : Prop := Claim7.holds Tryd.pinned (.plain (OpenSpec.ofChange fnExactAssignPupilsSpec)) fnExactAssignPupilsCard

/-- THE TIED CARD OF 'laws.FnExactJoinStock'. -/
def fnExactJoinStockCard : Claim7 := { stood := { row := fnExactJoinStockRow, standIns := [], harness := (true, "439f7eb298ca2b58c499fc93a30914df08e9094640df5b3dfe8c806ef234bf15"), looks := false }, kinds := [], alts := [], laidByText := true, laidKinds := [.data, .pinned], laidTests := true, laidLooks := .later }
def FnExactJoinStockCardSaid : Prop := Claim7.holds Tryd.pinned (.plain (OpenSpec.ofChange fnExactJoinStockSpec)) fnExactJoinStockCard

/-- THE TIED CARD OF 'laws.FnExactWorstDelay'. -/
def fnExactWorstDelayCard : Claim7 := { stood := { row := fnExactWorstDelayRow, standIns := [], harness := (true, "439f7eb298ca2b58c499fc93a30914df08e9094640df5b3dfe8c806ef234bf15"), looks := false }, kinds := [], alts := [], laidByText := true, laidKinds := [.data, .pinned], laidTests := true, laidLooks := .later }
def FnExactWorstDelayCardSaid : Prop := Claim7.holds Tryd.pinned (.plain (OpenSpec.ofChange fnExactWorstDelaySpec)) fnExactWorstDelayCard

/-- THE TIED CARD OF 'laws.FnExactPutStock'. -/
def fnExactPutStockCard : Claim7 := { stood := { row := fnExactPutStockRow, standIns := [], harness := (true, "439f7eb298ca2b58c499fc93a30914df08e9094640df5b3dfe8c806ef234bf15"), looks := false }, kinds := [], alts := [], laidByText := true, laidKinds := [.data, .pinned], laidTests := true, laidLooks := .later }
def FnExactPutStockCardSaid : Prop := Claim7.holds Tryd.pinned (.plain (OpenSpec.ofChange fnExactPutStockSpec)) fnExactPutStockCard

/-- THE TIED CARD OF 'laws.FnExactEarliestDue'. -/
def fnExactEarliestDueCard : Claim7 := { stood := { row := fnExactEarliestDueRow, standIns := [], harness := (true, "439f7eb298ca2b58c499fc93a30914df08e9094640df5b3dfe8c806ef234bf15"), looks := false }, kinds := [], alts := [], laidByText := true, laidKinds := [.data, .pinned], laidTests := true, laidLooks := .later }
def FnExactEarliestDueCardSaid : Prop := Claim7.holds Tryd.pinned (.plain (OpenSpec.ofChange fnExactEarliestDueSpec)) fnExactEarliestDueCard

/-- THE TIED CARD OF 'laws.FnExactOnTimeMost'. -/
def fnExactOnTimeMostCard : Claim7 := { stood := { row := fnExactOnTimeMostRow, standIns := [], harness := (true, "439f7eb298ca2b58c499fc93a30914df08e9094640df5b3dfe8c806ef234bf15"), looks := false }, kinds := [], alts := [], laidByText := true, laidKinds := [.data, .pinned], laidTests := true, laidLooks := .later }
def FnExactOnTimeMostCardSaid : Prop := Claim7.holds Tryd.pinned (.plain (OpenSpec.ofChange fnExactOnTimeMostSpec)) fnExactOnTimeMostCard

/-- THE TIED CARD OF 'laws.FnStock'. -/
def fnStockCard : Claim7 := { stood := { row := fnStockRow, standIns := [], harness := (true, "439f7eb298ca2b58c499fc93a30914df08e9094640df5b3dfe8c806ef234bf15"), looks := false }, kinds := [], alts := [], laidByText := true, laidKinds := [.data, .pinned], laidTests := true, laidLooks := .later }
def FnStockCardSaid : Prop := Claim7.holds Tryd.pinned (.plain (OpenSpec.ofChange fnStockSpec)) fnStockCard

/-- THE TIED CARD OF 'laws.FnTasks'. -/
def fnTasksCard : Claim7 := { stood := { row := fnTasksRow, standIns := [], harness := (true, "439f7eb298ca2b58c499fc93a30914df08e9094640df5b3dfe8c806ef234bf15"), looks := false }, kinds := [], alts := [], laidByText := true, laidKinds := [.data, .pinned], laidTests := true, laidLooks := .later }
def FnTasksCardSaid : Prop := Claim7.holds Tryd.pinned (.plain (OpenSpec.ofChange fnTasksSpec)) fnTasksCard

/-- THE TIED CARD OF 'laws.FnListed'. -/
def fnListedCard : Claim7 := { stood := { row := fnListedRow, standIns := [], harness := (true, "439f7eb298ca2b58c499fc93a30914df08e9094640df5b3dfe8c806ef234bf15"), looks := false }, kinds := [], alts := [], laidByText := true, laidKinds := [.data, .data, .data], laidTests := true, laidLooks := .later }
def FnListedCardSaid : Prop := Claim7.holds Tryd.pinned (.plain (OpenSpec.ofChange fnListedSpec)) fnListedCard

/-- THE SECOND FORM's CARD OF 'laws.FnRefills'. -/
def fnRefillsUptoCard : Claim7 := { stood := { row := fnRefillsUptoRow, standIns := [], harness := (true, "439f7eb298ca2b58c499fc93a30914df08e9094640df5b3dfe8c806ef234bf15"), looks := false }, kinds := [], alts := [], laidByText := true, laidKinds := [.data, .pinned], laidTests := true, laidLooks := .later }
def FnRefillsUptoCardSaid : Prop := Claim7.holds Tryd.pinned (.plain (OpenSpec.upto fnRefillsSpec)) fnRefillsUptoCard

/-- THE SECOND FORM's CARD OF 'laws.FnExactPractise'. -/
def fnExactPractiseUptoCard : Claim7 := { stood := { row := fnExactPractiseUptoRow, standIns := [], harness := (true, "439f7eb298ca2b58c499fc93a30914df08e9094640df5b3dfe8c806ef234bf15"), looks := false }, kinds := [], alts := [], laidByText := true, laidKinds := [.data, .pinned], laidTests := true, laidLooks := .later }
def FnExactPractiseUptoCardSaid : Prop := Claim7.holds Tryd.pinned (.plain (OpenSpec.upto fnExactPractiseSpec)) fnExactPractiseUptoCard

/-- THE SECOND FORM's CARD OF 'laws.FnExactRefillWithin'. -/
def fnExactRefillWithinUptoCard : Claim7 := { stood := { row := fnExactRefillWithinUptoRow, standIns := [], harness := (true, "439f7eb298ca2b58c499fc93a30914df08e9094640df5b3dfe8c806ef234bf15"), looks := false }, kinds := [], alts := [], laidByText := true, laidKinds := [.data, .pinned], laidTests := true, laidLooks := .later }
def FnExactRefillWithinUptoCardSaid : Prop := Claim7.holds Tryd.pinned (.plain (OpenSpec.upto fnExactRefillWithinSpec)) fnExactRefillWithinUptoCard

/-- THE SECOND FORM's CARD OF 'laws.FnExactAssignPupils'. -/
def fnExactAssignPupilsUptoCard : Claim7 := { stood := { row := fnExactAssignPupilsUptoRow, standIns := [], harness := (true, "439f7eb298ca2b58c499fc93a30914df08e9094640df5b3dfe8c806ef234bf15"), looks := false }, kinds := [], alts := [], laidByText := true, laidKinds := [.data, .pinned], laidTests := true, laidLooks := .later }
def FnExactAssignPupilsUptoCardSaid : Prop := Claim7.holds Tryd.pinned (.plain (OpenSpec.upto fnExactAssignPupilsSpec)) fnExactAssignPupilsUptoCard

/-- THE SECOND FORM's CARD OF 'laws.FnExactJoinStock'. -/
def fnExactJoinStockUptoCard : Claim7 := { stood := { row := fnExactJoinStockUptoRow, standIns := [], harness := (true, "439f7eb298ca2b58c499fc93a30914df08e9094640df5b3dfe8c806ef234bf15"), looks := false }, kinds := [], alts := [], laidByText := true, laidKinds := [.data, .pinned], laidTests := true, laidLooks := .later }
def FnExactJoinStockUptoCardSaid : Prop := Claim7.holds Tryd.pinned (.plain (OpenSpec.upto fnExactJoinStockSpec)) fnExactJoinStockUptoCard

/-- THE SECOND FORM's CARD OF 'laws.FnExactWorstDelay'. -/
def fnExactWorstDelayUptoCard : Claim7 := { stood := { row := fnExactWorstDelayUptoRow, standIns := [], harness := (true, "439f7eb298ca2b58c499fc93a30914df08e9094640df5b3dfe8c806ef234bf15"), looks := false }, kinds := [], alts := [], laidByText := true, laidKinds := [.data, .pinned], laidTests := true, laidLooks := .later }
def FnExactWorstDelayUptoCardSaid : Prop := Claim7.holds Tryd.pinned (.plain (OpenSpec.upto fnExactWorstDelaySpec)) fnExactWorstDelayUptoCard

/-- THE SECOND FORM's CARD OF 'laws.FnExactPutStock'. -/
def fnExactPutStockUptoCard : Claim7 := { stood := { row := fnExactPutStockUptoRow, standIns := [], harness := (true, "439f7eb298ca2b58c499fc93a30914df08e9094640df5b3dfe8c806ef234bf15"), looks := false }, kinds := [], alts := [], laidByText := true, laidKinds := [.data, .pinned], laidTests := true, laidLooks := .later }
def FnExactPutStockUptoCardSaid : Prop := Claim7.holds Tryd.pinned (.plain (OpenSpec.upto fnExactPutStockSpec)) fnExactPutStockUptoCard

/-- THE SECOND FORM's CARD OF 'laws.FnExactEarliestDue'. -/
def fnExactEarliestDueUptoCard : Claim7 := { stood := { row := fnExactEarliestDueUptoRow, standIns := [], harness := (true, "439f7eb298ca2b58c499fc93a30914df08e9094640df5b3dfe8c806ef234bf15"), looks := false }, kinds := [], alts := [], laidByText := true, laidKinds := [.data, .pinned], laidTests := true, laidLooks := .later }
def FnExactEarliestDueUptoCardSaid : Prop := Claim7.holds Tryd.pinned (.plain (OpenSpec.upto fnExactEarliestDueSpec)) fnExactEarliestDueUptoCard

/-- THE SECOND FORM's CARD OF 'laws.FnExactOnTimeMost'. -/
def fnExactOnTimeMostUptoCard : Claim7 := { stood := { row := fnExactOnTimeMostUptoRow, standIns := [], harness := (true, "439f7eb298ca2b58c499fc93a30914df08e9094640df5b3dfe8c806ef234bf15"), looks := false }, kinds := [], alts := [], laidByText := true, laidKinds := [.data, .pinned], laidTests := true, laidLooks := .later }
def FnExactOnTimeMostUptoCardSaid : Prop := Claim7.holds Tryd.pinned (.plain (OpenSpec.upto fnExactOnTimeMostSpec)) fnExactOnTimeMostUptoCard

/-- THE SECOND FORM's CARD OF 'laws.FnStock'. -/
def fnStockUptoCard : Claim7 := { stood := { row := fnStockUptoRow, standIns := [], harness := (true, "439f7eb298ca2b58c499fc93a30914df08e9094640df5b3dfe8c806ef234bf15"), looks := false }, kinds := [], alts := [], laidByText := true, laidKinds := [.data, .pinned], laidTests := true, laidLooks := .later }
def FnStockUptoCardSaid : Prop := Claim7.holds Tryd.pinned (.plain (OpenSpec.upto fnStockSpec)) fnStockUptoCard

/-- THE SECOND FORM's CARD OF 'laws.FnTasks'. -/
def fnTasksUptoCard : Claim7 := { stood := { row := fnTasksUptoRow, standIns := [], harness := (true, "439f7eb298ca2b58c499fc93a30914df08e9094640df5b3dfe8c806ef234bf15"), looks := false }, kinds := [], alts := [], laidByText := true, laidKinds := [.data, .pinned], laidTests := true, laidLooks := .later }
def FnTasksUptoCardSaid : Prop := Claim7.holds Tryd.pinned (.plain (OpenSpec.upto fnTasksSpec)) fnTasksUptoCard

/-- THE SECOND FORM's CARD OF 'laws.FnListed'. -/
def fnListedUptoCard : Claim7 := { stood := { row := fnListedUptoRow, standIns := [], harness := (true, "439f7eb298ca2b58c499fc93a30914df08e9094640df5b3dfe8c806ef234bf15"), looks := false }, kinds := [], alts := [], laidByText := true, laidKinds := [.data, .data, .data], laidTests := true, laidLooks := .later }
def FnListedUptoCardSaid : Prop := Claim7.holds Tryd.pinned (.plain (OpenSpec.upto fnListedSpec)) fnListedUptoCard
end Rows
end Go.Proofs.YtdjdillppgijmaaDoor
