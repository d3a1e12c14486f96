/-
  DERIVED. GIVEN WITH THE SEED: THE CARDS: each row of YtpdcfljbabpakaaGreatDoorRows.lean that lists a variable, with what it lists TIED to the program's text (the seventh form; the later family's looks); each row that meets fmt, with fmt's text TOLD by the authors' own Lean function (tested against real Go, not proved from fmt's source: count such statements apart). THE CARD IS WHAT COUNTS. Prove the row's statement (the work); the ties are given (YtpdcfljbabpakaaGreatDoorTie.lean); close each card by the builder's one call (the guide's Derived/Test/ToyasCard.lean, 'card_holds'). Laid BY PROGRAM, IN A SANDBOX (cutbox-door.mjs). By AI agents, Wed Nov 11 2026. No macro, syntax, notation, axiom, sorry.
-/
import Derived.Test.YtpdcfljbabpakaaGreatDoorRows
import GoSem.ClaimSeven
namespace Go.Proofs.YtpdcfljbabpakaaGreatDoor
namespace Rows

/-- THE TIED CARD OF 'rostrumkeep.SnapBad'. -/
def snapBadCard : Claim7 := { stood := { row := snapBadRow, standIns := [], harness := (true, "9b43c1b0bccea2708a15a8b93a08832e2bf1cbfc439a5d14baf2e9de7e5dce69"), looks := false }, kinds := [], alts := [], laidByText := true, laidKinds := [.data], laidTests := true, laidLooks := .later }
def SnapBadCardSaid : Prop := Claim7.holds Tryz.pinned (.plain (OpenSpec.ofChange snapBadSpec)) snapBadCard

/-- THE TIED CARD OF 'rostrumkeep.RestFits'. -/
def restFitsCard : Claim7 := { stood := { row := restFitsRow, standIns := [], harness := (true, "9b43c1b0bccea2708a15a8b93a08832e2bf1cbfc439a5d14baf2e9de7e5dce69"), looks := false }, kinds := [], alts := [], laidByText := true, laidKinds := [.data], laidTests := true, laidLooks := .later }
def RestFitsCardSaid : Prop := Claim7.holds Tryz.pinned (.plain (OpenSpec.ofChange restFitsSpec)) restFitsCard

/-- THE TIED CARD OF 'rostrumkeep.MachineBack'. -/
def machineBackCard : Claim7 := { stood := { row := machineBackRow, standIns := [], harness := (true, "9b43c1b0bccea2708a15a8b93a08832e2bf1cbfc439a5d14baf2e9de7e5dce69"), looks := false }, kinds := [], alts := [], laidByText := true, laidKinds := [.data], laidTests := true, laidLooks := .later }
def MachineBackCardSaid : Prop := Claim7.holds Tryz.pinned (.plain (OpenSpec.ofChange machineBackSpec)) machineBackCard

/-- THE TIED CARD OF 'rostrumkeep.MachineTorn'. -/
def machineTornCard : Claim7 := { stood := { row := machineTornRow, standIns := [], harness := (true, "9b43c1b0bccea2708a15a8b93a08832e2bf1cbfc439a5d14baf2e9de7e5dce69"), looks := false }, kinds := [], alts := [], laidByText := true, laidKinds := [.data], laidTests := true, laidLooks := .later }
def MachineTornCardSaid : Prop := Claim7.holds Tryz.pinned (.plain (OpenSpec.ofChange machineTornSpec)) machineTornCard

/-- THE TIED CARD OF 'rostrumkeep.TapeLong'. -/
def tapeLongCard : Claim7 := { stood := { row := tapeLongRow, standIns := [], harness := (true, "9b43c1b0bccea2708a15a8b93a08832e2bf1cbfc439a5d14baf2e9de7e5dce69"), looks := false }, kinds := [], alts := [], laidByText := true, laidKinds := [.data], laidTests := true, laidLooks := .later }
def TapeLongCardSaid : Prop := Claim7.holds Tryz.pinned (.plain (OpenSpec.ofChange tapeLongSpec)) tapeLongCard

/-- THE TIED CARD OF 'rostrumkeep.CrashJust'. -/
def crashJustCard : Claim7 := { stood := { row := crashJustRow, standIns := [], harness := (true, "9b43c1b0bccea2708a15a8b93a08832e2bf1cbfc439a5d14baf2e9de7e5dce69"), looks := false }, kinds := [], alts := [], laidByText := true, laidKinds := [.data], laidTests := true, laidLooks := .later }
def CrashJustCardSaid : Prop := Claim7.holds Tryz.pinned (.plain (OpenSpec.ofChange crashJustSpec)) crashJustCard

/-- THE TIED CARD OF 'rostrumkeep.FoldLoad'. -/
def foldLoadCard : Claim7 := { stood := { row := foldLoadRow, standIns := [], harness := (true, "9b43c1b0bccea2708a15a8b93a08832e2bf1cbfc439a5d14baf2e9de7e5dce69"), looks := false }, kinds := [], alts := [], laidByText := true, laidKinds := [.data], laidTests := true, laidLooks := .later }
def FoldLoadCardSaid : Prop := Claim7.holds Tryz.pinned (.plain (OpenSpec.ofChange foldLoadSpec)) foldLoadCard

/-- THE TIED CARD OF 'rostrumkeep.TapeTorn'. -/
def tapeTornCard : Claim7 := { stood := { row := tapeTornRow, standIns := [], harness := (true, "9b43c1b0bccea2708a15a8b93a08832e2bf1cbfc439a5d14baf2e9de7e5dce69"), looks := false }, kinds := [], alts := [], laidByText := true, laidKinds := [.data], laidTests := true, laidLooks := .later }
def TapeTornCardSaid : Prop := Claim7.holds Tryz.pinned (.plain (OpenSpec.ofChange tapeTornSpec)) tapeTornCard

/-- THE TIED CARD OF 'rostrumkeep.TapeOn'. -/
def tapeOnCard : Claim7 := { stood := { row := tapeOnRow, standIns := [], harness := (true, "9b43c1b0bccea2708a15a8b93a08832e2bf1cbfc439a5d14baf2e9de7e5dce69"), looks := false }, kinds := [], alts := [], laidByText := true, laidKinds := [.data], laidTests := true, laidLooks := .later }
def TapeOnCardSaid : Prop := Claim7.holds Tryz.pinned (.plain (OpenSpec.ofChange tapeOnSpec)) tapeOnCard

/-- THE TIED CARD OF 'rostrumkeep.TapeKeeps'. -/
def tapeKeepsCard : Claim7 := { stood := { row := tapeKeepsRow, standIns := [], harness := (true, "9b43c1b0bccea2708a15a8b93a08832e2bf1cbfc439a5d14baf2e9de7e5dce69"), looks := false }, kinds := [], alts := [], laidByText := true, laidKinds := [.data], laidTests := true, laidLooks := .later }
def TapeKeepsCardSaid : Prop := Claim7.holds Tryz.pinned (.plain (OpenSpec.ofChange tapeKeepsSpec)) tapeKeepsCard

/-- THE TIED CARD OF 'rostrumkeep.SyncSafe'. -/
def syncSafeCard : Claim7 := { stood := { row := syncSafeRow, standIns := [], harness := (true, "9b43c1b0bccea2708a15a8b93a08832e2bf1cbfc439a5d14baf2e9de7e5dce69"), looks := false }, kinds := [], alts := [], laidByText := true, laidKinds := [.data], laidTests := true, laidLooks := .later }
def SyncSafeCardSaid : Prop := Claim7.holds Tryz.pinned (.plain (OpenSpec.ofChange syncSafeSpec)) syncSafeCard

/-- THE TIED CARD OF 'rostrumkeep.RecordBad'. -/
def recordBadCard : Claim7 := { stood := { row := recordBadRow, standIns := [], harness := (true, "9b43c1b0bccea2708a15a8b93a08832e2bf1cbfc439a5d14baf2e9de7e5dce69"), looks := false }, kinds := [], alts := [], laidByText := true, laidKinds := [.data], laidTests := true, laidLooks := .later }
def RecordBadCardSaid : Prop := Claim7.holds Tryz.pinned (.plain (OpenSpec.ofChange recordBadSpec)) recordBadCard

/-- THE SECOND FORM's CARD OF 'rostrumkeep.SnapBad'. -/
def snapBadUptoCard : Claim7 := { stood := { row := snapBadUptoRow, standIns := [], harness := (true, "9b43c1b0bccea2708a15a8b93a08832e2bf1cbfc439a5d14baf2e9de7e5dce69"), looks := false }, kinds := [], alts := [], laidByText := true, laidKinds := [.data], laidTests := true, laidLooks := .later }
def SnapBadUptoCardSaid : Prop := Claim7.holds Tryz.pinned (.plain (OpenSpec.upto snapBadSpec)) snapBadUptoCard

/-- THE SECOND FORM's CARD OF 'rostrumkeep.RestFits'. -/
def restFitsUptoCard : Claim7 := { stood := { row := restFitsUptoRow, standIns := [], harness := (true, "9b43c1b0bccea2708a15a8b93a08832e2bf1cbfc439a5d14baf2e9de7e5dce69"), looks := false }, kinds := [], alts := [], laidByText := true, laidKinds := [.data], laidTests := true, laidLooks := .later }
def RestFitsUptoCardSaid : Prop := Claim7.holds Tryz.pinned (.plain (OpenSpec.upto restFitsSpec)) restFitsUptoCard

/-- THE SECOND FORM's CARD OF 'rostrumkeep.MachineBack'. -/
def machineBackUptoCard : Claim7 := { stood := { row := machineBackUptoRow, standIns := [], harness := (true, "9b43c1b0bccea2708a15a8b93a08832e2bf1cbfc439a5d14baf2e9de7e5dce69"), looks := false }, kinds := [], alts := [], laidByText := true, laidKinds := [.data], laidTests := true, laidLooks := .later }
def MachineBackUptoCardSaid : Prop := Claim7.holds Tryz.pinned (.plain (OpenSpec.upto machineBackSpec)) machineBackUptoCard

/-- THE SECOND FORM's CARD OF 'rostrumkeep.MachineTorn'. -/
def machineTornUptoCard : Claim7 := { stood := { row := machineTornUptoRow, standIns := [], harness := (true, "9b43c1b0bccea2708a15a8b93a08832e2bf1cbfc439a5d14baf2e9de7e5dce69"), looks := false }, kinds := [], alts := [], laidByText := true, laidKinds := [.data], laidTests := true, laidLooks := .later }
def MachineTornUptoCardSaid : Prop := Claim7.holds Tryz.pinned (.plain (OpenSpec.upto machineTornSpec)) machineTornUptoCard

/-- THE SECOND FORM's CARD OF 'rostrumkeep.TapeLong'. -/
def tapeLongUptoCard : Claim7 := { stood := { row := tapeLongUptoRow, standIns := [], harness := (true, "9b43c1b0bccea2708a15a8b93a08832e2bf1cbfc439a5d14baf2e9de7e5dce69"), looks := false }, kinds := [], alts := [], laidByText := true, laidKinds := [.data], laidTests := true, laidLooks := .later }
def TapeLongUptoCardSaid : Prop := Claim7.holds Tryz.pinned (.plain (OpenSpec.upto tapeLongSpec)) tapeLongUptoCard

/-- THE SECOND FORM's CARD OF 'rostrumkeep.CrashJust'. -/
def crashJustUptoCard : Claim7 := { stood := { row := crashJustUptoRow, standIns := [], harness := (true, "9b43c1b0bccea2708a15a8b93a08832e2bf1cbfc439a5d14baf2e9de7e5dce69"), looks := false }, kinds := [], alts := [], laidByText := true, laidKinds := [.data], laidTests := true, laidLooks := .later }
def CrashJustUptoCardSaid : Prop := Claim7.holds Tryz.pinned (.plain (OpenSpec.upto crashJustSpec)) crashJustUptoCard

/-- THE SECOND FORM's CARD OF 'rostrumkeep.FoldLoad'. -/
def foldLoadUptoCard : Claim7 := { stood := { row := foldLoadUptoRow, standIns := [], harness := (true, "9b43c1b0bccea2708a15a8b93a08832e2bf1cbfc439a5d14baf2e9de7e5dce69"), looks := false }, kinds := [], alts := [], laidByText := true, laidKinds := [.data], laidTests := true, laidLooks := .later }
def FoldLoadUptoCardSaid : Prop := Claim7.holds Tryz.pinned (.plain (OpenSpec.upto foldLoadSpec)) foldLoadUptoCard

/-- THE SECOND FORM's CARD OF 'rostrumkeep.TapeTorn'. -/
def tapeTornUptoCard : Claim7 := { stood := { row := tapeTornUptoRow, standIns := [], harness := (true, "9b43c1b0bccea2708a15a8b93a08832e2bf1cbfc439a5d14baf2e9de7e5dce69"), looks := false }, kinds := [], alts := [], laidByText := true, laidKinds := [.data], laidTests := true, laidLooks := .later }
def TapeTornUptoCardSaid : Prop := Claim7.holds Tryz.pinned (.plain (OpenSpec.upto tapeTornSpec)) tapeTornUptoCard

/-- THE SECOND FORM's CARD OF 'rostrumkeep.TapeOn'. -/
def tapeOnUptoCard : Claim7 := { stood := { row := tapeOnUptoRow, standIns := [], harness := (true, "9b43c1b0bccea2708a15a8b93a08832e2bf1cbfc439a5d14baf2e9de7e5dce69"), looks := false }, kinds := [], alts := [], laidByText := true, laidKinds := [.data], laidTests := true, laidLooks := .later }
def TapeOnUptoCardSaid : Prop := Claim7.holds Tryz.pinned (.plain (OpenSpec.upto tapeOnSpec)) tapeOnUptoCard

/-- THE SECOND FORM's CARD OF 'rostrumkeep.TapeKeeps'. -/
def tapeKeepsUptoCard : Claim7 := { stood := { row := tapeKeepsUptoRow, standIns := [], harness := (true, "9b43c1b0bccea2708a15a8b93a08832e2bf1cbfc439a5d14baf2e9de7e5dce69"), looks := false }, kinds := [], alts := [], laidByText := true, laidKinds := [.data], laidTests := true, laidLooks := .later }
def TapeKeepsUptoCardSaid : Prop := Claim7.holds Tryz.pinned (.plain (OpenSpec.upto tapeKeepsSpec)) tapeKeepsUptoCard

/-- THE SECOND FORM's CARD OF 'rostrumkeep.SyncSafe'. -/
def syncSafeUptoCard : Claim7 := { stood := { row := syncSafeUptoRow, standIns := [], harness := (true, "9b43c1b0bccea2708a15a8b93a08832e2bf1cbfc439a5d14baf2e9de7e5dce69"), looks := false }, kinds := [], alts := [], laidByText := true, laidKinds := [.data], laidTests := true, laidLooks := .later }
def SyncSafeUptoCardSaid : Prop := Claim7.holds Tryz.pinned (.plain (OpenSpec.upto syncSafeSpec)) syncSafeUptoCard

/-- THE SECOND FORM's CARD OF 'rostrumkeep.RecordBad'. -/
def recordBadUptoCard : Claim7 := { stood := { row := recordBadUptoRow, standIns := [], harness := (true, "9b43c1b0bccea2708a15a8b93a08832e2bf1cbfc439a5d14baf2e9de7e5dce69"), looks := false }, kinds := [], alts := [], laidByText := true, laidKinds := [.data], laidTests := true, laidLooks := .later }
def RecordBadUptoCardSaid : Prop := Claim7.holds Tryz.pinned (.plain (OpenSpec.upto recordBadSpec)) recordBadUptoCard
end Rows
end Go.Proofs.YtpdcfljbabpakaaGreatDoor
