/-
  DERIVED. GIVEN WITH THE SEED: THE CARDS: each row of YtmaiphnabebplaaGreatDoorRows.lean that lists a variable, with what it lists TIED to the program's text (the seventh form; the later family's looks); each row that meets fmt, with fmt's text TOLD by the authors' own Lean function (tested against real Go, not proved from fmt's source: count such statements apart). THE CARD IS WHAT COUNTS. Prove the row's statement (the work); the ties are given (YtmaiphnabebplaaGreatDoorTie.lean); close each card by the builder's one call (the guide's Derived/Test/ToyasCard.lean, 'card_holds'). Laid BY PROGRAM, IN A SANDBOX (cutbox-door.mjs). By AI agents, Wed Nov 11 2026. No macro, syntax, notation, axiom, sorry.
-/
import Derived.Test.YtmaiphnabebplaaGreatDoorRows
import GoSem.ClaimSeven
namespace Go.Proofs.YtmaiphnabebplaaGreatDoor
namespace Rows

/-- THE TIED CARD OF 'rostrumkeep.MachineMay'. -/
def machineMayCard : Claim7 := { stood := { row := machineMayRow, standIns := [], harness := (true, "9a4ed2b20ab1fc6baae9236f073ec822e9273fa2f8e813ea759a9b3c0949de2c"), looks := false }, kinds := [], alts := [], laidByText := true, laidKinds := [.data], laidTests := true, laidLooks := .later }
def MachineMayCardSaid : Prop := Claim7.holds Tryz.pinned (.plain (OpenSpec.ofChange machineMaySpec)) machineMayCard

/-- THE TIED CARD OF 'rostrumkeep.OnceDone'. -/
def onceDoneCard : Claim7 := { stood := { row := onceDoneRow, standIns := [], harness := (true, "9a4ed2b20ab1fc6baae9236f073ec822e9273fa2f8e813ea759a9b3c0949de2c"), looks := false }, kinds := [], alts := [], laidByText := true, laidKinds := [.data], laidTests := true, laidLooks := .later }
def OnceDoneCardSaid : Prop := Claim7.holds Tryz.pinned (.plain (OpenSpec.ofChange onceDoneSpec)) onceDoneCard

/-- THE TIED CARD OF 'rostrumkeep.OpenIds'. -/
def openIdsCard : Claim7 := { stood := { row := openIdsRow, standIns := [], harness := (true, "9a4ed2b20ab1fc6baae9236f073ec822e9273fa2f8e813ea759a9b3c0949de2c"), looks := false }, kinds := [], alts := [], laidByText := true, laidKinds := [.data], laidTests := true, laidLooks := .later }
def OpenIdsCardSaid : Prop := Claim7.holds Tryz.pinned (.plain (OpenSpec.ofChange openIdsSpec)) openIdsCard

/-- THE TIED CARD OF 'rostrumkeep.GoneTold'. -/
def goneToldCard : Claim7 := { stood := { row := goneToldRow, standIns := [], harness := (true, "9a4ed2b20ab1fc6baae9236f073ec822e9273fa2f8e813ea759a9b3c0949de2c"), looks := false }, kinds := [], alts := [], laidByText := true, laidKinds := [.data], laidTests := true, laidLooks := .later }
def GoneToldCardSaid : Prop := Claim7.holds Tryz.pinned (.plain (OpenSpec.ofChange goneToldSpec)) goneToldCard

/-- THE TIED CARD OF 'rostrumkeep.OldGoes'. -/
def oldGoesCard : Claim7 := { stood := { row := oldGoesRow, standIns := [], harness := (true, "9a4ed2b20ab1fc6baae9236f073ec822e9273fa2f8e813ea759a9b3c0949de2c"), looks := false }, kinds := [], alts := [], laidByText := true, laidKinds := [.data], laidTests := true, laidLooks := .later }
def OldGoesCardSaid : Prop := Claim7.holds Tryz.pinned (.plain (OpenSpec.ofChange oldGoesSpec)) oldGoesCard

/-- THE TIED CARD OF 'rostrumkeep.OrderTold'. -/
def orderToldCard : Claim7 := { stood := { row := orderToldRow, standIns := [], harness := (true, "9a4ed2b20ab1fc6baae9236f073ec822e9273fa2f8e813ea759a9b3c0949de2c"), looks := false }, kinds := [], alts := [], laidByText := true, laidKinds := [.data], laidTests := true, laidLooks := .later }
def OrderToldCardSaid : Prop := Claim7.holds Tryz.pinned (.plain (OpenSpec.ofChange orderToldSpec)) orderToldCard

/-- THE TIED CARD OF 'rostrumkeep.ClientsApart'. -/
def clientsApartCard : Claim7 := { stood := { row := clientsApartRow, standIns := [], harness := (true, "9a4ed2b20ab1fc6baae9236f073ec822e9273fa2f8e813ea759a9b3c0949de2c"), looks := false }, kinds := [], alts := [], laidByText := true, laidKinds := [.data], laidTests := true, laidLooks := .later }
def ClientsApartCardSaid : Prop := Claim7.holds Tryz.pinned (.plain (OpenSpec.ofChange clientsApartSpec)) clientsApartCard

/-- THE TIED CARD OF 'rostrumkeep.SeqRuns'. -/
def seqRunsCard : Claim7 := { stood := { row := seqRunsRow, standIns := [], harness := (true, "9a4ed2b20ab1fc6baae9236f073ec822e9273fa2f8e813ea759a9b3c0949de2c"), looks := false }, kinds := [], alts := [], laidByText := true, laidKinds := [.data], laidTests := true, laidLooks := .later }
def SeqRunsCardSaid : Prop := Claim7.holds Tryz.pinned (.plain (OpenSpec.ofChange seqRunsSpec)) seqRunsCard

/-- THE SECOND FORM's CARD OF 'rostrumkeep.MachineMay'. -/
def machineMayUptoCard : Claim7 := { stood := { row := machineMayUptoRow, standIns := [], harness := (true, "9a4ed2b20ab1fc6baae9236f073ec822e9273fa2f8e813ea759a9b3c0949de2c"), looks := false }, kinds := [], alts := [], laidByText := true, laidKinds := [.data], laidTests := true, laidLooks := .later }
def MachineMayUptoCardSaid : Prop := Claim7.holds Tryz.pinned (.plain (OpenSpec.upto machineMaySpec)) machineMayUptoCard

/-- THE SECOND FORM's CARD OF 'rostrumkeep.OnceDone'. -/
def onceDoneUptoCard : Claim7 := { stood := { row := onceDoneUptoRow, standIns := [], harness := (true, "9a4ed2b20ab1fc6baae9236f073ec822e9273fa2f8e813ea759a9b3c0949de2c"), looks := false }, kinds := [], alts := [], laidByText := true, laidKinds := [.data], laidTests := true, laidLooks := .later }
def OnceDoneUptoCardSaid : Prop := Claim7.holds Tryz.pinned (.plain (OpenSpec.upto onceDoneSpec)) onceDoneUptoCard

/-- THE SECOND FORM's CARD OF 'rostrumkeep.OpenIds'. -/
def openIdsUptoCard : Claim7 := { stood := { row := openIdsUptoRow, standIns := [], harness := (true, "9a4ed2b20ab1fc6baae9236f073ec822e9273fa2f8e813ea759a9b3c0949de2c"), looks := false }, kinds := [], alts := [], laidByText := true, laidKinds := [.data], laidTests := true, laidLooks := .later }
def OpenIdsUptoCardSaid : Prop := Claim7.holds Tryz.pinned (.plain (OpenSpec.upto openIdsSpec)) openIdsUptoCard

/-- THE SECOND FORM's CARD OF 'rostrumkeep.GoneTold'. -/
def goneToldUptoCard : Claim7 := { stood := { row := goneToldUptoRow, standIns := [], harness := (true, "9a4ed2b20ab1fc6baae9236f073ec822e9273fa2f8e813ea759a9b3c0949de2c"), looks := false }, kinds := [], alts := [], laidByText := true, laidKinds := [.data], laidTests := true, laidLooks := .later }
def GoneToldUptoCardSaid : Prop := Claim7.holds Tryz.pinned (.plain (OpenSpec.upto goneToldSpec)) goneToldUptoCard

/-- THE SECOND FORM's CARD OF 'rostrumkeep.OldGoes'. -/
def oldGoesUptoCard : Claim7 := { stood := { row := oldGoesUptoRow, standIns := [], harness := (true, "9a4ed2b20ab1fc6baae9236f073ec822e9273fa2f8e813ea759a9b3c0949de2c"), looks := false }, kinds := [], alts := [], laidByText := true, laidKinds := [.data], laidTests := true, laidLooks := .later }
def OldGoesUptoCardSaid : Prop := Claim7.holds Tryz.pinned (.plain (OpenSpec.upto oldGoesSpec)) oldGoesUptoCard

/-- THE SECOND FORM's CARD OF 'rostrumkeep.OrderTold'. -/
def orderToldUptoCard : Claim7 := { stood := { row := orderToldUptoRow, standIns := [], harness := (true, "9a4ed2b20ab1fc6baae9236f073ec822e9273fa2f8e813ea759a9b3c0949de2c"), looks := false }, kinds := [], alts := [], laidByText := true, laidKinds := [.data], laidTests := true, laidLooks := .later }
def OrderToldUptoCardSaid : Prop := Claim7.holds Tryz.pinned (.plain (OpenSpec.upto orderToldSpec)) orderToldUptoCard

/-- THE SECOND FORM's CARD OF 'rostrumkeep.ClientsApart'. -/
def clientsApartUptoCard : Claim7 := { stood := { row := clientsApartUptoRow, standIns := [], harness := (true, "9a4ed2b20ab1fc6baae9236f073ec822e9273fa2f8e813ea759a9b3c0949de2c"), looks := false }, kinds := [], alts := [], laidByText := true, laidKinds := [.data], laidTests := true, laidLooks := .later }
def ClientsApartUptoCardSaid : Prop := Claim7.holds Tryz.pinned (.plain (OpenSpec.upto clientsApartSpec)) clientsApartUptoCard

/-- THE SECOND FORM's CARD OF 'rostrumkeep.SeqRuns'. -/
def seqRunsUptoCard : Claim7 := { stood := { row := seqRunsUptoRow, standIns := [], harness := (true, "9a4ed2b20ab1fc6baae9236f073ec822e9273fa2f8e813ea759a9b3c0949de2c"), looks := false }, kinds := [], alts := [], laidByText := true, laidKinds := [.data], laidTests := true, laidLooks := .later }
def SeqRunsUptoCardSaid : Prop := Claim7.holds Tryz.pinned (.plain (OpenSpec.upto seqRunsSpec)) seqRunsUptoCard
end Rows
end Go.Proofs.YtmaiphnabebplaaGreatDoor
