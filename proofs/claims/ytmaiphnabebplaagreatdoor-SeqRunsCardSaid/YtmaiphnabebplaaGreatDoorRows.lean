/-
  NARROWER THAN 'FOR EVERY INPUT', by the rows' own cells (each row's printed sentence says how): MachineMay: laid · OnceDone: laid · OpenIds: laid · GoneTold: laid · OldGoes: laid · OrderTold: laid · ClientsApart: laid · SeqRuns: laid.
  DERIVED. THE GIVEN ROWS OF THIS SEAT. 8 by the template 'for every input the law returns true; each argument reads behind the call as it read before'; 0 by the template 'total and deterministic' (their statements: YtmaiphnabebplaaGreatDoorTotals.lean).
  GIVEN WITH THE SEED: the statements are not yours to turn. If you find one false, say at which input.
  Laid BY PROGRAM, IN A SANDBOX (cutbox-rows.mjs): the forced cells as the released guide's own fill.sh prints them over the translation cd0dd9ff5ce1bd8f… (all of the seat's roots in one cut). By AI agents, Wed Nov 11 2026. No macro, syntax, notation, axiom, sorry.
-/
import Derived.Test.YtmaiphnabebplaaGreatDoorChecked
import GoSem.Claim
import GoSem.ClaimJoined
import GoSem.ClaimMapViews
import Derived.JoinedTies
import Derived.KernelRfl
namespace Go.Proofs.YtmaiphnabebplaaGreatDoor
/- THE CELL 'sum', in the pinned program and in every row, IS THE sha256 OF THE DUMP (.gsa) THAT YtmaiphnabebplaaGreatDoorProg.lean LOADS. Nothing in Lean hashes anything: it is a label: what it is worth is what the hold of that sum in a sandbox is worth. -/
noncomputable def Tryz.pinned : Pinned := { name := "ytmaiphnabebplaagreatdoor", sum := "cd0dd9ff5ce1bd8f82585e56f32fc891662168b24393095f28a7082229b7ddb7", checked := Tryz.checked }
namespace Rows
def none {H : Type} : Left H := { results := [], args := [] }

/- WHAT THE LISTED PACKAGE-LEVEL VARIABLES READ AS WHEN THE CALL BEGINS. Each datum BY PROGRAM (the guide's laid-datum.mjs) off the statement by which the dump's own 'gosem.cut.vars' lays the variable. In a bare row this is a premise. The card (YtmaiphnabebplaaGreatDoorCards.lean) ties it to the program's text. -/
def laid_rostrum_client_nothing {H : Type} : DataW H := .agg [.lit (.int .i64 22), .lit (.string []), .lit (.string []), .lit (.string []), .lit (.int .i64 0)]

/-- 'rostrumkeep.MachineMay': WHATEVER THE INPUT: true; the input reads as it did. -/
def machineMaySpec : ChangeSpec := { name := "machineMay", fn := fun _ => fun
  | [d1, d2] => { results := [.lit (.bool true)], args := [d1, d2] }
  | _ => none }
def machineMayRow : OpenClaim := { program := "ytmaiphnabebplaagreatdoor", sum := "cd0dd9ff5ce1bd8f82585e56f32fc891662168b24393095f28a7082229b7ddb7", func := "rostrum/rostrumkeep.MachineMay", spec := "machineMay", inPlace := ["internal/bytealg.abigen_runtime_cmpstring", "slices.overlaps[rostrum/api.Pair]", "slices.overlaps[string]", "slices.overlaps[rostrum/api.Score]", "slices.overlaps[rostrum/api.Entry]"], unfollowed := true, recurses := true, named := ["rostrum/client.nothing"], apart := false, laid := [("rostrum/client.nothing", laid_rostrum_client_nothing)] }
def MachineMaySaid : Prop := machineMayRow.holds Tryz.pinned (OpenSpec.ofChange machineMaySpec)

/-- ITS FALSE NEIGHBOUR: 'it returns false'. Refute it at one input. -/
def machineMayWrong : ChangeSpec := { name := "machineMay", fn := fun _ => fun
  | [d1, d2] => { results := [.lit (.bool false)], args := [d1, d2] }
  | _ => none }
def MachineMayWrongFalsely : Prop := machineMayRow.holds Tryz.pinned (OpenSpec.ofChange machineMayWrong)

/-- 'rostrumkeep.OnceDone': WHATEVER THE INPUT: true; the input reads as it did. -/
def onceDoneSpec : ChangeSpec := { name := "onceDone", fn := fun _ => fun
  | [d1, d2, d3] => { results := [.lit (.bool true)], args := [d1, d2, d3] }
  | _ => none }
def onceDoneRow : OpenClaim := { program := "ytmaiphnabebplaagreatdoor", sum := "cd0dd9ff5ce1bd8f82585e56f32fc891662168b24393095f28a7082229b7ddb7", func := "rostrum/rostrumkeep.OnceDone", spec := "onceDone", inPlace := ["internal/bytealg.abigen_runtime_cmpstring", "slices.overlaps[rostrum/api.Pair]", "slices.overlaps[string]", "slices.overlaps[rostrum/api.Score]", "slices.overlaps[rostrum/api.Entry]"], unfollowed := true, recurses := true, named := ["rostrum/client.nothing"], apart := false, laid := [("rostrum/client.nothing", laid_rostrum_client_nothing)] }
def OnceDoneSaid : Prop := onceDoneRow.holds Tryz.pinned (OpenSpec.ofChange onceDoneSpec)

/-- ITS FALSE NEIGHBOUR: 'it returns false'. Refute it at one input. -/
def onceDoneWrong : ChangeSpec := { name := "onceDone", fn := fun _ => fun
  | [d1, d2, d3] => { results := [.lit (.bool false)], args := [d1, d2, d3] }
  | _ => none }
def OnceDoneWrongFalsely : Prop := onceDoneRow.holds Tryz.pinned (OpenSpec.ofChange onceDoneWrong)

/-- 'rostrumkeep.OpenIds': WHATEVER THE INPUT: true; the input reads as it did. -/
def openIdsSpec : ChangeSpec := { name := "openIds", fn := fun _ => fun
  | [d] => { results := [.lit (.bool true)], args := [d] }
  | _ => none }
def openIdsRow : OpenClaim := { program := "ytmaiphnabebplaagreatdoor", sum := "cd0dd9ff5ce1bd8f82585e56f32fc891662168b24393095f28a7082229b7ddb7", func := "rostrum/rostrumkeep.OpenIds", spec := "openIds", inPlace := ["internal/bytealg.abigen_runtime_cmpstring", "slices.overlaps[rostrum/api.Pair]", "slices.overlaps[string]", "slices.overlaps[rostrum/api.Score]", "slices.overlaps[rostrum/api.Entry]"], unfollowed := true, recurses := true, named := ["rostrum/client.nothing"], apart := false, laid := [("rostrum/client.nothing", laid_rostrum_client_nothing)] }
def OpenIdsSaid : Prop := openIdsRow.holds Tryz.pinned (OpenSpec.ofChange openIdsSpec)

/-- ITS FALSE NEIGHBOUR: 'it returns false'. Refute it at one input. -/
def openIdsWrong : ChangeSpec := { name := "openIds", fn := fun _ => fun
  | [d] => { results := [.lit (.bool false)], args := [d] }
  | _ => none }
def OpenIdsWrongFalsely : Prop := openIdsRow.holds Tryz.pinned (OpenSpec.ofChange openIdsWrong)

/-- 'rostrumkeep.GoneTold': WHATEVER THE INPUT: true; the input reads as it did. -/
def goneToldSpec : ChangeSpec := { name := "goneTold", fn := fun _ => fun
  | [d1, d2] => { results := [.lit (.bool true)], args := [d1, d2] }
  | _ => none }
def goneToldRow : OpenClaim := { program := "ytmaiphnabebplaagreatdoor", sum := "cd0dd9ff5ce1bd8f82585e56f32fc891662168b24393095f28a7082229b7ddb7", func := "rostrum/rostrumkeep.GoneTold", spec := "goneTold", inPlace := ["internal/bytealg.abigen_runtime_cmpstring", "slices.overlaps[rostrum/api.Pair]", "slices.overlaps[string]", "slices.overlaps[rostrum/api.Score]", "slices.overlaps[rostrum/api.Entry]"], unfollowed := true, recurses := true, named := ["rostrum/client.nothing"], apart := false, laid := [("rostrum/client.nothing", laid_rostrum_client_nothing)] }
def GoneToldSaid : Prop := goneToldRow.holds Tryz.pinned (OpenSpec.ofChange goneToldSpec)

/-- ITS FALSE NEIGHBOUR: 'it returns false'. Refute it at one input. -/
def goneToldWrong : ChangeSpec := { name := "goneTold", fn := fun _ => fun
  | [d1, d2] => { results := [.lit (.bool false)], args := [d1, d2] }
  | _ => none }
def GoneToldWrongFalsely : Prop := goneToldRow.holds Tryz.pinned (OpenSpec.ofChange goneToldWrong)

/-- 'rostrumkeep.OldGoes': WHATEVER THE INPUT: true; the input reads as it did. -/
def oldGoesSpec : ChangeSpec := { name := "oldGoes", fn := fun _ => fun
  | [d] => { results := [.lit (.bool true)], args := [d] }
  | _ => none }
def oldGoesRow : OpenClaim := { program := "ytmaiphnabebplaagreatdoor", sum := "cd0dd9ff5ce1bd8f82585e56f32fc891662168b24393095f28a7082229b7ddb7", func := "rostrum/rostrumkeep.OldGoes", spec := "oldGoes", inPlace := ["internal/bytealg.abigen_runtime_cmpstring", "slices.overlaps[rostrum/api.Pair]", "slices.overlaps[string]", "slices.overlaps[rostrum/api.Score]", "slices.overlaps[rostrum/api.Entry]"], unfollowed := true, recurses := true, named := ["rostrum/client.nothing"], apart := false, laid := [("rostrum/client.nothing", laid_rostrum_client_nothing)] }
def OldGoesSaid : Prop := oldGoesRow.holds Tryz.pinned (OpenSpec.ofChange oldGoesSpec)

/-- ITS FALSE NEIGHBOUR: 'it returns false'. Refute it at one input. -/
def oldGoesWrong : ChangeSpec := { name := "oldGoes", fn := fun _ => fun
  | [d] => { results := [.lit (.bool false)], args := [d] }
  | _ => none }
def OldGoesWrongFalsely : Prop := oldGoesRow.holds Tryz.pinned (OpenSpec.ofChange oldGoesWrong)

/-- 'rostrumkeep.OrderTold': WHATEVER THE INPUT: true; the input reads as it did. -/
def orderToldSpec : ChangeSpec := { name := "orderTold", fn := fun _ => fun
  | [d1, d2] => { results := [.lit (.bool true)], args := [d1, d2] }
  | _ => none }
def orderToldRow : OpenClaim := { program := "ytmaiphnabebplaagreatdoor", sum := "cd0dd9ff5ce1bd8f82585e56f32fc891662168b24393095f28a7082229b7ddb7", func := "rostrum/rostrumkeep.OrderTold", spec := "orderTold", inPlace := ["internal/bytealg.abigen_runtime_cmpstring", "slices.overlaps[rostrum/api.Pair]", "slices.overlaps[string]", "slices.overlaps[rostrum/api.Score]", "slices.overlaps[rostrum/api.Entry]"], unfollowed := true, recurses := true, named := ["rostrum/client.nothing"], apart := false, laid := [("rostrum/client.nothing", laid_rostrum_client_nothing)] }
def OrderToldSaid : Prop := orderToldRow.holds Tryz.pinned (OpenSpec.ofChange orderToldSpec)

/-- ITS FALSE NEIGHBOUR: 'it returns false'. Refute it at one input. -/
def orderToldWrong : ChangeSpec := { name := "orderTold", fn := fun _ => fun
  | [d1, d2] => { results := [.lit (.bool false)], args := [d1, d2] }
  | _ => none }
def OrderToldWrongFalsely : Prop := orderToldRow.holds Tryz.pinned (OpenSpec.ofChange orderToldWrong)

/-- 'rostrumkeep.ClientsApart': WHATEVER THE INPUT: true; the input reads as it did. -/
def clientsApartSpec : ChangeSpec := { name := "clientsApart", fn := fun _ => fun
  | [d1, d2] => { results := [.lit (.bool true)], args := [d1, d2] }
  | _ => none }
def clientsApartRow : OpenClaim := { program := "ytmaiphnabebplaagreatdoor", sum := "cd0dd9ff5ce1bd8f82585e56f32fc891662168b24393095f28a7082229b7ddb7", func := "rostrum/rostrumkeep.ClientsApart", spec := "clientsApart", inPlace := ["internal/bytealg.abigen_runtime_cmpstring", "slices.overlaps[rostrum/api.Pair]", "slices.overlaps[string]", "slices.overlaps[rostrum/api.Score]", "slices.overlaps[rostrum/api.Entry]"], unfollowed := true, recurses := true, named := ["rostrum/client.nothing"], apart := false, laid := [("rostrum/client.nothing", laid_rostrum_client_nothing)] }
def ClientsApartSaid : Prop := clientsApartRow.holds Tryz.pinned (OpenSpec.ofChange clientsApartSpec)

/-- ITS FALSE NEIGHBOUR: 'it returns false'. Refute it at one input. -/
def clientsApartWrong : ChangeSpec := { name := "clientsApart", fn := fun _ => fun
  | [d1, d2] => { results := [.lit (.bool false)], args := [d1, d2] }
  | _ => none }
def ClientsApartWrongFalsely : Prop := clientsApartRow.holds Tryz.pinned (OpenSpec.ofChange clientsApartWrong)

/-- 'rostrumkeep.SeqRuns': WHATEVER THE INPUT: true; the input reads as it did. -/
def seqRunsSpec : ChangeSpec := { name := "seqRuns", fn := fun _ => fun
  | [d1, d2] => { results := [.lit (.bool true)], args := [d1, d2] }
  | _ => none }
def seqRunsRow : OpenClaim := { program := "ytmaiphnabebplaagreatdoor", sum := "cd0dd9ff5ce1bd8f82585e56f32fc891662168b24393095f28a7082229b7ddb7", func := "rostrum/rostrumkeep.SeqRuns", spec := "seqRuns", inPlace := ["internal/bytealg.abigen_runtime_cmpstring", "slices.overlaps[rostrum/api.Pair]", "slices.overlaps[string]", "slices.overlaps[rostrum/api.Score]", "slices.overlaps[rostrum/api.Entry]"], unfollowed := true, recurses := true, named := ["rostrum/client.nothing"], apart := false, laid := [("rostrum/client.nothing", laid_rostrum_client_nothing)] }
def SeqRunsSaid : Prop := seqRunsRow.holds Tryz.pinned (OpenSpec.ofChange seqRunsSpec)

/-- ITS FALSE NEIGHBOUR: 'it returns false'. Refute it at one input. -/
def seqRunsWrong : ChangeSpec := { name := "seqRuns", fn := fun _ => fun
  | [d1, d2] => { results := [.lit (.bool false)], args := [d1, d2] }
  | _ => none }
def SeqRunsWrongFalsely : Prop := seqRunsRow.holds Tryz.pinned (OpenSpec.ofChange seqRunsWrong)

/- THE SECOND FORM. 'bulk': how many values and letters a reading holds, each counted each time it is reached (what is shared counts as often as it is met; a slice's spare places count too). A statement '..UptoSaid' is the law's where the arguments, and the package variables that the reading takes, are together of bulk at most 1048576: NARROWER than '..Said'. Prove '..Said' where nothing that the law and all that it calls make is longer than what came in: it says more and counts as full. Else prove '..UptoSaid'. A law counts once. -/
mutual
def uptoBulk {H : Type} : DataW H → Nat
  | .lit (.string bytes) => bytes.length + 1
  | .lit _ => 1
  | .nil => 1
  | .ptr d => uptoBulk d + 1
  | .slice elems spare => uptoBulkAll elems + uptoBulkAll spare + 1
  | .agg parts => uptoBulkAll parts + 1
  | .iface _ d => uptoBulk d + 1
  | .map entries => uptoBulkEntries entries + 1
  | .held _ => 1
def uptoBulkAll {H : Type} : List (DataW H) → Nat
  | [] => 0
  | d :: r => uptoBulk d + uptoBulkAll r
def uptoBulkEntries {H : Type} : List (Lit × DataW H) → Nat
  | [] => 0
  | x :: r => uptoBulkEntry x + uptoBulkEntries r
def uptoBulkEntry {H : Type} : Lit × DataW H → Nat
  | (.string bytes, d) => bytes.length + uptoBulk d + 1
  | (_, d) => uptoBulk d + 1
 end
def uptoSmall : (H : Type) → List (DataW H) → Bool := fun _ ds => decide (uptoBulkAll ds ≤ 1048576)
def OpenSpec.upto (s : _root_.Go.ChangeSpec) : _root_.Go.OpenSpec := { _root_.Go.OpenSpec.ofChange s with cond := some uptoSmall }

/-- 'rostrumkeep.MachineMay', WHERE WHAT IT READS IS OF BULK AT MOST 1048576: true; the input reads as it did. -/
def machineMayUptoRow : OpenClaim := { program := "ytmaiphnabebplaagreatdoor", sum := "cd0dd9ff5ce1bd8f82585e56f32fc891662168b24393095f28a7082229b7ddb7", func := "rostrum/rostrumkeep.MachineMay", spec := "machineMay", inPlace := ["internal/bytealg.abigen_runtime_cmpstring", "slices.overlaps[rostrum/api.Pair]", "slices.overlaps[string]", "slices.overlaps[rostrum/api.Score]", "slices.overlaps[rostrum/api.Entry]"], unfollowed := true, recurses := true, named := ["rostrum/client.nothing"], apart := false, laid := [("rostrum/client.nothing", laid_rostrum_client_nothing)], narrowed := true }
def MachineMayUptoSaid : Prop := machineMayUptoRow.holds Tryz.pinned (OpenSpec.upto machineMaySpec)

/-- 'rostrumkeep.OnceDone', WHERE WHAT IT READS IS OF BULK AT MOST 1048576: true; the input reads as it did. -/
def onceDoneUptoRow : OpenClaim := { program := "ytmaiphnabebplaagreatdoor", sum := "cd0dd9ff5ce1bd8f82585e56f32fc891662168b24393095f28a7082229b7ddb7", func := "rostrum/rostrumkeep.OnceDone", spec := "onceDone", inPlace := ["internal/bytealg.abigen_runtime_cmpstring", "slices.overlaps[rostrum/api.Pair]", "slices.overlaps[string]", "slices.overlaps[rostrum/api.Score]", "slices.overlaps[rostrum/api.Entry]"], unfollowed := true, recurses := true, named := ["rostrum/client.nothing"], apart := false, laid := [("rostrum/client.nothing", laid_rostrum_client_nothing)], narrowed := true }
def OnceDoneUptoSaid : Prop := onceDoneUptoRow.holds Tryz.pinned (OpenSpec.upto onceDoneSpec)

/-- 'rostrumkeep.OpenIds', WHERE WHAT IT READS IS OF BULK AT MOST 1048576: true; the input reads as it did. -/
def openIdsUptoRow : OpenClaim := { program := "ytmaiphnabebplaagreatdoor", sum := "cd0dd9ff5ce1bd8f82585e56f32fc891662168b24393095f28a7082229b7ddb7", func := "rostrum/rostrumkeep.OpenIds", spec := "openIds", inPlace := ["internal/bytealg.abigen_runtime_cmpstring", "slices.overlaps[rostrum/api.Pair]", "slices.overlaps[string]", "slices.overlaps[rostrum/api.Score]", "slices.overlaps[rostrum/api.Entry]"], unfollowed := true, recurses := true, named := ["rostrum/client.nothing"], apart := false, laid := [("rostrum/client.nothing", laid_rostrum_client_nothing)], narrowed := true }
def OpenIdsUptoSaid : Prop := openIdsUptoRow.holds Tryz.pinned (OpenSpec.upto openIdsSpec)

/-- 'rostrumkeep.GoneTold', WHERE WHAT IT READS IS OF BULK AT MOST 1048576: true; the input reads as it did. -/
def goneToldUptoRow : OpenClaim := { program := "ytmaiphnabebplaagreatdoor", sum := "cd0dd9ff5ce1bd8f82585e56f32fc891662168b24393095f28a7082229b7ddb7", func := "rostrum/rostrumkeep.GoneTold", spec := "goneTold", inPlace := ["internal/bytealg.abigen_runtime_cmpstring", "slices.overlaps[rostrum/api.Pair]", "slices.overlaps[string]", "slices.overlaps[rostrum/api.Score]", "slices.overlaps[rostrum/api.Entry]"], unfollowed := true, recurses := true, named := ["rostrum/client.nothing"], apart := false, laid := [("rostrum/client.nothing", laid_rostrum_client_nothing)], narrowed := true }
def GoneToldUptoSaid : Prop := goneToldUptoRow.holds Tryz.pinned (OpenSpec.upto goneToldSpec)

/-- 'rostrumkeep.OldGoes', WHERE WHAT IT READS IS OF BULK AT MOST 1048576: true; the input reads as it did. -/
def oldGoesUptoRow : OpenClaim := { program := "ytmaiphnabebplaagreatdoor", sum := "cd0dd9ff5ce1bd8f82585e56f32fc891662168b24393095f28a7082229b7ddb7", func := "rostrum/rostrumkeep.OldGoes", spec := "oldGoes", inPlace := ["internal/bytealg.abigen_runtime_cmpstring", "slices.overlaps[rostrum/api.Pair]", "slices.overlaps[string]", "slices.overlaps[rostrum/api.Score]", "slices.overlaps[rostrum/api.Entry]"], unfollowed := true, recurses := true, named := ["rostrum/client.nothing"], apart := false, laid := [("rostrum/client.nothing", laid_rostrum_client_nothing)], narrowed := true }
def OldGoesUptoSaid : Prop := oldGoesUptoRow.holds Tryz.pinned (OpenSpec.upto oldGoesSpec)

/-- 'rostrumkeep.OrderTold', WHERE WHAT IT READS IS OF BULK AT MOST 1048576: true; the input reads as it did. -/
def orderToldUptoRow : OpenClaim := { program := "ytmaiphnabebplaagreatdoor", sum := "cd0dd9ff5ce1bd8f82585e56f32fc891662168b24393095f28a7082229b7ddb7", func := "rostrum/rostrumkeep.OrderTold", spec := "orderTold", inPlace := ["internal/bytealg.abigen_runtime_cmpstring", "slices.overlaps[rostrum/api.Pair]", "slices.overlaps[string]", "slices.overlaps[rostrum/api.Score]", "slices.overlaps[rostrum/api.Entry]"], unfollowed := true, recurses := true, named := ["rostrum/client.nothing"], apart := false, laid := [("rostrum/client.nothing", laid_rostrum_client_nothing)], narrowed := true }
def OrderToldUptoSaid : Prop := orderToldUptoRow.holds Tryz.pinned (OpenSpec.upto orderToldSpec)

/-- 'rostrumkeep.ClientsApart', WHERE WHAT IT READS IS OF BULK AT MOST 1048576: true; the input reads as it did. -/
def clientsApartUptoRow : OpenClaim := { program := "ytmaiphnabebplaagreatdoor", sum := "cd0dd9ff5ce1bd8f82585e56f32fc891662168b24393095f28a7082229b7ddb7", func := "rostrum/rostrumkeep.ClientsApart", spec := "clientsApart", inPlace := ["internal/bytealg.abigen_runtime_cmpstring", "slices.overlaps[rostrum/api.Pair]", "slices.overlaps[string]", "slices.overlaps[rostrum/api.Score]", "slices.overlaps[rostrum/api.Entry]"], unfollowed := true, recurses := true, named := ["rostrum/client.nothing"], apart := false, laid := [("rostrum/client.nothing", laid_rostrum_client_nothing)], narrowed := true }
def ClientsApartUptoSaid : Prop := clientsApartUptoRow.holds Tryz.pinned (OpenSpec.upto clientsApartSpec)

/-- 'rostrumkeep.SeqRuns', WHERE WHAT IT READS IS OF BULK AT MOST 1048576: true; the input reads as it did. -/
def seqRunsUptoRow : OpenClaim := { program := "ytmaiphnabebplaagreatdoor", sum := "cd0dd9ff5ce1bd8f82585e56f32fc891662168b24393095f28a7082229b7ddb7", func := "rostrum/rostrumkeep.SeqRuns", spec := "seqRuns", inPlace := ["internal/bytealg.abigen_runtime_cmpstring", "slices.overlaps[rostrum/api.Pair]", "slices.overlaps[string]", "slices.overlaps[rostrum/api.Score]", "slices.overlaps[rostrum/api.Entry]"], unfollowed := true, recurses := true, named := ["rostrum/client.nothing"], apart := false, laid := [("rostrum/client.nothing", laid_rostrum_client_nothing)], narrowed := true }
def SeqRunsUptoSaid : Prop := seqRunsUptoRow.holds Tryz.pinned (OpenSpec.upto seqRunsSpec)

end Rows
end Go.Proofs.YtmaiphnabebplaaGreatDoor
