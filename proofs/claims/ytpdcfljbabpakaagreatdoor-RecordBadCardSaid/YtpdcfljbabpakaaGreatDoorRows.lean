/-
  NARROWER THAN 'FOR EVERY INPUT', by the rows' own cells (each row's printed sentence says how): SnapBad: laid · RestFits: laid · MachineBack: laid · MachineTorn: laid · TapeLong: laid · CrashJust: laid · FoldLoad: laid · TapeTorn: laid · TapeOn: laid · TapeKeeps: laid · SyncSafe: laid · RecordBad: laid.
  DERIVED. THE GIVEN ROWS OF THIS SEAT. 12 by the template 'for every input the law returns true; each argument reads behind the call as it read before'; 0 by the template 'total and deterministic' (their statements: YtpdcfljbabpakaaGreatDoorTotals.lean).
  GIVEN WITH THE SEED: the statements are not yours to turn. If you find one false, say at which input.
  Laid BY PROGRAM, IN A SANDBOX (cutbox-rows.mjs): the forced cells as the released guide's own fill.sh prints them over the translation edb9004c0d1bcff3… (all of the seat's roots in one cut). By AI agents, Wed Nov 11 2026. No macro, syntax, notation, axiom, sorry.
-/
import Derived.Test.YtpdcfljbabpakaaGreatDoorChecked
import GoSem.Claim
import GoSem.ClaimJoined
import GoSem.ClaimMapViews
import Derived.JoinedTies
import Derived.KernelRfl
namespace Go.Proofs.YtpdcfljbabpakaaGreatDoor
/- THE CELL 'sum', in the pinned program and in every row, IS THE sha256 OF THE DUMP (.gsa) THAT YtpdcfljbabpakaaGreatDoorProg.lean LOADS. Nothing in Lean hashes anything: it is a label: what it is worth is what the hold of that sum in a sandbox is worth. -/
noncomputable def Tryz.pinned : Pinned := { name := "ytpdcfljbabpakaagreatdoor", sum := "edb9004c0d1bcff3f8fe742deda36c66411361e5955d4290546f43505c1f468f", checked := Tryz.checked }
namespace Rows
def none {H : Type} : Left H := { results := [], args := [] }

/- WHAT THE LISTED PACKAGE-LEVEL VARIABLES READ AS WHEN THE CALL BEGINS. Each datum BY PROGRAM (the guide's laid-datum.mjs) off the statement by which the dump's own 'gosem.cut.vars' lays the variable. In a bare row this is a premise. The card (YtpdcfljbabpakaaGreatDoorCards.lean) ties it to the program's text. -/
def laid_rostrum_client_nothing {H : Type} : DataW H := .agg [.lit (.int .i64 22), .lit (.string []), .lit (.string []), .lit (.string []), .lit (.int .i64 0)]

/-- 'rostrumkeep.SnapBad': WHATEVER THE INPUT: true; the input reads as it did. -/
def snapBadSpec : ChangeSpec := { name := "snapBad", fn := fun _ => fun
  | [d1, d2] => { results := [.lit (.bool true)], args := [d1, d2] }
  | _ => none }
def snapBadRow : OpenClaim := { program := "ytpdcfljbabpakaagreatdoor", sum := "edb9004c0d1bcff3f8fe742deda36c66411361e5955d4290546f43505c1f468f", func := "rostrum/rostrumkeep.SnapBad", spec := "snapBad", inPlace := ["internal/bytealg.abigen_runtime_cmpstring", "slices.overlaps[rostrum/api.Pair]", "slices.overlaps[string]", "slices.overlaps[rostrum/api.Score]", "slices.overlaps[rostrum/api.Entry]"], unfollowed := true, recurses := true, named := ["rostrum/client.nothing"], apart := false, laid := [("rostrum/client.nothing", laid_rostrum_client_nothing)] }
def SnapBadSaid : Prop := snapBadRow.holds Tryz.pinned (OpenSpec.ofChange snapBadSpec)

/-- ITS FALSE NEIGHBOUR: 'it returns false'. Refute it at one input. -/
def snapBadWrong : ChangeSpec := { name := "snapBad", fn := fun _ => fun
  | [d1, d2] => { results := [.lit (.bool false)], args := [d1, d2] }
  | _ => none }
def SnapBadWrongFalsely : Prop := snapBadRow.holds Tryz.pinned (OpenSpec.ofChange snapBadWrong)

/-- 'rostrumkeep.RestFits': WHATEVER THE INPUT: true; the input reads as it did. -/
def restFitsSpec : ChangeSpec := { name := "restFits", fn := fun _ => fun
  | [d1, d2, d3, d4, d5] => { results := [.lit (.bool true)], args := [d1, d2, d3, d4, d5] }
  | _ => none }
def restFitsRow : OpenClaim := { program := "ytpdcfljbabpakaagreatdoor", sum := "edb9004c0d1bcff3f8fe742deda36c66411361e5955d4290546f43505c1f468f", func := "rostrum/rostrumkeep.RestFits", spec := "restFits", inPlace := ["internal/bytealg.abigen_runtime_cmpstring", "slices.overlaps[rostrum/api.Pair]", "slices.overlaps[string]", "slices.overlaps[rostrum/api.Score]", "slices.overlaps[rostrum/api.Entry]"], unfollowed := true, recurses := true, named := ["rostrum/client.nothing"], apart := false, laid := [("rostrum/client.nothing", laid_rostrum_client_nothing)] }
def RestFitsSaid : Prop := restFitsRow.holds Tryz.pinned (OpenSpec.ofChange restFitsSpec)

/-- ITS FALSE NEIGHBOUR: 'it returns false'. Refute it at one input. -/
def restFitsWrong : ChangeSpec := { name := "restFits", fn := fun _ => fun
  | [d1, d2, d3, d4, d5] => { results := [.lit (.bool false)], args := [d1, d2, d3, d4, d5] }
  | _ => none }
def RestFitsWrongFalsely : Prop := restFitsRow.holds Tryz.pinned (OpenSpec.ofChange restFitsWrong)

/-- 'rostrumkeep.MachineBack': WHATEVER THE INPUT: true; the input reads as it did. -/
def machineBackSpec : ChangeSpec := { name := "machineBack", fn := fun _ => fun
  | [d1, d2] => { results := [.lit (.bool true)], args := [d1, d2] }
  | _ => none }
def machineBackRow : OpenClaim := { program := "ytpdcfljbabpakaagreatdoor", sum := "edb9004c0d1bcff3f8fe742deda36c66411361e5955d4290546f43505c1f468f", func := "rostrum/rostrumkeep.MachineBack", spec := "machineBack", inPlace := ["internal/bytealg.abigen_runtime_cmpstring", "slices.overlaps[rostrum/api.Pair]", "slices.overlaps[string]", "slices.overlaps[rostrum/api.Score]", "slices.overlaps[rostrum/api.Entry]"], unfollowed := true, recurses := true, named := ["rostrum/client.nothing"], apart := false, laid := [("rostrum/client.nothing", laid_rostrum_client_nothing)] }
def MachineBackSaid : Prop := machineBackRow.holds Tryz.pinned (OpenSpec.ofChange machineBackSpec)

/-- ITS FALSE NEIGHBOUR: 'it returns false'. Refute it at one input. -/
def machineBackWrong : ChangeSpec := { name := "machineBack", fn := fun _ => fun
  | [d1, d2] => { results := [.lit (.bool false)], args := [d1, d2] }
  | _ => none }
def MachineBackWrongFalsely : Prop := machineBackRow.holds Tryz.pinned (OpenSpec.ofChange machineBackWrong)

/-- 'rostrumkeep.MachineTorn': WHATEVER THE INPUT: true; the input reads as it did. -/
def machineTornSpec : ChangeSpec := { name := "machineTorn", fn := fun _ => fun
  | [d1, d2] => { results := [.lit (.bool true)], args := [d1, d2] }
  | _ => none }
def machineTornRow : OpenClaim := { program := "ytpdcfljbabpakaagreatdoor", sum := "edb9004c0d1bcff3f8fe742deda36c66411361e5955d4290546f43505c1f468f", func := "rostrum/rostrumkeep.MachineTorn", spec := "machineTorn", inPlace := ["internal/bytealg.abigen_runtime_cmpstring", "slices.overlaps[rostrum/api.Pair]", "slices.overlaps[string]", "slices.overlaps[rostrum/api.Score]", "slices.overlaps[rostrum/api.Entry]"], unfollowed := true, recurses := true, named := ["rostrum/client.nothing"], apart := false, laid := [("rostrum/client.nothing", laid_rostrum_client_nothing)] }
def MachineTornSaid : Prop := machineTornRow.holds Tryz.pinned (OpenSpec.ofChange machineTornSpec)

/-- ITS FALSE NEIGHBOUR: 'it returns false'. Refute it at one input. -/
def machineTornWrong : ChangeSpec := { name := "machineTorn", fn := fun _ => fun
  | [d1, d2] => { results := [.lit (.bool false)], args := [d1, d2] }
  | _ => none }
def MachineTornWrongFalsely : Prop := machineTornRow.holds Tryz.pinned (OpenSpec.ofChange machineTornWrong)

/-- 'rostrumkeep.TapeLong': WHATEVER THE INPUT: true; the input reads as it did. -/
def tapeLongSpec : ChangeSpec := { name := "tapeLong", fn := fun _ => fun
  | [d] => { results := [.lit (.bool true)], args := [d] }
  | _ => none }
def tapeLongRow : OpenClaim := { program := "ytpdcfljbabpakaagreatdoor", sum := "edb9004c0d1bcff3f8fe742deda36c66411361e5955d4290546f43505c1f468f", func := "rostrum/rostrumkeep.TapeLong", spec := "tapeLong", inPlace := ["internal/bytealg.abigen_runtime_cmpstring", "slices.overlaps[rostrum/api.Pair]", "slices.overlaps[string]", "slices.overlaps[rostrum/api.Score]", "slices.overlaps[rostrum/api.Entry]"], unfollowed := true, recurses := true, named := ["rostrum/client.nothing"], apart := false, laid := [("rostrum/client.nothing", laid_rostrum_client_nothing)] }
def TapeLongSaid : Prop := tapeLongRow.holds Tryz.pinned (OpenSpec.ofChange tapeLongSpec)

/-- ITS FALSE NEIGHBOUR: 'it returns false'. Refute it at one input. -/
def tapeLongWrong : ChangeSpec := { name := "tapeLong", fn := fun _ => fun
  | [d] => { results := [.lit (.bool false)], args := [d] }
  | _ => none }
def TapeLongWrongFalsely : Prop := tapeLongRow.holds Tryz.pinned (OpenSpec.ofChange tapeLongWrong)

/-- 'rostrumkeep.CrashJust': WHATEVER THE INPUT: true; the input reads as it did. -/
def crashJustSpec : ChangeSpec := { name := "crashJust", fn := fun _ => fun
  | [d1, d2, d3] => { results := [.lit (.bool true)], args := [d1, d2, d3] }
  | _ => none }
def crashJustRow : OpenClaim := { program := "ytpdcfljbabpakaagreatdoor", sum := "edb9004c0d1bcff3f8fe742deda36c66411361e5955d4290546f43505c1f468f", func := "rostrum/rostrumkeep.CrashJust", spec := "crashJust", inPlace := ["internal/bytealg.abigen_runtime_cmpstring", "slices.overlaps[rostrum/api.Pair]", "slices.overlaps[string]", "slices.overlaps[rostrum/api.Score]", "slices.overlaps[rostrum/api.Entry]"], unfollowed := true, recurses := true, named := ["rostrum/client.nothing"], apart := false, laid := [("rostrum/client.nothing", laid_rostrum_client_nothing)] }
def CrashJustSaid : Prop := crashJustRow.holds Tryz.pinned (OpenSpec.ofChange crashJustSpec)

/-- ITS FALSE NEIGHBOUR: 'it returns false'. Refute it at one input. -/
def crashJustWrong : ChangeSpec := { name := "crashJust", fn := fun _ => fun
  | [d1, d2, d3] => { results := [.lit (.bool false)], args := [d1, d2, d3] }
  | _ => none }
def CrashJustWrongFalsely : Prop := crashJustRow.holds Tryz.pinned (OpenSpec.ofChange crashJustWrong)

/-- 'rostrumkeep.FoldLoad': WHATEVER THE INPUT: true; the input reads as it did. -/
def foldLoadSpec : ChangeSpec := { name := "foldLoad", fn := fun _ => fun
  | [d1, d2, d3, d4] => { results := [.lit (.bool true)], args := [d1, d2, d3, d4] }
  | _ => none }
def foldLoadRow : OpenClaim := { program := "ytpdcfljbabpakaagreatdoor", sum := "edb9004c0d1bcff3f8fe742deda36c66411361e5955d4290546f43505c1f468f", func := "rostrum/rostrumkeep.FoldLoad", spec := "foldLoad", inPlace := ["internal/bytealg.abigen_runtime_cmpstring", "slices.overlaps[rostrum/api.Pair]", "slices.overlaps[string]", "slices.overlaps[rostrum/api.Score]", "slices.overlaps[rostrum/api.Entry]"], unfollowed := true, recurses := true, named := ["rostrum/client.nothing"], apart := false, laid := [("rostrum/client.nothing", laid_rostrum_client_nothing)] }
def FoldLoadSaid : Prop := foldLoadRow.holds Tryz.pinned (OpenSpec.ofChange foldLoadSpec)

/-- ITS FALSE NEIGHBOUR: 'it returns false'. Refute it at one input. -/
def foldLoadWrong : ChangeSpec := { name := "foldLoad", fn := fun _ => fun
  | [d1, d2, d3, d4] => { results := [.lit (.bool false)], args := [d1, d2, d3, d4] }
  | _ => none }
def FoldLoadWrongFalsely : Prop := foldLoadRow.holds Tryz.pinned (OpenSpec.ofChange foldLoadWrong)

/-- 'rostrumkeep.TapeTorn': WHATEVER THE INPUT: true; the input reads as it did. -/
def tapeTornSpec : ChangeSpec := { name := "tapeTorn", fn := fun _ => fun
  | [d1, d2] => { results := [.lit (.bool true)], args := [d1, d2] }
  | _ => none }
def tapeTornRow : OpenClaim := { program := "ytpdcfljbabpakaagreatdoor", sum := "edb9004c0d1bcff3f8fe742deda36c66411361e5955d4290546f43505c1f468f", func := "rostrum/rostrumkeep.TapeTorn", spec := "tapeTorn", inPlace := ["internal/bytealg.abigen_runtime_cmpstring", "slices.overlaps[rostrum/api.Pair]", "slices.overlaps[string]", "slices.overlaps[rostrum/api.Score]", "slices.overlaps[rostrum/api.Entry]"], unfollowed := true, recurses := true, named := ["rostrum/client.nothing"], apart := false, laid := [("rostrum/client.nothing", laid_rostrum_client_nothing)] }
def TapeTornSaid : Prop := tapeTornRow.holds Tryz.pinned (OpenSpec.ofChange tapeTornSpec)

/-- ITS FALSE NEIGHBOUR: 'it returns false'. Refute it at one input. -/
def tapeTornWrong : ChangeSpec := { name := "tapeTorn", fn := fun _ => fun
  | [d1, d2] => { results := [.lit (.bool false)], args := [d1, d2] }
  | _ => none }
def TapeTornWrongFalsely : Prop := tapeTornRow.holds Tryz.pinned (OpenSpec.ofChange tapeTornWrong)

/-- 'rostrumkeep.TapeOn': WHATEVER THE INPUT: true; the input reads as it did. -/
def tapeOnSpec : ChangeSpec := { name := "tapeOn", fn := fun _ => fun
  | [d1, d2, d3] => { results := [.lit (.bool true)], args := [d1, d2, d3] }
  | _ => none }
def tapeOnRow : OpenClaim := { program := "ytpdcfljbabpakaagreatdoor", sum := "edb9004c0d1bcff3f8fe742deda36c66411361e5955d4290546f43505c1f468f", func := "rostrum/rostrumkeep.TapeOn", spec := "tapeOn", inPlace := ["internal/bytealg.abigen_runtime_cmpstring", "slices.overlaps[rostrum/api.Pair]", "slices.overlaps[string]", "slices.overlaps[rostrum/api.Score]", "slices.overlaps[rostrum/api.Entry]"], unfollowed := true, recurses := true, named := ["rostrum/client.nothing"], apart := false, laid := [("rostrum/client.nothing", laid_rostrum_client_nothing)] }
def TapeOnSaid : Prop := tapeOnRow.holds Tryz.pinned (OpenSpec.ofChange tapeOnSpec)

/-- ITS FALSE NEIGHBOUR: 'it returns false'. Refute it at one input. -/
def tapeOnWrong : ChangeSpec := { name := "tapeOn", fn := fun _ => fun
  | [d1, d2, d3] => { results := [.lit (.bool false)], args := [d1, d2, d3] }
  | _ => none }
def TapeOnWrongFalsely : Prop := tapeOnRow.holds Tryz.pinned (OpenSpec.ofChange tapeOnWrong)

/-- 'rostrumkeep.TapeKeeps': WHATEVER THE INPUT: true; the input reads as it did. -/
def tapeKeepsSpec : ChangeSpec := { name := "tapeKeeps", fn := fun _ => fun
  | [d1, d2, d3] => { results := [.lit (.bool true)], args := [d1, d2, d3] }
  | _ => none }
def tapeKeepsRow : OpenClaim := { program := "ytpdcfljbabpakaagreatdoor", sum := "edb9004c0d1bcff3f8fe742deda36c66411361e5955d4290546f43505c1f468f", func := "rostrum/rostrumkeep.TapeKeeps", spec := "tapeKeeps", inPlace := ["internal/bytealg.abigen_runtime_cmpstring", "slices.overlaps[rostrum/api.Pair]", "slices.overlaps[string]", "slices.overlaps[rostrum/api.Score]", "slices.overlaps[rostrum/api.Entry]"], unfollowed := true, recurses := true, named := ["rostrum/client.nothing"], apart := false, laid := [("rostrum/client.nothing", laid_rostrum_client_nothing)] }
def TapeKeepsSaid : Prop := tapeKeepsRow.holds Tryz.pinned (OpenSpec.ofChange tapeKeepsSpec)

/-- ITS FALSE NEIGHBOUR: 'it returns false'. Refute it at one input. -/
def tapeKeepsWrong : ChangeSpec := { name := "tapeKeeps", fn := fun _ => fun
  | [d1, d2, d3] => { results := [.lit (.bool false)], args := [d1, d2, d3] }
  | _ => none }
def TapeKeepsWrongFalsely : Prop := tapeKeepsRow.holds Tryz.pinned (OpenSpec.ofChange tapeKeepsWrong)

/-- 'rostrumkeep.SyncSafe': WHATEVER THE INPUT: true; the input reads as it did. -/
def syncSafeSpec : ChangeSpec := { name := "syncSafe", fn := fun _ => fun
  | [d1, d2] => { results := [.lit (.bool true)], args := [d1, d2] }
  | _ => none }
def syncSafeRow : OpenClaim := { program := "ytpdcfljbabpakaagreatdoor", sum := "edb9004c0d1bcff3f8fe742deda36c66411361e5955d4290546f43505c1f468f", func := "rostrum/rostrumkeep.SyncSafe", spec := "syncSafe", inPlace := ["internal/bytealg.abigen_runtime_cmpstring", "slices.overlaps[rostrum/api.Pair]", "slices.overlaps[string]", "slices.overlaps[rostrum/api.Score]", "slices.overlaps[rostrum/api.Entry]"], unfollowed := true, recurses := true, named := ["rostrum/client.nothing"], apart := false, laid := [("rostrum/client.nothing", laid_rostrum_client_nothing)] }
def SyncSafeSaid : Prop := syncSafeRow.holds Tryz.pinned (OpenSpec.ofChange syncSafeSpec)

/-- ITS FALSE NEIGHBOUR: 'it returns false'. Refute it at one input. -/
def syncSafeWrong : ChangeSpec := { name := "syncSafe", fn := fun _ => fun
  | [d1, d2] => { results := [.lit (.bool false)], args := [d1, d2] }
  | _ => none }
def SyncSafeWrongFalsely : Prop := syncSafeRow.holds Tryz.pinned (OpenSpec.ofChange syncSafeWrong)

/-- 'rostrumkeep.RecordBad': WHATEVER THE INPUT: true; the input reads as it did. -/
def recordBadSpec : ChangeSpec := { name := "recordBad", fn := fun _ => fun
  | [d1, d2] => { results := [.lit (.bool true)], args := [d1, d2] }
  | _ => none }
def recordBadRow : OpenClaim := { program := "ytpdcfljbabpakaagreatdoor", sum := "edb9004c0d1bcff3f8fe742deda36c66411361e5955d4290546f43505c1f468f", func := "rostrum/rostrumkeep.RecordBad", spec := "recordBad", inPlace := ["internal/bytealg.abigen_runtime_cmpstring", "slices.overlaps[rostrum/api.Pair]", "slices.overlaps[string]", "slices.overlaps[rostrum/api.Score]", "slices.overlaps[rostrum/api.Entry]"], unfollowed := true, recurses := true, named := ["rostrum/client.nothing"], apart := false, laid := [("rostrum/client.nothing", laid_rostrum_client_nothing)] }
def RecordBadSaid : Prop := recordBadRow.holds Tryz.pinned (OpenSpec.ofChange recordBadSpec)

/-- ITS FALSE NEIGHBOUR: 'it returns false'. Refute it at one input. -/
def recordBadWrong : ChangeSpec := { name := "recordBad", fn := fun _ => fun
  | [d1, d2] => { results := [.lit (.bool false)], args := [d1, d2] }
  | _ => none }
def RecordBadWrongFalsely : Prop := recordBadRow.holds Tryz.pinned (OpenSpec.ofChange recordBadWrong)

/- THE SECOND FORM. 'bulk': how many values and letters a reading holds, each counted each time it is reached (what is shared counts as often as it is met; a slice's spare places count too). A statement '..UptoSaid' is the law's where the arguments, and the package variables that the reading takes, are together of bulk at most 1048576: NARROWER than '..Said'. Prove '..Said' where nothing that the law and all that it calls make is longer than what came in: it says more and counts as full. Else prove '..UptoSaid'. A law counts once. -/
mutual
def uptoBulk {H : Type} : DataW H → Nat
  | .lit (.string bytes) => bytes.length + 1
  | .lit _ => 1
  | .nil => 1
  | .ptr d => uptoBulk d + 1
  | .slice elems spare => uptoBulkAll elems + uptoBulkAll spare + 1
  | .agg parts => uptoBulkAll parts + 1
  | .iface _ d => uptoBulk d + 1
  | .map entries => uptoBulkEntries entries + 1
  | .held _ => 1
def uptoBulkAll {H : Type} : List (DataW H) → Nat
  | [] => 0
  | d :: r => uptoBulk d + uptoBulkAll r
def uptoBulkEntries {H : Type} : List (Lit × DataW H) → Nat
  | [] => 0
  | x :: r => uptoBulkEntry x + uptoBulkEntries r
def uptoBulkEntry {H : Type} : Lit × DataW H → Nat
  | (.string bytes, d) => bytes.length + uptoBulk d + 1
  | (_, d) => uptoBulk d + 1
 end
def uptoSmall : (H : Type) → List (DataW H) → Bool := fun _ ds => decide (uptoBulkAll ds ≤ 1048576)
def OpenSpec.upto (s : _root_.Go.ChangeSpec) : _root_.Go.OpenSpec := { _root_.Go.OpenSpec.ofChange s with cond := some uptoSmall }

/-- 'rostrumkeep.SnapBad', WHERE WHAT IT READS IS OF BULK AT MOST 1048576: true; the input reads as it did. -/
def snapBadUptoRow : OpenClaim := { program := "ytpdcfljbabpakaagreatdoor", sum := "edb9004c0d1bcff3f8fe742deda36c66411361e5955d4290546f43505c1f468f", func := "rostrum/rostrumkeep.SnapBad", spec := "snapBad", inPlace := ["internal/bytealg.abigen_runtime_cmpstring", "slices.overlaps[rostrum/api.Pair]", "slices.overlaps[string]", "slices.overlaps[rostrum/api.Score]", "slices.overlaps[rostrum/api.Entry]"], unfollowed := true, recurses := true, named := ["rostrum/client.nothing"], apart := false, laid := [("rostrum/client.nothing", laid_rostrum_client_nothing)], narrowed := true }
def SnapBadUptoSaid : Prop := snapBadUptoRow.holds Tryz.pinned (OpenSpec.upto snapBadSpec)

/-- 'rostrumkeep.RestFits', WHERE WHAT IT READS IS OF BULK AT MOST 1048576: true; the input reads as it did. -/
def restFitsUptoRow : OpenClaim := { program := "ytpdcfljbabpakaagreatdoor", sum := "edb9004c0d1bcff3f8fe742deda36c66411361e5955d4290546f43505c1f468f", func := "rostrum/rostrumkeep.RestFits", spec := "restFits", inPlace := ["internal/bytealg.abigen_runtime_cmpstring", "slices.overlaps[rostrum/api.Pair]", "slices.overlaps[string]", "slices.overlaps[rostrum/api.Score]", "slices.overlaps[rostrum/api.Entry]"], unfollowed := true, recurses := true, named := ["rostrum/client.nothing"], apart := false, laid := [("rostrum/client.nothing", laid_rostrum_client_nothing)], narrowed := true }
def RestFitsUptoSaid : Prop := restFitsUptoRow.holds Tryz.pinned (OpenSpec.upto restFitsSpec)

/-- 'rostrumkeep.MachineBack', WHERE WHAT IT READS IS OF BULK AT MOST 1048576: true; the input reads as it did. -/
def machineBackUptoRow : OpenClaim := { program := "ytpdcfljbabpakaagreatdoor", sum := "edb9004c0d1bcff3f8fe742deda36c66411361e5955d4290546f43505c1f468f", func := "rostrum/rostrumkeep.MachineBack", spec := "machineBack", inPlace := ["internal/bytealg.abigen_runtime_cmpstring", "slices.overlaps[rostrum/api.Pair]", "slices.overlaps[string]", "slices.overlaps[rostrum/api.Score]", "slices.overlaps[rostrum/api.Entry]"], unfollowed := true, recurses := true, named := ["rostrum/client.nothing"], apart := false, laid := [("rostrum/client.nothing", laid_rostrum_client_nothing)], narrowed := true }
def MachineBackUptoSaid : Prop := machineBackUptoRow.holds Tryz.pinned (OpenSpec.upto machineBackSpec)

/-- 'rostrumkeep.MachineTorn', WHERE WHAT IT READS IS OF BULK AT MOST 1048576: true; the input reads as it did. -/
def machineTornUptoRow : OpenClaim := { program := "ytpdcfljbabpakaagreatdoor", sum := "edb9004c0d1bcff3f8fe742deda36c66411361e5955d4290546f43505c1f468f", func := "rostrum/rostrumkeep.MachineTorn", spec := "machineTorn", inPlace := ["internal/bytealg.abigen_runtime_cmpstring", "slices.overlaps[rostrum/api.Pair]", "slices.overlaps[string]", "slices.overlaps[rostrum/api.Score]", "slices.overlaps[rostrum/api.Entry]"], unfollowed := true, recurses := true, named := ["rostrum/client.nothing"], apart := false, laid := [("rostrum/client.nothing", laid_rostrum_client_nothing)], narrowed := true }
def MachineTornUptoSaid : Prop := machineTornUptoRow.holds Tryz.pinned (OpenSpec.upto machineTornSpec)

/-- 'rostrumkeep.TapeLong', WHERE WHAT IT READS IS OF BULK AT MOST 1048576: true; the input reads as it did. -/
def tapeLongUptoRow : OpenClaim := { program := "ytpdcfljbabpakaagreatdoor", sum := "edb9004c0d1bcff3f8fe742deda36c66411361e5955d4290546f43505c1f468f", func := "rostrum/rostrumkeep.TapeLong", spec := "tapeLong", inPlace := ["internal/bytealg.abigen_runtime_cmpstring", "slices.overlaps[rostrum/api.Pair]", "slices.overlaps[string]", "slices.overlaps[rostrum/api.Score]", "slices.overlaps[rostrum/api.Entry]"], unfollowed := true, recurses := true, named := ["rostrum/client.nothing"], apart := false, laid := [("rostrum/client.nothing", laid_rostrum_client_nothing)], narrowed := true }
def TapeLongUptoSaid : Prop := tapeLongUptoRow.holds Tryz.pinned (OpenSpec.upto tapeLongSpec)

/-- 'rostrumkeep.CrashJust', WHERE WHAT IT READS IS OF BULK AT MOST 1048576: true; the input reads as it did. -/
def crashJustUptoRow : OpenClaim := { program := "ytpdcfljbabpakaagreatdoor", sum := "edb9004c0d1bcff3f8fe742deda36c66411361e5955d4290546f43505c1f468f", func := "rostrum/rostrumkeep.CrashJust", spec := "crashJust", inPlace := ["internal/bytealg.abigen_runtime_cmpstring", "slices.overlaps[rostrum/api.Pair]", "slices.overlaps[string]", "slices.overlaps[rostrum/api.Score]", "slices.overlaps[rostrum/api.Entry]"], unfollowed := true, recurses := true, named := ["rostrum/client.nothing"], apart := false, laid := [("rostrum/client.nothing", laid_rostrum_client_nothing)], narrowed := true }
def CrashJustUptoSaid : Prop := crashJustUptoRow.holds Tryz.pinned (OpenSpec.upto crashJustSpec)

/-- 'rostrumkeep.FoldLoad', WHERE WHAT IT READS IS OF BULK AT MOST 1048576: true; the input reads as it did. -/
def foldLoadUptoRow : OpenClaim := { program := "ytpdcfljbabpakaagreatdoor", sum := "edb9004c0d1bcff3f8fe742deda36c66411361e5955d4290546f43505c1f468f", func := "rostrum/rostrumkeep.FoldLoad", spec := "foldLoad", inPlace := ["internal/bytealg.abigen_runtime_cmpstring", "slices.overlaps[rostrum/api.Pair]", "slices.overlaps[string]", "slices.overlaps[rostrum/api.Score]", "slices.overlaps[rostrum/api.Entry]"], unfollowed := true, recurses := true, named := ["rostrum/client.nothing"], apart := false, laid := [("rostrum/client.nothing", laid_rostrum_client_nothing)], narrowed := true }
def FoldLoadUptoSaid : Prop := foldLoadUptoRow.holds Tryz.pinned (OpenSpec.upto foldLoadSpec)

/-- 'rostrumkeep.TapeTorn', WHERE WHAT IT READS IS OF BULK AT MOST 1048576: true; the input reads as it did. -/
def tapeTornUptoRow : OpenClaim := { program := "ytpdcfljbabpakaagreatdoor", sum := "edb9004c0d1bcff3f8fe742deda36c66411361e5955d4290546f43505c1f468f", func := "rostrum/rostrumkeep.TapeTorn", spec := "tapeTorn", inPlace := ["internal/bytealg.abigen_runtime_cmpstring", "slices.overlaps[rostrum/api.Pair]", "slices.overlaps[string]", "slices.overlaps[rostrum/api.Score]", "slices.overlaps[rostrum/api.Entry]"], unfollowed := true, recurses := true, named := ["rostrum/client.nothing"], apart := false, laid := [("rostrum/client.nothing", laid_rostrum_client_nothing)], narrowed := true }
def TapeTornUptoSaid : Prop := tapeTornUptoRow.holds Tryz.pinned (OpenSpec.upto tapeTornSpec)

/-- 'rostrumkeep.TapeOn', WHERE WHAT IT READS IS OF BULK AT MOST 1048576: true; the input reads as it did. -/
def tapeOnUptoRow : OpenClaim := { program := "ytpdcfljbabpakaagreatdoor", sum := "edb9004c0d1bcff3f8fe742deda36c66411361e5955d4290546f43505c1f468f", func := "rostrum/rostrumkeep.TapeOn", spec := "tapeOn", inPlace := ["internal/bytealg.abigen_runtime_cmpstring", "slices.overlaps[rostrum/api.Pair]", "slices.overlaps[string]", "slices.overlaps[rostrum/api.Score]", "slices.overlaps[rostrum/api.Entry]"], unfollowed := true, recurses := true, named := ["rostrum/client.nothing"], apart := false, laid := [("rostrum/client.nothing", laid_rostrum_client_nothing)], narrowed := true }
def TapeOnUptoSaid : Prop := tapeOnUptoRow.holds Tryz.pinned (OpenSpec.upto tapeOnSpec)

/-- 'rostrumkeep.TapeKeeps', WHERE WHAT IT READS IS OF BULK AT MOST 1048576: true; the input reads as it did. -/
def tapeKeepsUptoRow : OpenClaim := { program := "ytpdcfljbabpakaagreatdoor", sum := "edb9004c0d1bcff3f8fe742deda36c66411361e5955d4290546f43505c1f468f", func := "rostrum/rostrumkeep.TapeKeeps", spec := "tapeKeeps", inPlace := ["internal/bytealg.abigen_runtime_cmpstring", "slices.overlaps[rostrum/api.Pair]", "slices.overlaps[string]", "slices.overlaps[rostrum/api.Score]", "slices.overlaps[rostrum/api.Entry]"], unfollowed := true, recurses := true, named := ["rostrum/client.nothing"], apart := false, laid := [("rostrum/client.nothing", laid_rostrum_client_nothing)], narrowed := true }
def TapeKeepsUptoSaid : Prop := tapeKeepsUptoRow.holds Tryz.pinned (OpenSpec.upto tapeKeepsSpec)

/-- 'rostrumkeep.SyncSafe', WHERE WHAT IT READS IS OF BULK AT MOST 1048576: true; the input reads as it did. -/
def syncSafeUptoRow : OpenClaim := { program := "ytpdcfljbabpakaagreatdoor", sum := "edb9004c0d1bcff3f8fe742deda36c66411361e5955d4290546f43505c1f468f", func := "rostrum/rostrumkeep.SyncSafe", spec := "syncSafe", inPlace := ["internal/bytealg.abigen_runtime_cmpstring", "slices.overlaps[rostrum/api.Pair]", "slices.overlaps[string]", "slices.overlaps[rostrum/api.Score]", "slices.overlaps[rostrum/api.Entry]"], unfollowed := true, recurses := true, named := ["rostrum/client.nothing"], apart := false, laid := [("rostrum/client.nothing", laid_rostrum_client_nothing)], narrowed := true }
def SyncSafeUptoSaid : Prop := syncSafeUptoRow.holds Tryz.pinned (OpenSpec.upto syncSafeSpec)

/-- 'rostrumkeep.RecordBad', WHERE WHAT IT READS IS OF BULK AT MOST 1048576: true; the input reads as it did. -/
def recordBadUptoRow : OpenClaim := { program := "ytpdcfljbabpakaagreatdoor", sum := "edb9004c0d1bcff3f8fe742deda36c66411361e5955d4290546f43505c1f468f", func := "rostrum/rostrumkeep.RecordBad", spec := "recordBad", inPlace := ["internal/bytealg.abigen_runtime_cmpstring", "slices.overlaps[rostrum/api.Pair]", "slices.overlaps[string]", "slices.overlaps[rostrum/api.Score]", "slices.overlaps[rostrum/api.Entry]"], unfollowed := true, recurses := true, named := ["rostrum/client.nothing"], apart := false, laid := [("rostrum/client.nothing", laid_rostrum_client_nothing)], narrowed := true }
def RecordBadUptoSaid : Prop := recordBadUptoRow.holds Tryz.pinned (OpenSpec.upto recordBadSpec)

end Rows
end Go.Proofs.YtpdcfljbabpakaaGreatDoor
