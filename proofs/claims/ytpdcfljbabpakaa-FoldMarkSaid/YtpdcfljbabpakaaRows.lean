/-
  No cell of these rows narrows 'for every input' (looked for: loops, veiled, ifaces, maps, wideKeys, modest, calm, conditions, laid).
  DERIVED. THE GIVEN ROWS OF THIS SEAT. 4 by the template 'for every input the law returns true; each argument reads behind the call as it read before'; 0 by the template 'total and deterministic' (their statements: YtpdcfljbabpakaaTotals.lean).
  GIVEN WITH THE SEED: the statements are not yours to turn. If you find one false, say at which input.
  Laid BY PROGRAM, IN A SANDBOX (cutbox-rows.mjs): the forced cells as the released guide's own fill.sh prints them over the translation 06ecc7b9b01898b9… (all of the seat's roots in one cut). By AI agents, Wed Nov 11 2026. No macro, syntax, notation, axiom, sorry.
-/
import Derived.Test.YtpdcfljbabpakaaChecked
import GoSem.Claim
import GoSem.ClaimJoined
import GoSem.ClaimMapViews
import Derived.JoinedTies
import Derived.KernelRfl
namespace Go.Proofs.Ytpdcfljbabpakaa
/- THE CELL 'sum', in the pinned program and in every row, IS THE sha256 OF THE DUMP (.gsa) THAT YtpdcfljbabpakaaProg.lean LOADS. Nothing in Lean hashes anything: it is a label: what it is worth is what the hold of that sum in a sandbox is worth. -/
noncomputable def Try.pinned : Pinned := { name := "ytpdcfljbabpakaa", sum := "06ecc7b9b01898b9fdc3a14083f0c1eb10aeaa550c2962e17477dafee7d9a8c4", checked := Try.checked }
namespace Rows
def none {H : Type} : Left H := { results := [], args := [] }

/-- 'rostrumkeep.MachineFixed': WHATEVER THE INPUT: true; the input reads as it did. -/
def machineFixedSpec : ChangeSpec := { name := "machineFixed", fn := fun _ => fun
  | [d] => { results := [.lit (.bool true)], args := [d] }
  | _ => none }
def machineFixedRow : OpenClaim := { program := "ytpdcfljbabpakaa", sum := "06ecc7b9b01898b9fdc3a14083f0c1eb10aeaa550c2962e17477dafee7d9a8c4", func := "rostrum/rostrumkeep.MachineFixed", spec := "machineFixed", inPlace := ["internal/bytealg.abigen_runtime_cmpstring"], unfollowed := true, recurses := true, apart := false }
def MachineFixedSaid : Prop := machineFixedRow.holds Try.pinned (OpenSpec.ofChange machineFixedSpec)

/-- ITS FALSE NEIGHBOUR: 'it returns false'. Refute it at one input. -/
def machineFixedWrong : ChangeSpec := { name := "machineFixed", fn := fun _ => fun
  | [d] => { results := [.lit (.bool false)], args := [d] }
  | _ => none }
def MachineFixedWrongFalsely : Prop := machineFixedRow.holds Try.pinned (OpenSpec.ofChange machineFixedWrong)

/-- 'rostrumkeep.FoldLines': WHATEVER THE INPUT: true; the input reads as it did. -/
def foldLinesSpec : ChangeSpec := { name := "foldLines", fn := fun _ => fun
  | [d] => { results := [.lit (.bool true)], args := [d] }
  | _ => none }
def foldLinesRow : OpenClaim := { program := "ytpdcfljbabpakaa", sum := "06ecc7b9b01898b9fdc3a14083f0c1eb10aeaa550c2962e17477dafee7d9a8c4", func := "rostrum/rostrumkeep.FoldLines", spec := "foldLines", inPlace := ["internal/bytealg.abigen_runtime_cmpstring"], unfollowed := true, recurses := true, apart := false }
def FoldLinesSaid : Prop := foldLinesRow.holds Try.pinned (OpenSpec.ofChange foldLinesSpec)

/-- ITS FALSE NEIGHBOUR: 'it returns false'. Refute it at one input. -/
def foldLinesWrong : ChangeSpec := { name := "foldLines", fn := fun _ => fun
  | [d] => { results := [.lit (.bool false)], args := [d] }
  | _ => none }
def FoldLinesWrongFalsely : Prop := foldLinesRow.holds Try.pinned (OpenSpec.ofChange foldLinesWrong)

/-- 'rostrumkeep.FoldCuts': WHATEVER THE INPUT: true; the input reads as it did. -/
def foldCutsSpec : ChangeSpec := { name := "foldCuts", fn := fun _ => fun
  | [d1, d2] => { results := [.lit (.bool true)], args := [d1, d2] }
  | _ => none }
def foldCutsRow : OpenClaim := { program := "ytpdcfljbabpakaa", sum := "06ecc7b9b01898b9fdc3a14083f0c1eb10aeaa550c2962e17477dafee7d9a8c4", func := "rostrum/rostrumkeep.FoldCuts", spec := "foldCuts", inPlace := ["internal/bytealg.abigen_runtime_cmpstring"], unfollowed := true, recurses := true, apart := false }
def FoldCutsSaid : Prop := foldCutsRow.holds Try.pinned (OpenSpec.ofChange foldCutsSpec)

/-- ITS FALSE NEIGHBOUR: 'it returns false'. Refute it at one input. -/
def foldCutsWrong : ChangeSpec := { name := "foldCuts", fn := fun _ => fun
  | [d1, d2] => { results := [.lit (.bool false)], args := [d1, d2] }
  | _ => none }
def FoldCutsWrongFalsely : Prop := foldCutsRow.holds Try.pinned (OpenSpec.ofChange foldCutsWrong)

/-- 'rostrumkeep.FoldMark': WHATEVER THE INPUT: true; the input reads as it did. -/
def foldMarkSpec : ChangeSpec := { name := "foldMark", fn := fun _ => fun
  | [d] => { results := [.lit (.bool true)], args := [d] }
  | _ => none }
def foldMarkRow : OpenClaim := { program := "ytpdcfljbabpakaa", sum := "06ecc7b9b01898b9fdc3a14083f0c1eb10aeaa550c2962e17477dafee7d9a8c4", func := "rostrum/rostrumkeep.FoldMark", spec := "foldMark", inPlace := ["internal/bytealg.abigen_runtime_cmpstring"], unfollowed := true, recurses := true, apart := false }
def FoldMarkSaid : Prop := foldMarkRow.holds Try.pinned (OpenSpec.ofChange foldMarkSpec)

/-- ITS FALSE NEIGHBOUR: 'it returns false'. Refute it at one input. -/
def foldMarkWrong : ChangeSpec := { name := "foldMark", fn := fun _ => fun
  | [d] => { results := [.lit (.bool false)], args := [d] }
  | _ => none }
def FoldMarkWrongFalsely : Prop := foldMarkRow.holds Try.pinned (OpenSpec.ofChange foldMarkWrong)

/- THE SECOND FORM. 'bulk': how many values and letters a reading holds, each counted each time it is reached (what is shared counts as often as it is met; a slice's spare places count too). A statement '..UptoSaid' is the law's where the arguments, and the package variables that the reading takes, are together of bulk at most 1048576: NARROWER than '..Said'. Prove '..Said' where nothing that the law and all that it calls make is longer than what came in: it says more and counts as full. Else prove '..UptoSaid'. A law counts once. -/
mutual
def uptoBulk {H : Type} : DataW H → Nat
  | .lit (.string bytes) => bytes.length + 1
  | .lit _ => 1
  | .nil => 1
  | .ptr d => uptoBulk d + 1
  | .slice elems spare => uptoBulkAll elems + uptoBulkAll spare + 1
  | .agg parts => uptoBulkAll parts + 1
  | .iface _ d => uptoBulk d + 1
  | .map entries => uptoBulkEntries entries + 1
  | .held _ => 1
def uptoBulkAll {H : Type} : List (DataW H) → Nat
  | [] => 0
  | d :: r => uptoBulk d + uptoBulkAll r
def uptoBulkEntries {H : Type} : List (Lit × DataW H) → Nat
  | [] => 0
  | x :: r => uptoBulkEntry x + uptoBulkEntries r
def uptoBulkEntry {H : Type} : Lit × DataW H → Nat
  | (.string bytes, d) => bytes.length + uptoBulk d + 1
  | (_, d) => uptoBulk d + 1
 end
def uptoSmall : (H : Type) → List (DataW H) → Bool := fun _ ds => decide (uptoBulkAll ds ≤ 1048576)
def OpenSpec.upto (s : _root_.Go.ChangeSpec) : _root_.Go.OpenSpec := { _root_.Go.OpenSpec.ofChange s with cond := some uptoSmall }

/-- 'rostrumkeep.MachineFixed', WHERE WHAT IT READS IS OF BULK AT MOST 1048576: true; the input reads as it did. -/
def machineFixedUptoRow : OpenClaim := { program := "ytpdcfljbabpakaa", sum := "06ecc7b9b01898b9fdc3a14083f0c1eb10aeaa550c2962e17477dafee7d9a8c4", func := "rostrum/rostrumkeep.MachineFixed", spec := "machineFixed", inPlace := ["internal/bytealg.abigen_runtime_cmpstring"], unfollowed := true, recurses := true, apart := false, narrowed := true }
def MachineFixedUptoSaid : Prop := machineFixedUptoRow.holds Try.pinned (OpenSpec.upto machineFixedSpec)

/-- 'rostrumkeep.FoldLines', WHERE WHAT IT READS IS OF BULK AT MOST 1048576: true; the input reads as it did. -/
def foldLinesUptoRow : OpenClaim := { program := "ytpdcfljbabpakaa", sum := "06ecc7b9b01898b9fdc3a14083f0c1eb10aeaa550c2962e17477dafee7d9a8c4", func := "rostrum/rostrumkeep.FoldLines", spec := "foldLines", inPlace := ["internal/bytealg.abigen_runtime_cmpstring"], unfollowed := true, recurses := true, apart := false, narrowed := true }
def FoldLinesUptoSaid : Prop := foldLinesUptoRow.holds Try.pinned (OpenSpec.upto foldLinesSpec)

/-- 'rostrumkeep.FoldCuts', WHERE WHAT IT READS IS OF BULK AT MOST 1048576: true; the input reads as it did. -/
def foldCutsUptoRow : OpenClaim := { program := "ytpdcfljbabpakaa", sum := "06ecc7b9b01898b9fdc3a14083f0c1eb10aeaa550c2962e17477dafee7d9a8c4", func := "rostrum/rostrumkeep.FoldCuts", spec := "foldCuts", inPlace := ["internal/bytealg.abigen_runtime_cmpstring"], unfollowed := true, recurses := true, apart := false, narrowed := true }
def FoldCutsUptoSaid : Prop := foldCutsUptoRow.holds Try.pinned (OpenSpec.upto foldCutsSpec)

/-- 'rostrumkeep.FoldMark', WHERE WHAT IT READS IS OF BULK AT MOST 1048576: true; the input reads as it did. -/
def foldMarkUptoRow : OpenClaim := { program := "ytpdcfljbabpakaa", sum := "06ecc7b9b01898b9fdc3a14083f0c1eb10aeaa550c2962e17477dafee7d9a8c4", func := "rostrum/rostrumkeep.FoldMark", spec := "foldMark", inPlace := ["internal/bytealg.abigen_runtime_cmpstring"], unfollowed := true, recurses := true, apart := false, narrowed := true }
def FoldMarkUptoSaid : Prop := foldMarkUptoRow.holds Try.pinned (OpenSpec.upto foldMarkSpec)

end Rows
end Go.Proofs.Ytpdcfljbabpakaa
