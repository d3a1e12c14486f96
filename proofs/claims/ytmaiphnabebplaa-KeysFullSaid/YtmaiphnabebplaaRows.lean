/-
  No cell of these rows narrows 'for every input' (looked for: loops, veiled, ifaces, maps, wideKeys, modest, calm, conditions, laid).
  DERIVED. THE GIVEN ROWS OF THIS SEAT. 12 by the template 'for every input the law returns true; each argument reads behind the call as it read before'; 0 by the template 'total and deterministic' (their statements: YtmaiphnabebplaaTotals.lean).
  GIVEN WITH THE SEED: the statements are not yours to turn. If you find one false, say at which input.
  Laid BY PROGRAM, IN A SANDBOX (cutbox-rows.mjs): the forced cells as the released guide's own fill.sh prints them over the translation d124a3b50f621b89… (all of the seat's roots in one cut). By AI agents, Wed Nov 11 2026. No macro, syntax, notation, axiom, sorry.
-/
import Derived.Test.YtmaiphnabebplaaChecked
import GoSem.Claim
import GoSem.ClaimJoined
import GoSem.ClaimMapViews
import Derived.JoinedTies
import Derived.KernelRfl
namespace Go.Proofs.Ytmaiphnabebplaa
/- THE CELL 'sum', in the pinned program and in every row, IS THE sha256 OF THE DUMP (.gsa) THAT YtmaiphnabebplaaProg.lean LOADS. Nothing in Lean hashes anything: it is a label: what it is worth is what the hold of that sum in a sandbox is worth. -/
noncomputable def Try.pinned : Pinned := { name := "ytmaiphnabebplaa", sum := "d124a3b50f621b898140a89ff698041f439fd4e7035ad99f580722412822cbc0", checked := Try.checked }
namespace Rows
def none {H : Type} : Left H := { results := [], args := [] }

/-- 'rostrumkeep.StoreMay': WHATEVER THE INPUT: true; the input reads as it did. -/
def storeMaySpec : ChangeSpec := { name := "storeMay", fn := fun _ => fun
  | [d1, d2, d3] => { results := [.lit (.bool true)], args := [d1, d2, d3] }
  | _ => none }
def storeMayRow : OpenClaim := { program := "ytmaiphnabebplaa", sum := "d124a3b50f621b898140a89ff698041f439fd4e7035ad99f580722412822cbc0", func := "rostrum/rostrumkeep.StoreMay", spec := "storeMay", inPlace := ["internal/bytealg.abigen_runtime_cmpstring", "slices.overlaps[rostrum/api.Pair]", "slices.overlaps[string]", "slices.overlaps[rostrum/api.Score]", "slices.overlaps[rostrum/api.Entry]"], unfollowed := true, recurses := true, apart := false }
def StoreMaySaid : Prop := storeMayRow.holds Try.pinned (OpenSpec.ofChange storeMaySpec)

/-- ITS FALSE NEIGHBOUR: 'it returns false'. Refute it at one input. -/
def storeMayWrong : ChangeSpec := { name := "storeMay", fn := fun _ => fun
  | [d1, d2, d3] => { results := [.lit (.bool false)], args := [d1, d2, d3] }
  | _ => none }
def StoreMayWrongFalsely : Prop := storeMayRow.holds Try.pinned (OpenSpec.ofChange storeMayWrong)

/-- 'rostrumkeep.KeysApart': WHATEVER THE INPUT: true; the input reads as it did. -/
def keysApartSpec : ChangeSpec := { name := "keysApart", fn := fun _ => fun
  | [d1, d2, d3] => { results := [.lit (.bool true)], args := [d1, d2, d3] }
  | _ => none }
def keysApartRow : OpenClaim := { program := "ytmaiphnabebplaa", sum := "d124a3b50f621b898140a89ff698041f439fd4e7035ad99f580722412822cbc0", func := "rostrum/rostrumkeep.KeysApart", spec := "keysApart", inPlace := ["internal/bytealg.abigen_runtime_cmpstring", "slices.overlaps[rostrum/api.Pair]", "slices.overlaps[string]", "slices.overlaps[rostrum/api.Score]", "slices.overlaps[rostrum/api.Entry]"], unfollowed := true, recurses := true, apart := false }
def KeysApartSaid : Prop := keysApartRow.holds Try.pinned (OpenSpec.ofChange keysApartSpec)

/-- ITS FALSE NEIGHBOUR: 'it returns false'. Refute it at one input. -/
def keysApartWrong : ChangeSpec := { name := "keysApart", fn := fun _ => fun
  | [d1, d2, d3] => { results := [.lit (.bool false)], args := [d1, d2, d3] }
  | _ => none }
def KeysApartWrongFalsely : Prop := keysApartRow.holds Try.pinned (OpenSpec.ofChange keysApartWrong)

/-- 'rostrumkeep.AsValue': WHATEVER THE INPUT: true; the input reads as it did. -/
def asValueSpec : ChangeSpec := { name := "asValue", fn := fun _ => fun
  | [d1, d2] => { results := [.lit (.bool true)], args := [d1, d2] }
  | _ => none }
def asValueRow : OpenClaim := { program := "ytmaiphnabebplaa", sum := "d124a3b50f621b898140a89ff698041f439fd4e7035ad99f580722412822cbc0", func := "rostrum/rostrumkeep.AsValue", spec := "asValue", inPlace := ["internal/bytealg.abigen_runtime_cmpstring", "slices.overlaps[rostrum/api.Pair]", "slices.overlaps[string]", "slices.overlaps[rostrum/api.Score]", "slices.overlaps[rostrum/api.Entry]"], unfollowed := true, recurses := true, apart := false }
def AsValueSaid : Prop := asValueRow.holds Try.pinned (OpenSpec.ofChange asValueSpec)

/-- ITS FALSE NEIGHBOUR: 'it returns false'. Refute it at one input. -/
def asValueWrong : ChangeSpec := { name := "asValue", fn := fun _ => fun
  | [d1, d2] => { results := [.lit (.bool false)], args := [d1, d2] }
  | _ => none }
def AsValueWrongFalsely : Prop := asValueRow.holds Try.pinned (OpenSpec.ofChange asValueWrong)

/-- 'rostrumkeep.ExpireGone': WHATEVER THE INPUT: true; the input reads as it did. -/
def expireGoneSpec : ChangeSpec := { name := "expireGone", fn := fun _ => fun
  | [d1, d2, d3] => { results := [.lit (.bool true)], args := [d1, d2, d3] }
  | _ => none }
def expireGoneRow : OpenClaim := { program := "ytmaiphnabebplaa", sum := "d124a3b50f621b898140a89ff698041f439fd4e7035ad99f580722412822cbc0", func := "rostrum/rostrumkeep.ExpireGone", spec := "expireGone", inPlace := ["internal/bytealg.abigen_runtime_cmpstring", "slices.overlaps[rostrum/api.Pair]", "slices.overlaps[string]", "slices.overlaps[rostrum/api.Score]", "slices.overlaps[rostrum/api.Entry]"], unfollowed := true, recurses := true, apart := false }
def ExpireGoneSaid : Prop := expireGoneRow.holds Try.pinned (OpenSpec.ofChange expireGoneSpec)

/-- ITS FALSE NEIGHBOUR: 'it returns false'. Refute it at one input. -/
def expireGoneWrong : ChangeSpec := { name := "expireGone", fn := fun _ => fun
  | [d1, d2, d3] => { results := [.lit (.bool false)], args := [d1, d2, d3] }
  | _ => none }
def ExpireGoneWrongFalsely : Prop := expireGoneRow.holds Try.pinned (OpenSpec.ofChange expireGoneWrong)

/-- 'rostrumkeep.PutStays': WHATEVER THE INPUT: true; the input reads as it did. -/
def putStaysSpec : ChangeSpec := { name := "putStays", fn := fun _ => fun
  | [d1, d2] => { results := [.lit (.bool true)], args := [d1, d2] }
  | _ => none }
def putStaysRow : OpenClaim := { program := "ytmaiphnabebplaa", sum := "d124a3b50f621b898140a89ff698041f439fd4e7035ad99f580722412822cbc0", func := "rostrum/rostrumkeep.PutStays", spec := "putStays", inPlace := ["internal/bytealg.abigen_runtime_cmpstring", "slices.overlaps[rostrum/api.Pair]", "slices.overlaps[string]", "slices.overlaps[rostrum/api.Score]", "slices.overlaps[rostrum/api.Entry]"], unfollowed := true, recurses := true, apart := false }
def PutStaysSaid : Prop := putStaysRow.holds Try.pinned (OpenSpec.ofChange putStaysSpec)

/-- ITS FALSE NEIGHBOUR: 'it returns false'. Refute it at one input. -/
def putStaysWrong : ChangeSpec := { name := "putStays", fn := fun _ => fun
  | [d1, d2] => { results := [.lit (.bool false)], args := [d1, d2] }
  | _ => none }
def PutStaysWrongFalsely : Prop := putStaysRow.holds Try.pinned (OpenSpec.ofChange putStaysWrong)

/-- 'rostrumkeep.DelOnce': WHATEVER THE INPUT: true; the input reads as it did. -/
def delOnceSpec : ChangeSpec := { name := "delOnce", fn := fun _ => fun
  | [d1, d2] => { results := [.lit (.bool true)], args := [d1, d2] }
  | _ => none }
def delOnceRow : OpenClaim := { program := "ytmaiphnabebplaa", sum := "d124a3b50f621b898140a89ff698041f439fd4e7035ad99f580722412822cbc0", func := "rostrum/rostrumkeep.DelOnce", spec := "delOnce", inPlace := ["internal/bytealg.abigen_runtime_cmpstring", "slices.overlaps[rostrum/api.Pair]", "slices.overlaps[string]", "slices.overlaps[rostrum/api.Score]", "slices.overlaps[rostrum/api.Entry]"], unfollowed := true, recurses := true, apart := false }
def DelOnceSaid : Prop := delOnceRow.holds Try.pinned (OpenSpec.ofChange delOnceSpec)

/-- ITS FALSE NEIGHBOUR: 'it returns false'. Refute it at one input. -/
def delOnceWrong : ChangeSpec := { name := "delOnce", fn := fun _ => fun
  | [d1, d2] => { results := [.lit (.bool false)], args := [d1, d2] }
  | _ => none }
def DelOnceWrongFalsely : Prop := delOnceRow.holds Try.pinned (OpenSpec.ofChange delOnceWrong)

/-- 'rostrumkeep.KeysTold': WHATEVER THE INPUT: true; the input reads as it did. -/
def keysToldSpec : ChangeSpec := { name := "keysTold", fn := fun _ => fun
  | [d] => { results := [.lit (.bool true)], args := [d] }
  | _ => none }
def keysToldRow : OpenClaim := { program := "ytmaiphnabebplaa", sum := "d124a3b50f621b898140a89ff698041f439fd4e7035ad99f580722412822cbc0", func := "rostrum/rostrumkeep.KeysTold", spec := "keysTold", inPlace := ["internal/bytealg.abigen_runtime_cmpstring", "slices.overlaps[rostrum/api.Pair]", "slices.overlaps[string]", "slices.overlaps[rostrum/api.Score]", "slices.overlaps[rostrum/api.Entry]"], unfollowed := true, recurses := true, apart := false }
def KeysToldSaid : Prop := keysToldRow.holds Try.pinned (OpenSpec.ofChange keysToldSpec)

/-- ITS FALSE NEIGHBOUR: 'it returns false'. Refute it at one input. -/
def keysToldWrong : ChangeSpec := { name := "keysTold", fn := fun _ => fun
  | [d] => { results := [.lit (.bool false)], args := [d] }
  | _ => none }
def KeysToldWrongFalsely : Prop := keysToldRow.holds Try.pinned (OpenSpec.ofChange keysToldWrong)

/-- 'rostrumkeep.KeysFull': WHATEVER THE INPUT: true; the input reads as it did. -/
def keysFullSpec : ChangeSpec := { name := "keysFull", fn := fun _ => fun
  | [d] => { results := [.lit (.bool true)], args := [d] }
  | _ => none }
def keysFullRow : OpenClaim := { program := "ytmaiphnabebplaa", sum := "d124a3b50f621b898140a89ff698041f439fd4e7035ad99f580722412822cbc0", func := "rostrum/rostrumkeep.KeysFull", spec := "keysFull", inPlace := ["internal/bytealg.abigen_runtime_cmpstring", "slices.overlaps[rostrum/api.Pair]", "slices.overlaps[string]", "slices.overlaps[rostrum/api.Score]", "slices.overlaps[rostrum/api.Entry]"], unfollowed := true, recurses := true, apart := false }
def KeysFullSaid : Prop := keysFullRow.holds Try.pinned (OpenSpec.ofChange keysFullSpec)

/-- ITS FALSE NEIGHBOUR: 'it returns false'. Refute it at one input. -/
def keysFullWrong : ChangeSpec := { name := "keysFull", fn := fun _ => fun
  | [d] => { results := [.lit (.bool false)], args := [d] }
  | _ => none }
def KeysFullWrongFalsely : Prop := keysFullRow.holds Try.pinned (OpenSpec.ofChange keysFullWrong)

/-- 'rostrumkeep.FailKeeps': WHATEVER THE INPUT: true; the input reads as it did. -/
def failKeepsSpec : ChangeSpec := { name := "failKeeps", fn := fun _ => fun
  | [d1, d2] => { results := [.lit (.bool true)], args := [d1, d2] }
  | _ => none }
def failKeepsRow : OpenClaim := { program := "ytmaiphnabebplaa", sum := "d124a3b50f621b898140a89ff698041f439fd4e7035ad99f580722412822cbc0", func := "rostrum/rostrumkeep.FailKeeps", spec := "failKeeps", inPlace := ["internal/bytealg.abigen_runtime_cmpstring", "slices.overlaps[rostrum/api.Pair]", "slices.overlaps[string]", "slices.overlaps[rostrum/api.Score]", "slices.overlaps[rostrum/api.Entry]"], unfollowed := true, recurses := true, apart := false }
def FailKeepsSaid : Prop := failKeepsRow.holds Try.pinned (OpenSpec.ofChange failKeepsSpec)

/-- ITS FALSE NEIGHBOUR: 'it returns false'. Refute it at one input. -/
def failKeepsWrong : ChangeSpec := { name := "failKeeps", fn := fun _ => fun
  | [d1, d2] => { results := [.lit (.bool false)], args := [d1, d2] }
  | _ => none }
def FailKeepsWrongFalsely : Prop := failKeepsRow.holds Try.pinned (OpenSpec.ofChange failKeepsWrong)

/-- 'rostrumkeep.TimeRuns': WHATEVER THE INPUT: true; the input reads as it did. -/
def timeRunsSpec : ChangeSpec := { name := "timeRuns", fn := fun _ => fun
  | [d1, d2] => { results := [.lit (.bool true)], args := [d1, d2] }
  | _ => none }
def timeRunsRow : OpenClaim := { program := "ytmaiphnabebplaa", sum := "d124a3b50f621b898140a89ff698041f439fd4e7035ad99f580722412822cbc0", func := "rostrum/rostrumkeep.TimeRuns", spec := "timeRuns", inPlace := ["internal/bytealg.abigen_runtime_cmpstring", "slices.overlaps[rostrum/api.Pair]", "slices.overlaps[string]", "slices.overlaps[rostrum/api.Score]", "slices.overlaps[rostrum/api.Entry]"], unfollowed := true, recurses := true, apart := false }
def TimeRunsSaid : Prop := timeRunsRow.holds Try.pinned (OpenSpec.ofChange timeRunsSpec)

/-- ITS FALSE NEIGHBOUR: 'it returns false'. Refute it at one input. -/
def timeRunsWrong : ChangeSpec := { name := "timeRuns", fn := fun _ => fun
  | [d1, d2] => { results := [.lit (.bool false)], args := [d1, d2] }
  | _ => none }
def TimeRunsWrongFalsely : Prop := timeRunsRow.holds Try.pinned (OpenSpec.ofChange timeRunsWrong)

/-- 'rostrumkeep.ExpireAgain': WHATEVER THE INPUT: true; the input reads as it did. -/
def expireAgainSpec : ChangeSpec := { name := "expireAgain", fn := fun _ => fun
  | [d1, d2] => { results := [.lit (.bool true)], args := [d1, d2] }
  | _ => none }
def expireAgainRow : OpenClaim := { program := "ytmaiphnabebplaa", sum := "d124a3b50f621b898140a89ff698041f439fd4e7035ad99f580722412822cbc0", func := "rostrum/rostrumkeep.ExpireAgain", spec := "expireAgain", inPlace := ["internal/bytealg.abigen_runtime_cmpstring", "slices.overlaps[rostrum/api.Pair]", "slices.overlaps[string]", "slices.overlaps[rostrum/api.Score]", "slices.overlaps[rostrum/api.Entry]"], unfollowed := true, recurses := true, apart := false }
def ExpireAgainSaid : Prop := expireAgainRow.holds Try.pinned (OpenSpec.ofChange expireAgainSpec)

/-- ITS FALSE NEIGHBOUR: 'it returns false'. Refute it at one input. -/
def expireAgainWrong : ChangeSpec := { name := "expireAgain", fn := fun _ => fun
  | [d1, d2] => { results := [.lit (.bool false)], args := [d1, d2] }
  | _ => none }
def ExpireAgainWrongFalsely : Prop := expireAgainRow.holds Try.pinned (OpenSpec.ofChange expireAgainWrong)

/-- 'rostrumkeep.TimeBack': WHATEVER THE INPUT: true; the input reads as it did. -/
def timeBackSpec : ChangeSpec := { name := "timeBack", fn := fun _ => fun
  | [d1, d2, d3] => { results := [.lit (.bool true)], args := [d1, d2, d3] }
  | _ => none }
def timeBackRow : OpenClaim := { program := "ytmaiphnabebplaa", sum := "d124a3b50f621b898140a89ff698041f439fd4e7035ad99f580722412822cbc0", func := "rostrum/rostrumkeep.TimeBack", spec := "timeBack", inPlace := ["internal/bytealg.abigen_runtime_cmpstring", "slices.overlaps[rostrum/api.Pair]", "slices.overlaps[string]", "slices.overlaps[rostrum/api.Score]", "slices.overlaps[rostrum/api.Entry]"], unfollowed := true, recurses := true, apart := false }
def TimeBackSaid : Prop := timeBackRow.holds Try.pinned (OpenSpec.ofChange timeBackSpec)

/-- ITS FALSE NEIGHBOUR: 'it returns false'. Refute it at one input. -/
def timeBackWrong : ChangeSpec := { name := "timeBack", fn := fun _ => fun
  | [d1, d2, d3] => { results := [.lit (.bool false)], args := [d1, d2, d3] }
  | _ => none }
def TimeBackWrongFalsely : Prop := timeBackRow.holds Try.pinned (OpenSpec.ofChange timeBackWrong)

/- THE SECOND FORM. 'bulk': how many values and letters a reading holds, each counted each time it is reached (what is shared counts as often as it is met; a slice's spare places count too). A statement '..UptoSaid' is the law's where the arguments, and the package variables that the reading takes, are together of bulk at most 1048576: NARROWER than '..Said'. Prove '..Said' where nothing that the law and all that it calls make is longer than what came in: it says more and counts as full. Else prove '..UptoSaid'. A law counts once. -/
mutual
def uptoBulk {H : Type} : DataW H → Nat
  | .lit (.string bytes) => bytes.length + 1
  | .lit _ => 1
  | .nil => 1
  | .ptr d => uptoBulk d + 1
  | .slice elems spare => uptoBulkAll elems + uptoBulkAll spare + 1
  | .agg parts => uptoBulkAll parts + 1
  | .iface _ d => uptoBulk d + 1
  | .map entries => uptoBulkEntries entries + 1
  | .held _ => 1
def uptoBulkAll {H : Type} : List (DataW H) → Nat
  | [] => 0
  | d :: r => uptoBulk d + uptoBulkAll r
def uptoBulkEntries {H : Type} : List (Lit × DataW H) → Nat
  | [] => 0
  | x :: r => uptoBulkEntry x + uptoBulkEntries r
def uptoBulkEntry {H : Type} : Lit × DataW H → Nat
  | (.string bytes, d) => bytes.length + uptoBulk d + 1
  | (_, d) => uptoBulk d + 1
 end
def uptoSmall : (H : Type) → List (DataW H) → Bool := fun _ ds => decide (uptoBulkAll ds ≤ 1048576)
def OpenSpec.upto (s : _root_.Go.ChangeSpec) : _root_.Go.OpenSpec := { _root_.Go.OpenSpec.ofChange s with cond := some uptoSmall }

/-- 'rostrumkeep.StoreMay', WHERE WHAT IT READS IS OF BULK AT MOST 1048576: true; the input reads as it did. -/
def storeMayUptoRow : OpenClaim := { program := "ytmaiphnabebplaa", sum := "d124a3b50f621b898140a89ff698041f439fd4e7035ad99f580722412822cbc0", func := "rostrum/rostrumkeep.StoreMay", spec := "storeMay", inPlace := ["internal/bytealg.abigen_runtime_cmpstring", "slices.overlaps[rostrum/api.Pair]", "slices.overlaps[string]", "slices.overlaps[rostrum/api.Score]", "slices.overlaps[rostrum/api.Entry]"], unfollowed := true, recurses := true, apart := false, narrowed := true }
def StoreMayUptoSaid : Prop := storeMayUptoRow.holds Try.pinned (OpenSpec.upto storeMaySpec)

/-- 'rostrumkeep.KeysApart', WHERE WHAT IT READS IS OF BULK AT MOST 1048576: true; the input reads as it did. -/
def keysApartUptoRow : OpenClaim := { program := "ytmaiphnabebplaa", sum := "d124a3b50f621b898140a89ff698041f439fd4e7035ad99f580722412822cbc0", func := "rostrum/rostrumkeep.KeysApart", spec := "keysApart", inPlace := ["internal/bytealg.abigen_runtime_cmpstring", "slices.overlaps[rostrum/api.Pair]", "slices.overlaps[string]", "slices.overlaps[rostrum/api.Score]", "slices.overlaps[rostrum/api.Entry]"], unfollowed := true, recurses := true, apart := false, narrowed := true }
def KeysApartUptoSaid : Prop := keysApartUptoRow.holds Try.pinned (OpenSpec.upto keysApartSpec)

/-- 'rostrumkeep.AsValue', WHERE WHAT IT READS IS OF BULK AT MOST 1048576: true; the input reads as it did. -/
def asValueUptoRow : OpenClaim := { program := "ytmaiphnabebplaa", sum := "d124a3b50f621b898140a89ff698041f439fd4e7035ad99f580722412822cbc0", func := "rostrum/rostrumkeep.AsValue", spec := "asValue", inPlace := ["internal/bytealg.abigen_runtime_cmpstring", "slices.overlaps[rostrum/api.Pair]", "slices.overlaps[string]", "slices.overlaps[rostrum/api.Score]", "slices.overlaps[rostrum/api.Entry]"], unfollowed := true, recurses := true, apart := false, narrowed := true }
def AsValueUptoSaid : Prop := asValueUptoRow.holds Try.pinned (OpenSpec.upto asValueSpec)

/-- 'rostrumkeep.ExpireGone', WHERE WHAT IT READS IS OF BULK AT MOST 1048576: true; the input reads as it did. -/
def expireGoneUptoRow : OpenClaim := { program := "ytmaiphnabebplaa", sum := "d124a3b50f621b898140a89ff698041f439fd4e7035ad99f580722412822cbc0", func := "rostrum/rostrumkeep.ExpireGone", spec := "expireGone", inPlace := ["internal/bytealg.abigen_runtime_cmpstring", "slices.overlaps[rostrum/api.Pair]", "slices.overlaps[string]", "slices.overlaps[rostrum/api.Score]", "slices.overlaps[rostrum/api.Entry]"], unfollowed := true, recurses := true, apart := false, narrowed := true }
def ExpireGoneUptoSaid : Prop := expireGoneUptoRow.holds Try.pinned (OpenSpec.upto expireGoneSpec)

/-- 'rostrumkeep.PutStays', WHERE WHAT IT READS IS OF BULK AT MOST 1048576: true; the input reads as it did. -/
def putStaysUptoRow : OpenClaim := { program := "ytmaiphnabebplaa", sum := "d124a3b50f621b898140a89ff698041f439fd4e7035ad99f580722412822cbc0", func := "rostrum/rostrumkeep.PutStays", spec := "putStays", inPlace := ["internal/bytealg.abigen_runtime_cmpstring", "slices.overlaps[rostrum/api.Pair]", "slices.overlaps[string]", "slices.overlaps[rostrum/api.Score]", "slices.overlaps[rostrum/api.Entry]"], unfollowed := true, recurses := true, apart := false, narrowed := true }
def PutStaysUptoSaid : Prop := putStaysUptoRow.holds Try.pinned (OpenSpec.upto putStaysSpec)

/-- 'rostrumkeep.DelOnce', WHERE WHAT IT READS IS OF BULK AT MOST 1048576: true; the input reads as it did. -/
def delOnceUptoRow : OpenClaim := { program := "ytmaiphnabebplaa", sum := "d124a3b50f621b898140a89ff698041f439fd4e7035ad99f580722412822cbc0", func := "rostrum/rostrumkeep.DelOnce", spec := "delOnce", inPlace := ["internal/bytealg.abigen_runtime_cmpstring", "slices.overlaps[rostrum/api.Pair]", "slices.overlaps[string]", "slices.overlaps[rostrum/api.Score]", "slices.overlaps[rostrum/api.Entry]"], unfollowed := true, recurses := true, apart := false, narrowed := true }
def DelOnceUptoSaid : Prop := delOnceUptoRow.holds Try.pinned (OpenSpec.upto delOnceSpec)

/-- 'rostrumkeep.KeysTold', WHERE WHAT IT READS IS OF BULK AT MOST 1048576: true; the input reads as it did. -/
def keysToldUptoRow : OpenClaim := { program := "ytmaiphnabebplaa", sum := "d124a3b50f621b898140a89ff698041f439fd4e7035ad99f580722412822cbc0", func := "rostrum/rostrumkeep.KeysTold", spec := "keysTold", inPlace := ["internal/bytealg.abigen_runtime_cmpstring", "slices.overlaps[rostrum/api.Pair]", "slices.overlaps[string]", "slices.overlaps[rostrum/api.Score]", "slices.overlaps[rostrum/api.Entry]"], unfollowed := true, recurses := true, apart := false, narrowed := true }
def KeysToldUptoSaid : Prop := keysToldUptoRow.holds Try.pinned (OpenSpec.upto keysToldSpec)

/-- 'rostrumkeep.KeysFull', WHERE WHAT IT READS IS OF BULK AT MOST 1048576: true; the input reads as it did. -/
def keysFullUptoRow : OpenClaim := { program := "ytmaiphnabebplaa", sum := "d124a3b50f621b898140a89ff698041f439fd4e7035ad99f580722412822cbc0", func := "rostrum/rostrumkeep.KeysFull", spec := "keysFull", inPlace := ["internal/bytealg.abigen_runtime_cmpstring", "slices.overlaps[rostrum/api.Pair]", "slices.overlaps[string]", "slices.overlaps[rostrum/api.Score]", "slices.overlaps[rostrum/api.Entry]"], unfollowed := true, recurses := true, apart := false, narrowed := true }
def KeysFullUptoSaid : Prop := keysFullUptoRow.holds Try.pinned (OpenSpec.upto keysFullSpec)

/-- 'rostrumkeep.FailKeeps', WHERE WHAT IT READS IS OF BULK AT MOST 1048576: true; the input reads as it did. -/
def failKeepsUptoRow : OpenClaim := { program := "ytmaiphnabebplaa", sum := "d124a3b50f621b898140a89ff698041f439fd4e7035ad99f580722412822cbc0", func := "rostrum/rostrumkeep.FailKeeps", spec := "failKeeps", inPlace := ["internal/bytealg.abigen_runtime_cmpstring", "slices.overlaps[rostrum/api.Pair]", "slices.overlaps[string]", "slices.overlaps[rostrum/api.Score]", "slices.overlaps[rostrum/api.Entry]"], unfollowed := true, recurses := true, apart := false, narrowed := true }
def FailKeepsUptoSaid : Prop := failKeepsUptoRow.holds Try.pinned (OpenSpec.upto failKeepsSpec)

/-- 'rostrumkeep.TimeRuns', WHERE WHAT IT READS IS OF BULK AT MOST 1048576: true; the input reads as it did. -/
def timeRunsUptoRow : OpenClaim := { program := "ytmaiphnabebplaa", sum := "d124a3b50f621b898140a89ff698041f439fd4e7035ad99f580722412822cbc0", func := "rostrum/rostrumkeep.TimeRuns", spec := "timeRuns", inPlace := ["internal/bytealg.abigen_runtime_cmpstring", "slices.overlaps[rostrum/api.Pair]", "slices.overlaps[string]", "slices.overlaps[rostrum/api.Score]", "slices.overlaps[rostrum/api.Entry]"], unfollowed := true, recurses := true, apart := false, narrowed := true }
def TimeRunsUptoSaid : Prop := timeRunsUptoRow.holds Try.pinned (OpenSpec.upto timeRunsSpec)

/-- 'rostrumkeep.ExpireAgain', WHERE WHAT IT READS IS OF BULK AT MOST 1048576: true; the input reads as it did. -/
def expireAgainUptoRow : OpenClaim := { program := "ytmaiphnabebplaa", sum := "d124a3b50f621b898140a89ff698041f439fd4e7035ad99f580722412822cbc0", func := "rostrum/rostrumkeep.ExpireAgain", spec := "expireAgain", inPlace := ["internal/bytealg.abigen_runtime_cmpstring", "slices.overlaps[rostrum/api.Pair]", "slices.overlaps[string]", "slices.overlaps[rostrum/api.Score]", "slices.overlaps[rostrum/api.Entry]"], unfollowed := true, recurses := true, apart := false, narrowed := true }
def ExpireAgainUptoSaid : Prop := expireAgainUptoRow.holds Try.pinned (OpenSpec.upto expireAgainSpec)

/-- 'rostrumkeep.TimeBack', WHERE WHAT IT READS IS OF BULK AT MOST 1048576: true; the input reads as it did. -/
def timeBackUptoRow : OpenClaim := { program := "ytmaiphnabebplaa", sum := "d124a3b50f621b898140a89ff698041f439fd4e7035ad99f580722412822cbc0", func := "rostrum/rostrumkeep.TimeBack", spec := "timeBack", inPlace := ["internal/bytealg.abigen_runtime_cmpstring", "slices.overlaps[rostrum/api.Pair]", "slices.overlaps[string]", "slices.overlaps[rostrum/api.Score]", "slices.overlaps[rostrum/api.Entry]"], unfollowed := true, recurses := true, apart := false, narrowed := true }
def TimeBackUptoSaid : Prop := timeBackUptoRow.holds Try.pinned (OpenSpec.upto timeBackSpec)

end Rows
end Go.Proofs.Ytmaiphnabebplaa
