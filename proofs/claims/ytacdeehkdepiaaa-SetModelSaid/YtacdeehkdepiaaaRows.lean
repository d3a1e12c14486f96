/-
  No cell of these rows narrows 'for every input' (looked for: loops, veiled, ifaces, maps, wideKeys, modest, calm, conditions, laid).
  DERIVED. THE GIVEN ROWS OF THIS SEAT. 18 by the template 'for every input the law returns true; each argument reads behind the call as it read before'; 0 by the template 'total and deterministic' (their statements: YtacdeehkdepiaaaTotals.lean).
  GIVEN WITH THE SEED: the statements are not yours to turn. If you find one false, say at which input.
  Laid BY PROGRAM, IN A SANDBOX (cutbox-rows.mjs): the forced cells as the released guide's own fill.sh prints them over the translation eb94fde60f319c66… (all of the seat's roots in one cut). By AI agents, Wed Nov 11 2026. No macro, syntax, notation, axiom, sorry.
-/
import Derived.Test.YtacdeehkdepiaaaChecked
import GoSem.Claim
import GoSem.ClaimJoined
import GoSem.ClaimMapViews
import Derived.JoinedTies
import Derived.KernelRfl
namespace Go.Proofs.Ytacdeehkdepiaaa
/- THE CELL 'sum', in the pinned program and in every row, IS THE sha256 OF THE DUMP (.gsa) THAT YtacdeehkdepiaaaProg.lean LOADS. Nothing in Lean hashes anything: it is a label: what it is worth is what the hold of that sum in a sandbox is worth. -/
noncomputable def Try.pinned : Pinned := { name := "ytacdeehkdepiaaa", sum := "eb94fde60f319c66c8fd52d34cabd49576f0e91ab499d6e19460d9e2b291e158", checked := Try.checked }
namespace Rows
def none {H : Type} : Left H := { results := [], args := [] }

/-- 'rostrumkeep.ValueMay': WHATEVER THE INPUT: true; the input reads as it did. -/
def valueMaySpec : ChangeSpec := { name := "valueMay", fn := fun _ => fun
  | [d1, d2, d3] => { results := [.lit (.bool true)], args := [d1, d2, d3] }
  | _ => none }
def valueMayRow : OpenClaim := { program := "ytacdeehkdepiaaa", sum := "eb94fde60f319c66c8fd52d34cabd49576f0e91ab499d6e19460d9e2b291e158", func := "rostrum/rostrumkeep.ValueMay", spec := "valueMay", inPlace := ["internal/bytealg.abigen_runtime_cmpstring", "slices.overlaps[rostrum/api.Pair]", "slices.overlaps[string]", "slices.overlaps[rostrum/api.Score]"], unfollowed := true, recurses := true, apart := false }
def ValueMaySaid : Prop := valueMayRow.holds Try.pinned (OpenSpec.ofChange valueMaySpec)

/-- ITS FALSE NEIGHBOUR: 'it returns false'. Refute it at one input. -/
def valueMayWrong : ChangeSpec := { name := "valueMay", fn := fun _ => fun
  | [d1, d2, d3] => { results := [.lit (.bool false)], args := [d1, d2, d3] }
  | _ => none }
def ValueMayWrongFalsely : Prop := valueMayRow.holds Try.pinned (OpenSpec.ofChange valueMayWrong)

/-- 'rostrumkeep.PutGet': WHATEVER THE INPUT: true; the input reads as it did. -/
def putGetSpec : ChangeSpec := { name := "putGet", fn := fun _ => fun
  | [d1, d2, d3] => { results := [.lit (.bool true)], args := [d1, d2, d3] }
  | _ => none }
def putGetRow : OpenClaim := { program := "ytacdeehkdepiaaa", sum := "eb94fde60f319c66c8fd52d34cabd49576f0e91ab499d6e19460d9e2b291e158", func := "rostrum/rostrumkeep.PutGet", spec := "putGet", inPlace := ["internal/bytealg.abigen_runtime_cmpstring", "slices.overlaps[rostrum/api.Pair]", "slices.overlaps[string]", "slices.overlaps[rostrum/api.Score]"], unfollowed := true, recurses := true, apart := false }
def PutGetSaid : Prop := putGetRow.holds Try.pinned (OpenSpec.ofChange putGetSpec)

/-- ITS FALSE NEIGHBOUR: 'it returns false'. Refute it at one input. -/
def putGetWrong : ChangeSpec := { name := "putGet", fn := fun _ => fun
  | [d1, d2, d3] => { results := [.lit (.bool false)], args := [d1, d2, d3] }
  | _ => none }
def PutGetWrongFalsely : Prop := putGetRow.holds Try.pinned (OpenSpec.ofChange putGetWrong)

/-- 'rostrumkeep.AddSum': WHATEVER THE INPUT: true; the input reads as it did. -/
def addSumSpec : ChangeSpec := { name := "addSum", fn := fun _ => fun
  | [d1, d2] => { results := [.lit (.bool true)], args := [d1, d2] }
  | _ => none }
def addSumRow : OpenClaim := { program := "ytacdeehkdepiaaa", sum := "eb94fde60f319c66c8fd52d34cabd49576f0e91ab499d6e19460d9e2b291e158", func := "rostrum/rostrumkeep.AddSum", spec := "addSum", inPlace := ["internal/bytealg.abigen_runtime_cmpstring", "slices.overlaps[rostrum/api.Pair]", "slices.overlaps[string]", "slices.overlaps[rostrum/api.Score]"], unfollowed := true, recurses := true, apart := false }
def AddSumSaid : Prop := addSumRow.holds Try.pinned (OpenSpec.ofChange addSumSpec)

/-- ITS FALSE NEIGHBOUR: 'it returns false'. Refute it at one input. -/
def addSumWrong : ChangeSpec := { name := "addSum", fn := fun _ => fun
  | [d1, d2] => { results := [.lit (.bool false)], args := [d1, d2] }
  | _ => none }
def AddSumWrongFalsely : Prop := addSumRow.holds Try.pinned (OpenSpec.ofChange addSumWrong)

/-- 'rostrumkeep.HashModel': WHATEVER THE INPUT: true; the input reads as it did. -/
def hashModelSpec : ChangeSpec := { name := "hashModel", fn := fun _ => fun
  | [d] => { results := [.lit (.bool true)], args := [d] }
  | _ => none }
def hashModelRow : OpenClaim := { program := "ytacdeehkdepiaaa", sum := "eb94fde60f319c66c8fd52d34cabd49576f0e91ab499d6e19460d9e2b291e158", func := "rostrum/rostrumkeep.HashModel", spec := "hashModel", inPlace := ["internal/bytealg.abigen_runtime_cmpstring", "slices.overlaps[rostrum/api.Pair]", "slices.overlaps[string]", "slices.overlaps[rostrum/api.Score]"], unfollowed := true, recurses := true, apart := false }
def HashModelSaid : Prop := hashModelRow.holds Try.pinned (OpenSpec.ofChange hashModelSpec)

/-- ITS FALSE NEIGHBOUR: 'it returns false'. Refute it at one input. -/
def hashModelWrong : ChangeSpec := { name := "hashModel", fn := fun _ => fun
  | [d] => { results := [.lit (.bool false)], args := [d] }
  | _ => none }
def HashModelWrongFalsely : Prop := hashModelRow.holds Try.pinned (OpenSpec.ofChange hashModelWrong)

/-- 'rostrumkeep.ListModel': WHATEVER THE INPUT: true; the input reads as it did. -/
def listModelSpec : ChangeSpec := { name := "listModel", fn := fun _ => fun
  | [d] => { results := [.lit (.bool true)], args := [d] }
  | _ => none }
def listModelRow : OpenClaim := { program := "ytacdeehkdepiaaa", sum := "eb94fde60f319c66c8fd52d34cabd49576f0e91ab499d6e19460d9e2b291e158", func := "rostrum/rostrumkeep.ListModel", spec := "listModel", inPlace := ["internal/bytealg.abigen_runtime_cmpstring", "slices.overlaps[rostrum/api.Pair]", "slices.overlaps[string]", "slices.overlaps[rostrum/api.Score]"], unfollowed := true, recurses := true, apart := false }
def ListModelSaid : Prop := listModelRow.holds Try.pinned (OpenSpec.ofChange listModelSpec)

/-- ITS FALSE NEIGHBOUR: 'it returns false'. Refute it at one input. -/
def listModelWrong : ChangeSpec := { name := "listModel", fn := fun _ => fun
  | [d] => { results := [.lit (.bool false)], args := [d] }
  | _ => none }
def ListModelWrongFalsely : Prop := listModelRow.holds Try.pinned (OpenSpec.ofChange listModelWrong)

/-- 'rostrumkeep.SetModel': WHATEVER THE INPUT: true; the input reads as it did. -/
def setModelSpec : ChangeSpec := { name := "setModel", fn := fun _ => fun
  | [d] => { results := [.lit (.bool true)], args := [d] }
  | _ => none }
def setModelRow : OpenClaim := { program := "ytacdeehkdepiaaa", sum := "eb94fde60f319c66c8fd52d34cabd49576f0e91ab499d6e19460d9e2b291e158", func := "rostrum/rostrumkeep.SetModel", spec := "setModel", inPlace := ["internal/bytealg.abigen_runtime_cmpstring", "slices.overlaps[rostrum/api.Pair]", "slices.overlaps[string]", "slices.overlaps[rostrum/api.Score]"], unfollowed := true, recurses := true, apart := false }
def SetModelSaid : Prop := setModelRow.holds Try.pinned (OpenSpec.ofChange setModelSpec)

/-- ITS FALSE NEIGHBOUR: 'it returns false'. Refute it at one input. -/
def setModelWrong : ChangeSpec := { name := "setModel", fn := fun _ => fun
  | [d] => { results := [.lit (.bool false)], args := [d] }
  | _ => none }
def SetModelWrongFalsely : Prop := setModelRow.holds Try.pinned (OpenSpec.ofChange setModelWrong)

/-- 'rostrumkeep.RankModel': WHATEVER THE INPUT: true; the input reads as it did. -/
def rankModelSpec : ChangeSpec := { name := "rankModel", fn := fun _ => fun
  | [d] => { results := [.lit (.bool true)], args := [d] }
  | _ => none }
def rankModelRow : OpenClaim := { program := "ytacdeehkdepiaaa", sum := "eb94fde60f319c66c8fd52d34cabd49576f0e91ab499d6e19460d9e2b291e158", func := "rostrum/rostrumkeep.RankModel", spec := "rankModel", inPlace := ["internal/bytealg.abigen_runtime_cmpstring", "slices.overlaps[rostrum/api.Pair]", "slices.overlaps[string]", "slices.overlaps[rostrum/api.Score]"], unfollowed := true, recurses := true, apart := false }
def RankModelSaid : Prop := rankModelRow.holds Try.pinned (OpenSpec.ofChange rankModelSpec)

/-- ITS FALSE NEIGHBOUR: 'it returns false'. Refute it at one input. -/
def rankModelWrong : ChangeSpec := { name := "rankModel", fn := fun _ => fun
  | [d] => { results := [.lit (.bool false)], args := [d] }
  | _ => none }
def RankModelWrongFalsely : Prop := rankModelRow.holds Try.pinned (OpenSpec.ofChange rankModelWrong)

/-- 'rostrumkeep.RankMoves': WHATEVER THE INPUT: true; the input reads as it did. -/
def rankMovesSpec : ChangeSpec := { name := "rankMoves", fn := fun _ => fun
  | [d1, d2, d3] => { results := [.lit (.bool true)], args := [d1, d2, d3] }
  | _ => none }
def rankMovesRow : OpenClaim := { program := "ytacdeehkdepiaaa", sum := "eb94fde60f319c66c8fd52d34cabd49576f0e91ab499d6e19460d9e2b291e158", func := "rostrum/rostrumkeep.RankMoves", spec := "rankMoves", inPlace := ["internal/bytealg.abigen_runtime_cmpstring", "slices.overlaps[rostrum/api.Pair]", "slices.overlaps[string]", "slices.overlaps[rostrum/api.Score]"], unfollowed := true, recurses := true, apart := false }
def RankMovesSaid : Prop := rankMovesRow.holds Try.pinned (OpenSpec.ofChange rankMovesSpec)

/-- ITS FALSE NEIGHBOUR: 'it returns false'. Refute it at one input. -/
def rankMovesWrong : ChangeSpec := { name := "rankMoves", fn := fun _ => fun
  | [d1, d2, d3] => { results := [.lit (.bool false)], args := [d1, d2, d3] }
  | _ => none }
def RankMovesWrongFalsely : Prop := rankMovesRow.holds Try.pinned (OpenSpec.ofChange rankMovesWrong)

/-- 'rostrumkeep.TypeTold': WHATEVER THE INPUT: true; the input reads as it did. -/
def typeToldSpec : ChangeSpec := { name := "typeTold", fn := fun _ => fun
  | [d1, d2, d3] => { results := [.lit (.bool true)], args := [d1, d2, d3] }
  | _ => none }
def typeToldRow : OpenClaim := { program := "ytacdeehkdepiaaa", sum := "eb94fde60f319c66c8fd52d34cabd49576f0e91ab499d6e19460d9e2b291e158", func := "rostrum/rostrumkeep.TypeTold", spec := "typeTold", inPlace := ["internal/bytealg.abigen_runtime_cmpstring", "slices.overlaps[rostrum/api.Pair]", "slices.overlaps[string]", "slices.overlaps[rostrum/api.Score]"], unfollowed := true, recurses := true, apart := false }
def TypeToldSaid : Prop := typeToldRow.holds Try.pinned (OpenSpec.ofChange typeToldSpec)

/-- ITS FALSE NEIGHBOUR: 'it returns false'. Refute it at one input. -/
def typeToldWrong : ChangeSpec := { name := "typeTold", fn := fun _ => fun
  | [d1, d2, d3] => { results := [.lit (.bool false)], args := [d1, d2, d3] }
  | _ => none }
def TypeToldWrongFalsely : Prop := typeToldRow.holds Try.pinned (OpenSpec.ofChange typeToldWrong)

/-- 'rostrumkeep.NoneTold': WHATEVER THE INPUT: true; the input reads as it did. -/
def noneToldSpec : ChangeSpec := { name := "noneTold", fn := fun _ => fun
  | [d] => { results := [.lit (.bool true)], args := [d] }
  | _ => none }
def noneToldRow : OpenClaim := { program := "ytacdeehkdepiaaa", sum := "eb94fde60f319c66c8fd52d34cabd49576f0e91ab499d6e19460d9e2b291e158", func := "rostrum/rostrumkeep.NoneTold", spec := "noneTold", inPlace := ["internal/bytealg.abigen_runtime_cmpstring", "slices.overlaps[rostrum/api.Pair]", "slices.overlaps[string]", "slices.overlaps[rostrum/api.Score]"], unfollowed := true, recurses := true, apart := false }
def NoneToldSaid : Prop := noneToldRow.holds Try.pinned (OpenSpec.ofChange noneToldSpec)

/-- ITS FALSE NEIGHBOUR: 'it returns false'. Refute it at one input. -/
def noneToldWrong : ChangeSpec := { name := "noneTold", fn := fun _ => fun
  | [d] => { results := [.lit (.bool false)], args := [d] }
  | _ => none }
def NoneToldWrongFalsely : Prop := noneToldRow.holds Try.pinned (OpenSpec.ofChange noneToldWrong)

/-- 'rostrumkeep.FullTold': WHATEVER THE INPUT: true; the input reads as it did. -/
def fullToldSpec : ChangeSpec := { name := "fullTold", fn := fun _ => fun
  | [d1, d2] => { results := [.lit (.bool true)], args := [d1, d2] }
  | _ => none }
def fullToldRow : OpenClaim := { program := "ytacdeehkdepiaaa", sum := "eb94fde60f319c66c8fd52d34cabd49576f0e91ab499d6e19460d9e2b291e158", func := "rostrum/rostrumkeep.FullTold", spec := "fullTold", inPlace := ["internal/bytealg.abigen_runtime_cmpstring", "slices.overlaps[rostrum/api.Pair]", "slices.overlaps[string]", "slices.overlaps[rostrum/api.Score]"], unfollowed := true, recurses := true, apart := false }
def FullToldSaid : Prop := fullToldRow.holds Try.pinned (OpenSpec.ofChange fullToldSpec)

/-- ITS FALSE NEIGHBOUR: 'it returns false'. Refute it at one input. -/
def fullToldWrong : ChangeSpec := { name := "fullTold", fn := fun _ => fun
  | [d1, d2] => { results := [.lit (.bool false)], args := [d1, d2] }
  | _ => none }
def FullToldWrongFalsely : Prop := fullToldRow.holds Try.pinned (OpenSpec.ofChange fullToldWrong)

/-- 'rostrumkeep.LastGone': WHATEVER THE INPUT: true; the input reads as it did. -/
def lastGoneSpec : ChangeSpec := { name := "lastGone", fn := fun _ => fun
  | [d1, d2] => { results := [.lit (.bool true)], args := [d1, d2] }
  | _ => none }
def lastGoneRow : OpenClaim := { program := "ytacdeehkdepiaaa", sum := "eb94fde60f319c66c8fd52d34cabd49576f0e91ab499d6e19460d9e2b291e158", func := "rostrum/rostrumkeep.LastGone", spec := "lastGone", inPlace := ["internal/bytealg.abigen_runtime_cmpstring", "slices.overlaps[rostrum/api.Pair]", "slices.overlaps[string]", "slices.overlaps[rostrum/api.Score]"], unfollowed := true, recurses := true, apart := false }
def LastGoneSaid : Prop := lastGoneRow.holds Try.pinned (OpenSpec.ofChange lastGoneSpec)

/-- ITS FALSE NEIGHBOUR: 'it returns false'. Refute it at one input. -/
def lastGoneWrong : ChangeSpec := { name := "lastGone", fn := fun _ => fun
  | [d1, d2] => { results := [.lit (.bool false)], args := [d1, d2] }
  | _ => none }
def LastGoneWrongFalsely : Prop := lastGoneRow.holds Try.pinned (OpenSpec.ofChange lastGoneWrong)

/-- 'rostrumkeep.LenAll': WHATEVER THE INPUT: true; the input reads as it did. -/
def lenAllSpec : ChangeSpec := { name := "lenAll", fn := fun _ => fun
  | [d1, d2] => { results := [.lit (.bool true)], args := [d1, d2] }
  | _ => none }
def lenAllRow : OpenClaim := { program := "ytacdeehkdepiaaa", sum := "eb94fde60f319c66c8fd52d34cabd49576f0e91ab499d6e19460d9e2b291e158", func := "rostrum/rostrumkeep.LenAll", spec := "lenAll", inPlace := ["internal/bytealg.abigen_runtime_cmpstring", "slices.overlaps[rostrum/api.Pair]", "slices.overlaps[string]", "slices.overlaps[rostrum/api.Score]"], unfollowed := true, recurses := true, apart := false }
def LenAllSaid : Prop := lenAllRow.holds Try.pinned (OpenSpec.ofChange lenAllSpec)

/-- ITS FALSE NEIGHBOUR: 'it returns false'. Refute it at one input. -/
def lenAllWrong : ChangeSpec := { name := "lenAll", fn := fun _ => fun
  | [d1, d2] => { results := [.lit (.bool false)], args := [d1, d2] }
  | _ => none }
def LenAllWrongFalsely : Prop := lenAllRow.holds Try.pinned (OpenSpec.ofChange lenAllWrong)

/-- 'rostrumkeep.ValueBad': WHATEVER THE INPUT: true; the input reads as it did. -/
def valueBadSpec : ChangeSpec := { name := "valueBad", fn := fun _ => fun
  | [d1, d2, d3] => { results := [.lit (.bool true)], args := [d1, d2, d3] }
  | _ => none }
def valueBadRow : OpenClaim := { program := "ytacdeehkdepiaaa", sum := "eb94fde60f319c66c8fd52d34cabd49576f0e91ab499d6e19460d9e2b291e158", func := "rostrum/rostrumkeep.ValueBad", spec := "valueBad", inPlace := ["internal/bytealg.abigen_runtime_cmpstring", "slices.overlaps[rostrum/api.Pair]", "slices.overlaps[string]", "slices.overlaps[rostrum/api.Score]"], unfollowed := true, recurses := true, apart := false }
def ValueBadSaid : Prop := valueBadRow.holds Try.pinned (OpenSpec.ofChange valueBadSpec)

/-- ITS FALSE NEIGHBOUR: 'it returns false'. Refute it at one input. -/
def valueBadWrong : ChangeSpec := { name := "valueBad", fn := fun _ => fun
  | [d1, d2, d3] => { results := [.lit (.bool false)], args := [d1, d2, d3] }
  | _ => none }
def ValueBadWrongFalsely : Prop := valueBadRow.holds Try.pinned (OpenSpec.ofChange valueBadWrong)

/-- 'rostrumkeep.CommandBare': WHATEVER THE INPUT: true; the input reads as it did. -/
def commandBareSpec : ChangeSpec := { name := "commandBare", fn := fun _ => fun
  | [d1, d2] => { results := [.lit (.bool true)], args := [d1, d2] }
  | _ => none }
def commandBareRow : OpenClaim := { program := "ytacdeehkdepiaaa", sum := "eb94fde60f319c66c8fd52d34cabd49576f0e91ab499d6e19460d9e2b291e158", func := "rostrum/rostrumkeep.CommandBare", spec := "commandBare", inPlace := ["internal/bytealg.abigen_runtime_cmpstring", "slices.overlaps[rostrum/api.Pair]", "slices.overlaps[string]", "slices.overlaps[rostrum/api.Score]"], unfollowed := true, recurses := true, apart := false }
def CommandBareSaid : Prop := commandBareRow.holds Try.pinned (OpenSpec.ofChange commandBareSpec)

/-- ITS FALSE NEIGHBOUR: 'it returns false'. Refute it at one input. -/
def commandBareWrong : ChangeSpec := { name := "commandBare", fn := fun _ => fun
  | [d1, d2] => { results := [.lit (.bool false)], args := [d1, d2] }
  | _ => none }
def CommandBareWrongFalsely : Prop := commandBareRow.holds Try.pinned (OpenSpec.ofChange commandBareWrong)

/-- 'rostrumkeep.AllOrder': WHATEVER THE INPUT: true; the input reads as it did. -/
def allOrderSpec : ChangeSpec := { name := "allOrder", fn := fun _ => fun
  | [d1, d2] => { results := [.lit (.bool true)], args := [d1, d2] }
  | _ => none }
def allOrderRow : OpenClaim := { program := "ytacdeehkdepiaaa", sum := "eb94fde60f319c66c8fd52d34cabd49576f0e91ab499d6e19460d9e2b291e158", func := "rostrum/rostrumkeep.AllOrder", spec := "allOrder", inPlace := ["internal/bytealg.abigen_runtime_cmpstring", "slices.overlaps[rostrum/api.Pair]", "slices.overlaps[string]", "slices.overlaps[rostrum/api.Score]"], unfollowed := true, recurses := true, apart := false }
def AllOrderSaid : Prop := allOrderRow.holds Try.pinned (OpenSpec.ofChange allOrderSpec)

/-- ITS FALSE NEIGHBOUR: 'it returns false'. Refute it at one input. -/
def allOrderWrong : ChangeSpec := { name := "allOrder", fn := fun _ => fun
  | [d1, d2] => { results := [.lit (.bool false)], args := [d1, d2] }
  | _ => none }
def AllOrderWrongFalsely : Prop := allOrderRow.holds Try.pinned (OpenSpec.ofChange allOrderWrong)

/-- 'rostrumkeep.EndsMeet': WHATEVER THE INPUT: true; the input reads as it did. -/
def endsMeetSpec : ChangeSpec := { name := "endsMeet", fn := fun _ => fun
  | [d1, d2, d3] => { results := [.lit (.bool true)], args := [d1, d2, d3] }
  | _ => none }
def endsMeetRow : OpenClaim := { program := "ytacdeehkdepiaaa", sum := "eb94fde60f319c66c8fd52d34cabd49576f0e91ab499d6e19460d9e2b291e158", func := "rostrum/rostrumkeep.EndsMeet", spec := "endsMeet", inPlace := ["internal/bytealg.abigen_runtime_cmpstring", "slices.overlaps[rostrum/api.Pair]", "slices.overlaps[string]", "slices.overlaps[rostrum/api.Score]"], unfollowed := true, recurses := true, apart := false }
def EndsMeetSaid : Prop := endsMeetRow.holds Try.pinned (OpenSpec.ofChange endsMeetSpec)

/-- ITS FALSE NEIGHBOUR: 'it returns false'. Refute it at one input. -/
def endsMeetWrong : ChangeSpec := { name := "endsMeet", fn := fun _ => fun
  | [d1, d2, d3] => { results := [.lit (.bool false)], args := [d1, d2, d3] }
  | _ => none }
def EndsMeetWrongFalsely : Prop := endsMeetRow.holds Try.pinned (OpenSpec.ofChange endsMeetWrong)

/-- 'rostrumkeep.CountRest': WHATEVER THE INPUT: true; the input reads as it did. -/
def countRestSpec : ChangeSpec := { name := "countRest", fn := fun _ => fun
  | [d1, d2] => { results := [.lit (.bool true)], args := [d1, d2] }
  | _ => none }
def countRestRow : OpenClaim := { program := "ytacdeehkdepiaaa", sum := "eb94fde60f319c66c8fd52d34cabd49576f0e91ab499d6e19460d9e2b291e158", func := "rostrum/rostrumkeep.CountRest", spec := "countRest", inPlace := ["internal/bytealg.abigen_runtime_cmpstring", "slices.overlaps[rostrum/api.Pair]", "slices.overlaps[string]", "slices.overlaps[rostrum/api.Score]"], unfollowed := true, recurses := true, apart := false }
def CountRestSaid : Prop := countRestRow.holds Try.pinned (OpenSpec.ofChange countRestSpec)

/-- ITS FALSE NEIGHBOUR: 'it returns false'. Refute it at one input. -/
def countRestWrong : ChangeSpec := { name := "countRest", fn := fun _ => fun
  | [d1, d2] => { results := [.lit (.bool false)], args := [d1, d2] }
  | _ => none }
def CountRestWrongFalsely : Prop := countRestRow.holds Try.pinned (OpenSpec.ofChange countRestWrong)

/- THE SECOND FORM. 'bulk': how many values and letters a reading holds, each counted each time it is reached (what is shared counts as often as it is met; a slice's spare places count too). A statement '..UptoSaid' is the law's where the arguments, and the package variables that the reading takes, are together of bulk at most 1048576: NARROWER than '..Said'. Prove '..Said' where nothing that the law and all that it calls make is longer than what came in: it says more and counts as full. Else prove '..UptoSaid'. A law counts once. -/
mutual
def uptoBulk {H : Type} : DataW H → Nat
  | .lit (.string bytes) => bytes.length + 1
  | .lit _ => 1
  | .nil => 1
  | .ptr d => uptoBulk d + 1
  | .slice elems spare => uptoBulkAll elems + uptoBulkAll spare + 1
  | .agg parts => uptoBulkAll parts + 1
  | .iface _ d => uptoBulk d + 1
  | .map entries => uptoBulkEntries entries + 1
  | .held _ => 1
def uptoBulkAll {H : Type} : List (DataW H) → Nat
  | [] => 0
  | d :: r => uptoBulk d + uptoBulkAll r
def uptoBulkEntries {H : Type} : List (Lit × DataW H) → Nat
  | [] => 0
  | x :: r => uptoBulkEntry x + uptoBulkEntries r
def uptoBulkEntry {H : Type} : Lit × DataW H → Nat
  | (.string bytes, d) => bytes.length + uptoBulk d + 1
  | (_, d) => uptoBulk d + 1
 end
def uptoSmall : (H : Type) → List (DataW H) → Bool := fun _ ds => decide (uptoBulkAll ds ≤ 1048576)
def OpenSpec.upto (s : _root_.Go.ChangeSpec) : _root_.Go.OpenSpec := { _root_.Go.OpenSpec.ofChange s with cond := some uptoSmall }

/-- 'rostrumkeep.ValueMay', WHERE WHAT IT READS IS OF BULK AT MOST 1048576: true; the input reads as it did. -/
def valueMayUptoRow : OpenClaim := { program := "ytacdeehkdepiaaa", sum := "eb94fde60f319c66c8fd52d34cabd49576f0e91ab499d6e19460d9e2b291e158", func := "rostrum/rostrumkeep.ValueMay", spec := "valueMay", inPlace := ["internal/bytealg.abigen_runtime_cmpstring", "slices.overlaps[rostrum/api.Pair]", "slices.overlaps[string]", "slices.overlaps[rostrum/api.Score]"], unfollowed := true, recurses := true, apart := false, narrowed := true }
def ValueMayUptoSaid : Prop := valueMayUptoRow.holds Try.pinned (OpenSpec.upto valueMaySpec)

/-- 'rostrumkeep.PutGet', WHERE WHAT IT READS IS OF BULK AT MOST 1048576: true; the input reads as it did. -/
def putGetUptoRow : OpenClaim := { program := "ytacdeehkdepiaaa", sum := "eb94fde60f319c66c8fd52d34cabd49576f0e91ab499d6e19460d9e2b291e158", func := "rostrum/rostrumkeep.PutGet", spec := "putGet", inPlace := ["internal/bytealg.abigen_runtime_cmpstring", "slices.overlaps[rostrum/api.Pair]", "slices.overlaps[string]", "slices.overlaps[rostrum/api.Score]"], unfollowed := true, recurses := true, apart := false, narrowed := true }
def PutGetUptoSaid : Prop := putGetUptoRow.holds Try.pinned (OpenSpec.upto putGetSpec)

/-- 'rostrumkeep.AddSum', WHERE WHAT IT READS IS OF BULK AT MOST 1048576: true; the input reads as it did. -/
def addSumUptoRow : OpenClaim := { program := "ytacdeehkdepiaaa", sum := "eb94fde60f319c66c8fd52d34cabd49576f0e91ab499d6e19460d9e2b291e158", func := "rostrum/rostrumkeep.AddSum", spec := "addSum", inPlace := ["internal/bytealg.abigen_runtime_cmpstring", "slices.overlaps[rostrum/api.Pair]", "slices.overlaps[string]", "slices.overlaps[rostrum/api.Score]"], unfollowed := true, recurses := true, apart := false, narrowed := true }
def AddSumUptoSaid : Prop := addSumUptoRow.holds Try.pinned (OpenSpec.upto addSumSpec)

/-- 'rostrumkeep.HashModel', WHERE WHAT IT READS IS OF BULK AT MOST 1048576: true; the input reads as it did. -/
def hashModelUptoRow : OpenClaim := { program := "ytacdeehkdepiaaa", sum := "eb94fde60f319c66c8fd52d34cabd49576f0e91ab499d6e19460d9e2b291e158", func := "rostrum/rostrumkeep.HashModel", spec := "hashModel", inPlace := ["internal/bytealg.abigen_runtime_cmpstring", "slices.overlaps[rostrum/api.Pair]", "slices.overlaps[string]", "slices.overlaps[rostrum/api.Score]"], unfollowed := true, recurses := true, apart := false, narrowed := true }
def HashModelUptoSaid : Prop := hashModelUptoRow.holds Try.pinned (OpenSpec.upto hashModelSpec)

/-- 'rostrumkeep.ListModel', WHERE WHAT IT READS IS OF BULK AT MOST 1048576: true; the input reads as it did. -/
def listModelUptoRow : OpenClaim := { program := "ytacdeehkdepiaaa", sum := "eb94fde60f319c66c8fd52d34cabd49576f0e91ab499d6e19460d9e2b291e158", func := "rostrum/rostrumkeep.ListModel", spec := "listModel", inPlace := ["internal/bytealg.abigen_runtime_cmpstring", "slices.overlaps[rostrum/api.Pair]", "slices.overlaps[string]", "slices.overlaps[rostrum/api.Score]"], unfollowed := true, recurses := true, apart := false, narrowed := true }
def ListModelUptoSaid : Prop := listModelUptoRow.holds Try.pinned (OpenSpec.upto listModelSpec)

/-- 'rostrumkeep.SetModel', WHERE WHAT IT READS IS OF BULK AT MOST 1048576: true; the input reads as it did. -/
def setModelUptoRow : OpenClaim := { program := "ytacdeehkdepiaaa", sum := "eb94fde60f319c66c8fd52d34cabd49576f0e91ab499d6e19460d9e2b291e158", func := "rostrum/rostrumkeep.SetModel", spec := "setModel", inPlace := ["internal/bytealg.abigen_runtime_cmpstring", "slices.overlaps[rostrum/api.Pair]", "slices.overlaps[string]", "slices.overlaps[rostrum/api.Score]"], unfollowed := true, recurses := true, apart := false, narrowed := true }
def SetModelUptoSaid : Prop := setModelUptoRow.holds Try.pinned (OpenSpec.upto setModelSpec)

/-- 'rostrumkeep.RankModel', WHERE WHAT IT READS IS OF BULK AT MOST 1048576: true; the input reads as it did. -/
def rankModelUptoRow : OpenClaim := { program := "ytacdeehkdepiaaa", sum := "eb94fde60f319c66c8fd52d34cabd49576f0e91ab499d6e19460d9e2b291e158", func := "rostrum/rostrumkeep.RankModel", spec := "rankModel", inPlace := ["internal/bytealg.abigen_runtime_cmpstring", "slices.overlaps[rostrum/api.Pair]", "slices.overlaps[string]", "slices.overlaps[rostrum/api.Score]"], unfollowed := true, recurses := true, apart := false, narrowed := true }
def RankModelUptoSaid : Prop := rankModelUptoRow.holds Try.pinned (OpenSpec.upto rankModelSpec)

/-- 'rostrumkeep.RankMoves', WHERE WHAT IT READS IS OF BULK AT MOST 1048576: true; the input reads as it did. -/
def rankMovesUptoRow : OpenClaim := { program := "ytacdeehkdepiaaa", sum := "eb94fde60f319c66c8fd52d34cabd49576f0e91ab499d6e19460d9e2b291e158", func := "rostrum/rostrumkeep.RankMoves", spec := "rankMoves", inPlace := ["internal/bytealg.abigen_runtime_cmpstring", "slices.overlaps[rostrum/api.Pair]", "slices.overlaps[string]", "slices.overlaps[rostrum/api.Score]"], unfollowed := true, recurses := true, apart := false, narrowed := true }
def RankMovesUptoSaid : Prop := rankMovesUptoRow.holds Try.pinned (OpenSpec.upto rankMovesSpec)

/-- 'rostrumkeep.TypeTold', WHERE WHAT IT READS IS OF BULK AT MOST 1048576: true; the input reads as it did. -/
def typeToldUptoRow : OpenClaim := { program := "ytacdeehkdepiaaa", sum := "eb94fde60f319c66c8fd52d34cabd49576f0e91ab499d6e19460d9e2b291e158", func := "rostrum/rostrumkeep.TypeTold", spec := "typeTold", inPlace := ["internal/bytealg.abigen_runtime_cmpstring", "slices.overlaps[rostrum/api.Pair]", "slices.overlaps[string]", "slices.overlaps[rostrum/api.Score]"], unfollowed := true, recurses := true, apart := false, narrowed := true }
def TypeToldUptoSaid : Prop := typeToldUptoRow.holds Try.pinned (OpenSpec.upto typeToldSpec)

/-- 'rostrumkeep.NoneTold', WHERE WHAT IT READS IS OF BULK AT MOST 1048576: true; the input reads as it did. -/
def noneToldUptoRow : OpenClaim := { program := "ytacdeehkdepiaaa", sum := "eb94fde60f319c66c8fd52d34cabd49576f0e91ab499d6e19460d9e2b291e158", func := "rostrum/rostrumkeep.NoneTold", spec := "noneTold", inPlace := ["internal/bytealg.abigen_runtime_cmpstring", "slices.overlaps[rostrum/api.Pair]", "slices.overlaps[string]", "slices.overlaps[rostrum/api.Score]"], unfollowed := true, recurses := true, apart := false, narrowed := true }
def NoneToldUptoSaid : Prop := noneToldUptoRow.holds Try.pinned (OpenSpec.upto noneToldSpec)

/-- 'rostrumkeep.FullTold', WHERE WHAT IT READS IS OF BULK AT MOST 1048576: true; the input reads as it did. -/
def fullToldUptoRow : OpenClaim := { program := "ytacdeehkdepiaaa", sum := "eb94fde60f319c66c8fd52d34cabd49576f0e91ab499d6e19460d9e2b291e158", func := "rostrum/rostrumkeep.FullTold", spec := "fullTold", inPlace := ["internal/bytealg.abigen_runtime_cmpstring", "slices.overlaps[rostrum/api.Pair]", "slices.overlaps[string]", "slices.overlaps[rostrum/api.Score]"], unfollowed := true, recurses := true, apart := false, narrowed := true }
def FullToldUptoSaid : Prop := fullToldUptoRow.holds Try.pinned (OpenSpec.upto fullToldSpec)

/-- 'rostrumkeep.LastGone', WHERE WHAT IT READS IS OF BULK AT MOST 1048576: true; the input reads as it did. -/
def lastGoneUptoRow : OpenClaim := { program := "ytacdeehkdepiaaa", sum := "eb94fde60f319c66c8fd52d34cabd49576f0e91ab499d6e19460d9e2b291e158", func := "rostrum/rostrumkeep.LastGone", spec := "lastGone", inPlace := ["internal/bytealg.abigen_runtime_cmpstring", "slices.overlaps[rostrum/api.Pair]", "slices.overlaps[string]", "slices.overlaps[rostrum/api.Score]"], unfollowed := true, recurses := true, apart := false, narrowed := true }
def LastGoneUptoSaid : Prop := lastGoneUptoRow.holds Try.pinned (OpenSpec.upto lastGoneSpec)

/-- 'rostrumkeep.LenAll', WHERE WHAT IT READS IS OF BULK AT MOST 1048576: true; the input reads as it did. -/
def lenAllUptoRow : OpenClaim := { program := "ytacdeehkdepiaaa", sum := "eb94fde60f319c66c8fd52d34cabd49576f0e91ab499d6e19460d9e2b291e158", func := "rostrum/rostrumkeep.LenAll", spec := "lenAll", inPlace := ["internal/bytealg.abigen_runtime_cmpstring", "slices.overlaps[rostrum/api.Pair]", "slices.overlaps[string]", "slices.overlaps[rostrum/api.Score]"], unfollowed := true, recurses := true, apart := false, narrowed := true }
def LenAllUptoSaid : Prop := lenAllUptoRow.holds Try.pinned (OpenSpec.upto lenAllSpec)

/-- 'rostrumkeep.ValueBad', WHERE WHAT IT READS IS OF BULK AT MOST 1048576: true; the input reads as it did. -/
def valueBadUptoRow : OpenClaim := { program := "ytacdeehkdepiaaa", sum := "eb94fde60f319c66c8fd52d34cabd49576f0e91ab499d6e19460d9e2b291e158", func := "rostrum/rostrumkeep.ValueBad", spec := "valueBad", inPlace := ["internal/bytealg.abigen_runtime_cmpstring", "slices.overlaps[rostrum/api.Pair]", "slices.overlaps[string]", "slices.overlaps[rostrum/api.Score]"], unfollowed := true, recurses := true, apart := false, narrowed := true }
def ValueBadUptoSaid : Prop := valueBadUptoRow.holds Try.pinned (OpenSpec.upto valueBadSpec)

/-- 'rostrumkeep.CommandBare', WHERE WHAT IT READS IS OF BULK AT MOST 1048576: true; the input reads as it did. -/
def commandBareUptoRow : OpenClaim := { program := "ytacdeehkdepiaaa", sum := "eb94fde60f319c66c8fd52d34cabd49576f0e91ab499d6e19460d9e2b291e158", func := "rostrum/rostrumkeep.CommandBare", spec := "commandBare", inPlace := ["internal/bytealg.abigen_runtime_cmpstring", "slices.overlaps[rostrum/api.Pair]", "slices.overlaps[string]", "slices.overlaps[rostrum/api.Score]"], unfollowed := true, recurses := true, apart := false, narrowed := true }
def CommandBareUptoSaid : Prop := commandBareUptoRow.holds Try.pinned (OpenSpec.upto commandBareSpec)

/-- 'rostrumkeep.AllOrder', WHERE WHAT IT READS IS OF BULK AT MOST 1048576: true; the input reads as it did. -/
def allOrderUptoRow : OpenClaim := { program := "ytacdeehkdepiaaa", sum := "eb94fde60f319c66c8fd52d34cabd49576f0e91ab499d6e19460d9e2b291e158", func := "rostrum/rostrumkeep.AllOrder", spec := "allOrder", inPlace := ["internal/bytealg.abigen_runtime_cmpstring", "slices.overlaps[rostrum/api.Pair]", "slices.overlaps[string]", "slices.overlaps[rostrum/api.Score]"], unfollowed := true, recurses := true, apart := false, narrowed := true }
def AllOrderUptoSaid : Prop := allOrderUptoRow.holds Try.pinned (OpenSpec.upto allOrderSpec)

/-- 'rostrumkeep.EndsMeet', WHERE WHAT IT READS IS OF BULK AT MOST 1048576: true; the input reads as it did. -/
def endsMeetUptoRow : OpenClaim := { program := "ytacdeehkdepiaaa", sum := "eb94fde60f319c66c8fd52d34cabd49576f0e91ab499d6e19460d9e2b291e158", func := "rostrum/rostrumkeep.EndsMeet", spec := "endsMeet", inPlace := ["internal/bytealg.abigen_runtime_cmpstring", "slices.overlaps[rostrum/api.Pair]", "slices.overlaps[string]", "slices.overlaps[rostrum/api.Score]"], unfollowed := true, recurses := true, apart := false, narrowed := true }
def EndsMeetUptoSaid : Prop := endsMeetUptoRow.holds Try.pinned (OpenSpec.upto endsMeetSpec)

/-- 'rostrumkeep.CountRest', WHERE WHAT IT READS IS OF BULK AT MOST 1048576: true; the input reads as it did. -/
def countRestUptoRow : OpenClaim := { program := "ytacdeehkdepiaaa", sum := "eb94fde60f319c66c8fd52d34cabd49576f0e91ab499d6e19460d9e2b291e158", func := "rostrum/rostrumkeep.CountRest", spec := "countRest", inPlace := ["internal/bytealg.abigen_runtime_cmpstring", "slices.overlaps[rostrum/api.Pair]", "slices.overlaps[string]", "slices.overlaps[rostrum/api.Score]"], unfollowed := true, recurses := true, apart := false, narrowed := true }
def CountRestUptoSaid : Prop := countRestUptoRow.holds Try.pinned (OpenSpec.upto countRestSpec)

end Rows
end Go.Proofs.Ytacdeehkdepiaaa
