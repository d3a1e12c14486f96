/-
  No cell of these rows narrows 'for every input' (looked for: loops, veiled, ifaces, maps, wideKeys, modest, calm, conditions, laid).
  DERIVED. THE GIVEN ROWS OF THIS SEAT. 14 by the template 'for every input the law returns true; each argument reads behind the call as it read before'; 0 by the template 'total and deterministic' (their statements: YtniihihcklpdgaaTotals.lean).
  GIVEN WITH THE SEED: the statements are not yours to turn. If you find one false, say at which input.
  Laid BY PROGRAM, IN A SANDBOX (cutbox-rows.mjs): the forced cells as the released guide's own fill.sh prints them over the translation 2c8b1426ee882e7d… (all of the seat's roots in one cut). By AI agents, Wed Nov 11 2026. No macro, syntax, notation, axiom, sorry.
-/
import Derived.Test.YtniihihcklpdgaaChecked
import GoSem.Claim
import GoSem.ClaimJoined
import GoSem.ClaimMapViews
import Derived.JoinedTies
import Derived.KernelRfl
namespace Go.Proofs.Ytniihihcklpdgaa
/- THE CELL 'sum', in the pinned program and in every row, IS THE sha256 OF THE DUMP (.gsa) THAT YtniihihcklpdgaaProg.lean LOADS. Nothing in Lean hashes anything: it is a label: what it is worth is what the hold of that sum in a sandbox is worth. -/
noncomputable def Try.pinned : Pinned := { name := "ytniihihcklpdgaa", sum := "2c8b1426ee882e7dfaf2762b2711d38c88cc039e661adfd882c6de2fba728320", checked := Try.checked }
namespace Rows
def none {H : Type} : Left H := { results := [], args := [] }

/-- 'rostrumkeep.ItemsApart': WHATEVER THE INPUT: true; the input reads as it did. -/
def itemsApartSpec : ChangeSpec := { name := "itemsApart", fn := fun _ => fun
  | [d1, d2, d3, d4] => { results := [.lit (.bool true)], args := [d1, d2, d3, d4] }
  | _ => none }
def itemsApartRow : OpenClaim := { program := "ytniihihcklpdgaa", sum := "2c8b1426ee882e7dfaf2762b2711d38c88cc039e661adfd882c6de2fba728320", func := "rostrum/rostrumkeep.ItemsApart", spec := "itemsApart", apart := false }
def ItemsApartSaid : Prop := itemsApartRow.holds Try.pinned (OpenSpec.ofChange itemsApartSpec)

/-- ITS FALSE NEIGHBOUR: 'it returns false'. Refute it at one input. -/
def itemsApartWrong : ChangeSpec := { name := "itemsApart", fn := fun _ => fun
  | [d1, d2, d3, d4] => { results := [.lit (.bool false)], args := [d1, d2, d3, d4] }
  | _ => none }
def ItemsApartWrongFalsely : Prop := itemsApartRow.holds Try.pinned (OpenSpec.ofChange itemsApartWrong)

/-- 'rostrumkeep.BehindTold': WHATEVER THE INPUT: true; the input reads as it did. -/
def behindToldSpec : ChangeSpec := { name := "behindTold", fn := fun _ => fun
  | [d1, d2, d3, d4] => { results := [.lit (.bool true)], args := [d1, d2, d3, d4] }
  | _ => none }
def behindToldRow : OpenClaim := { program := "ytniihihcklpdgaa", sum := "2c8b1426ee882e7dfaf2762b2711d38c88cc039e661adfd882c6de2fba728320", func := "rostrum/rostrumkeep.BehindTold", spec := "behindTold", apart := false }
def BehindToldSaid : Prop := behindToldRow.holds Try.pinned (OpenSpec.ofChange behindToldSpec)

/-- ITS FALSE NEIGHBOUR: 'it returns false'. Refute it at one input. -/
def behindToldWrong : ChangeSpec := { name := "behindTold", fn := fun _ => fun
  | [d1, d2, d3, d4] => { results := [.lit (.bool false)], args := [d1, d2, d3, d4] }
  | _ => none }
def BehindToldWrongFalsely : Prop := behindToldRow.holds Try.pinned (OpenSpec.ofChange behindToldWrong)

/-- 'rostrumkeep.TrimKeeps': WHATEVER THE INPUT: true; the input reads as it did. -/
def trimKeepsSpec : ChangeSpec := { name := "trimKeeps", fn := fun _ => fun
  | [d1, d2, d3] => { results := [.lit (.bool true)], args := [d1, d2, d3] }
  | _ => none }
def trimKeepsRow : OpenClaim := { program := "ytniihihcklpdgaa", sum := "2c8b1426ee882e7dfaf2762b2711d38c88cc039e661adfd882c6de2fba728320", func := "rostrum/rostrumkeep.TrimKeeps", spec := "trimKeeps", apart := false }
def TrimKeepsSaid : Prop := trimKeepsRow.holds Try.pinned (OpenSpec.ofChange trimKeepsSpec)

/-- ITS FALSE NEIGHBOUR: 'it returns false'. Refute it at one input. -/
def trimKeepsWrong : ChangeSpec := { name := "trimKeeps", fn := fun _ => fun
  | [d1, d2, d3] => { results := [.lit (.bool false)], args := [d1, d2, d3] }
  | _ => none }
def TrimKeepsWrongFalsely : Prop := trimKeepsRow.holds Try.pinned (OpenSpec.ofChange trimKeepsWrong)

/-- 'rostrumkeep.MatchBelow': WHATEVER THE INPUT: true; the input reads as it did. -/
def matchBelowSpec : ChangeSpec := { name := "matchBelow", fn := fun _ => fun
  | [d1, d2, d3] => { results := [.lit (.bool true)], args := [d1, d2, d3] }
  | _ => none }
def matchBelowRow : OpenClaim := { program := "ytniihihcklpdgaa", sum := "2c8b1426ee882e7dfaf2762b2711d38c88cc039e661adfd882c6de2fba728320", func := "rostrum/rostrumkeep.MatchBelow", spec := "matchBelow", apart := false }
def MatchBelowSaid : Prop := matchBelowRow.holds Try.pinned (OpenSpec.ofChange matchBelowSpec)

/-- ITS FALSE NEIGHBOUR: 'it returns false'. Refute it at one input. -/
def matchBelowWrong : ChangeSpec := { name := "matchBelow", fn := fun _ => fun
  | [d1, d2, d3] => { results := [.lit (.bool false)], args := [d1, d2, d3] }
  | _ => none }
def MatchBelowWrongFalsely : Prop := matchBelowRow.holds Try.pinned (OpenSpec.ofChange matchBelowWrong)

/-- 'rostrumkeep.MatchBad': WHATEVER THE INPUT: true; the input reads as it did. -/
def matchBadSpec : ChangeSpec := { name := "matchBad", fn := fun _ => fun
  | [d1, d2, d3] => { results := [.lit (.bool true)], args := [d1, d2, d3] }
  | _ => none }
def matchBadRow : OpenClaim := { program := "ytniihihcklpdgaa", sum := "2c8b1426ee882e7dfaf2762b2711d38c88cc039e661adfd882c6de2fba728320", func := "rostrum/rostrumkeep.MatchBad", spec := "matchBad", apart := false }
def MatchBadSaid : Prop := matchBadRow.holds Try.pinned (OpenSpec.ofChange matchBadSpec)

/-- ITS FALSE NEIGHBOUR: 'it returns false'. Refute it at one input. -/
def matchBadWrong : ChangeSpec := { name := "matchBad", fn := fun _ => fun
  | [d1, d2, d3] => { results := [.lit (.bool false)], args := [d1, d2, d3] }
  | _ => none }
def MatchBadWrongFalsely : Prop := matchBadRow.holds Try.pinned (OpenSpec.ofChange matchBadWrong)

/-- 'rostrumkeep.LogFull': WHATEVER THE INPUT: true; the input reads as it did. -/
def logFullSpec : ChangeSpec := { name := "logFull", fn := fun _ => fun
  | [d] => { results := [.lit (.bool true)], args := [d] }
  | _ => none }
def logFullRow : OpenClaim := { program := "ytniihihcklpdgaa", sum := "2c8b1426ee882e7dfaf2762b2711d38c88cc039e661adfd882c6de2fba728320", func := "rostrum/rostrumkeep.LogFull", spec := "logFull", apart := false }
def LogFullSaid : Prop := logFullRow.holds Try.pinned (OpenSpec.ofChange logFullSpec)

/-- ITS FALSE NEIGHBOUR: 'it returns false'. Refute it at one input. -/
def logFullWrong : ChangeSpec := { name := "logFull", fn := fun _ => fun
  | [d] => { results := [.lit (.bool false)], args := [d] }
  | _ => none }
def LogFullWrongFalsely : Prop := logFullRow.holds Try.pinned (OpenSpec.ofChange logFullWrong)

/-- 'rostrumkeep.MatchSame': WHATEVER THE INPUT: true; the input reads as it did. -/
def matchSameSpec : ChangeSpec := { name := "matchSame", fn := fun _ => fun
  | [d1, d2, d3, d4] => { results := [.lit (.bool true)], args := [d1, d2, d3, d4] }
  | _ => none }
def matchSameRow : OpenClaim := { program := "ytniihihcklpdgaa", sum := "2c8b1426ee882e7dfaf2762b2711d38c88cc039e661adfd882c6de2fba728320", func := "rostrum/rostrumkeep.MatchSame", spec := "matchSame", apart := false }
def MatchSameSaid : Prop := matchSameRow.holds Try.pinned (OpenSpec.ofChange matchSameSpec)

/-- ITS FALSE NEIGHBOUR: 'it returns false'. Refute it at one input. -/
def matchSameWrong : ChangeSpec := { name := "matchSame", fn := fun _ => fun
  | [d1, d2, d3, d4] => { results := [.lit (.bool false)], args := [d1, d2, d3, d4] }
  | _ => none }
def MatchSameWrongFalsely : Prop := matchSameRow.holds Try.pinned (OpenSpec.ofChange matchSameWrong)

/-- 'rostrumkeep.MatchNot': WHATEVER THE INPUT: true; the input reads as it did. -/
def matchNotSpec : ChangeSpec := { name := "matchNot", fn := fun _ => fun
  | [d1, d2, d3, d4] => { results := [.lit (.bool true)], args := [d1, d2, d3, d4] }
  | _ => none }
def matchNotRow : OpenClaim := { program := "ytniihihcklpdgaa", sum := "2c8b1426ee882e7dfaf2762b2711d38c88cc039e661adfd882c6de2fba728320", func := "rostrum/rostrumkeep.MatchNot", spec := "matchNot", apart := false }
def MatchNotSaid : Prop := matchNotRow.holds Try.pinned (OpenSpec.ofChange matchNotSpec)

/-- ITS FALSE NEIGHBOUR: 'it returns false'. Refute it at one input. -/
def matchNotWrong : ChangeSpec := { name := "matchNot", fn := fun _ => fun
  | [d1, d2, d3, d4] => { results := [.lit (.bool false)], args := [d1, d2, d3, d4] }
  | _ => none }
def MatchNotWrongFalsely : Prop := matchNotRow.holds Try.pinned (OpenSpec.ofChange matchNotWrong)

/-- 'rostrumkeep.MatchCuts': WHATEVER THE INPUT: true; the input reads as it did. -/
def matchCutsSpec : ChangeSpec := { name := "matchCuts", fn := fun _ => fun
  | [d1, d2, d3] => { results := [.lit (.bool true)], args := [d1, d2, d3] }
  | _ => none }
def matchCutsRow : OpenClaim := { program := "ytniihihcklpdgaa", sum := "2c8b1426ee882e7dfaf2762b2711d38c88cc039e661adfd882c6de2fba728320", func := "rostrum/rostrumkeep.MatchCuts", spec := "matchCuts", apart := false }
def MatchCutsSaid : Prop := matchCutsRow.holds Try.pinned (OpenSpec.ofChange matchCutsSpec)

/-- ITS FALSE NEIGHBOUR: 'it returns false'. Refute it at one input. -/
def matchCutsWrong : ChangeSpec := { name := "matchCuts", fn := fun _ => fun
  | [d1, d2, d3] => { results := [.lit (.bool false)], args := [d1, d2, d3] }
  | _ => none }
def MatchCutsWrongFalsely : Prop := matchCutsRow.holds Try.pinned (OpenSpec.ofChange matchCutsWrong)

/-- 'rostrumkeep.MatchMore': WHATEVER THE INPUT: true; the input reads as it did. -/
def matchMoreSpec : ChangeSpec := { name := "matchMore", fn := fun _ => fun
  | [d1, d2, d3] => { results := [.lit (.bool true)], args := [d1, d2, d3] }
  | _ => none }
def matchMoreRow : OpenClaim := { program := "ytniihihcklpdgaa", sum := "2c8b1426ee882e7dfaf2762b2711d38c88cc039e661adfd882c6de2fba728320", func := "rostrum/rostrumkeep.MatchMore", spec := "matchMore", apart := false }
def MatchMoreSaid : Prop := matchMoreRow.holds Try.pinned (OpenSpec.ofChange matchMoreSpec)

/-- ITS FALSE NEIGHBOUR: 'it returns false'. Refute it at one input. -/
def matchMoreWrong : ChangeSpec := { name := "matchMore", fn := fun _ => fun
  | [d1, d2, d3] => { results := [.lit (.bool false)], args := [d1, d2, d3] }
  | _ => none }
def MatchMoreWrongFalsely : Prop := matchMoreRow.holds Try.pinned (OpenSpec.ofChange matchMoreWrong)

/-- 'rostrumkeep.TrimMatch': WHATEVER THE INPUT: true; the input reads as it did. -/
def trimMatchSpec : ChangeSpec := { name := "trimMatch", fn := fun _ => fun
  | [d1, d2, d3, d4] => { results := [.lit (.bool true)], args := [d1, d2, d3, d4] }
  | _ => none }
def trimMatchRow : OpenClaim := { program := "ytniihihcklpdgaa", sum := "2c8b1426ee882e7dfaf2762b2711d38c88cc039e661adfd882c6de2fba728320", func := "rostrum/rostrumkeep.TrimMatch", spec := "trimMatch", apart := false }
def TrimMatchSaid : Prop := trimMatchRow.holds Try.pinned (OpenSpec.ofChange trimMatchSpec)

/-- ITS FALSE NEIGHBOUR: 'it returns false'. Refute it at one input. -/
def trimMatchWrong : ChangeSpec := { name := "trimMatch", fn := fun _ => fun
  | [d1, d2, d3, d4] => { results := [.lit (.bool false)], args := [d1, d2, d3, d4] }
  | _ => none }
def TrimMatchWrongFalsely : Prop := trimMatchRow.holds Try.pinned (OpenSpec.ofChange trimMatchWrong)

/-- 'rostrumkeep.ItemBack': WHATEVER THE INPUT: true; the input reads as it did. -/
def itemBackSpec : ChangeSpec := { name := "itemBack", fn := fun _ => fun
  | [d1, d2, d3, d4] => { results := [.lit (.bool true)], args := [d1, d2, d3, d4] }
  | _ => none }
def itemBackRow : OpenClaim := { program := "ytniihihcklpdgaa", sum := "2c8b1426ee882e7dfaf2762b2711d38c88cc039e661adfd882c6de2fba728320", func := "rostrum/rostrumkeep.ItemBack", spec := "itemBack", apart := false }
def ItemBackSaid : Prop := itemBackRow.holds Try.pinned (OpenSpec.ofChange itemBackSpec)

/-- ITS FALSE NEIGHBOUR: 'it returns false'. Refute it at one input. -/
def itemBackWrong : ChangeSpec := { name := "itemBack", fn := fun _ => fun
  | [d1, d2, d3, d4] => { results := [.lit (.bool false)], args := [d1, d2, d3, d4] }
  | _ => none }
def ItemBackWrongFalsely : Prop := itemBackRow.holds Try.pinned (OpenSpec.ofChange itemBackWrong)

/-- 'rostrumkeep.ItemFixed': WHATEVER THE INPUT: true; the input reads as it did. -/
def itemFixedSpec : ChangeSpec := { name := "itemFixed", fn := fun _ => fun
  | [d] => { results := [.lit (.bool true)], args := [d] }
  | _ => none }
def itemFixedRow : OpenClaim := { program := "ytniihihcklpdgaa", sum := "2c8b1426ee882e7dfaf2762b2711d38c88cc039e661adfd882c6de2fba728320", func := "rostrum/rostrumkeep.ItemFixed", spec := "itemFixed", apart := false }
def ItemFixedSaid : Prop := itemFixedRow.holds Try.pinned (OpenSpec.ofChange itemFixedSpec)

/-- ITS FALSE NEIGHBOUR: 'it returns false'. Refute it at one input. -/
def itemFixedWrong : ChangeSpec := { name := "itemFixed", fn := fun _ => fun
  | [d] => { results := [.lit (.bool false)], args := [d] }
  | _ => none }
def ItemFixedWrongFalsely : Prop := itemFixedRow.holds Try.pinned (OpenSpec.ofChange itemFixedWrong)

/-- 'rostrumkeep.ItemTorn': WHATEVER THE INPUT: true; the input reads as it did. -/
def itemTornSpec : ChangeSpec := { name := "itemTorn", fn := fun _ => fun
  | [d1, d2, d3] => { results := [.lit (.bool true)], args := [d1, d2, d3] }
  | _ => none }
def itemTornRow : OpenClaim := { program := "ytniihihcklpdgaa", sum := "2c8b1426ee882e7dfaf2762b2711d38c88cc039e661adfd882c6de2fba728320", func := "rostrum/rostrumkeep.ItemTorn", spec := "itemTorn", apart := false }
def ItemTornSaid : Prop := itemTornRow.holds Try.pinned (OpenSpec.ofChange itemTornSpec)

/-- ITS FALSE NEIGHBOUR: 'it returns false'. Refute it at one input. -/
def itemTornWrong : ChangeSpec := { name := "itemTorn", fn := fun _ => fun
  | [d1, d2, d3] => { results := [.lit (.bool false)], args := [d1, d2, d3] }
  | _ => none }
def ItemTornWrongFalsely : Prop := itemTornRow.holds Try.pinned (OpenSpec.ofChange itemTornWrong)

/- THE SECOND FORM. 'bulk': how many values and letters a reading holds, each counted each time it is reached (what is shared counts as often as it is met; a slice's spare places count too). A statement '..UptoSaid' is the law's where the arguments, and the package variables that the reading takes, are together of bulk at most 1048576: NARROWER than '..Said'. Prove '..Said' where nothing that the law and all that it calls make is longer than what came in: it says more and counts as full. Else prove '..UptoSaid'. A law counts once. -/
mutual
def uptoBulk {H : Type} : DataW H → Nat
  | .lit (.string bytes) => bytes.length + 1
  | .lit _ => 1
  | .nil => 1
  | .ptr d => uptoBulk d + 1
  | .slice elems spare => uptoBulkAll elems + uptoBulkAll spare + 1
  | .agg parts => uptoBulkAll parts + 1
  | .iface _ d => uptoBulk d + 1
  | .map entries => uptoBulkEntries entries + 1
  | .held _ => 1
def uptoBulkAll {H : Type} : List (DataW H) → Nat
  | [] => 0
  | d :: r => uptoBulk d + uptoBulkAll r
def uptoBulkEntries {H : Type} : List (Lit × DataW H) → Nat
  | [] => 0
  | x :: r => uptoBulkEntry x + uptoBulkEntries r
def uptoBulkEntry {H : Type} : Lit × DataW H → Nat
  | (.string bytes, d) => bytes.length + uptoBulk d + 1
  | (_, d) => uptoBulk d + 1
 end
def uptoSmall : (H : Type) → List (DataW H) → Bool := fun _ ds => decide (uptoBulkAll ds ≤ 1048576)
def OpenSpec.upto (s : _root_.Go.ChangeSpec) : _root_.Go.OpenSpec := { _root_.Go.OpenSpec.ofChange s with cond := some uptoSmall }

/-- 'rostrumkeep.ItemsApart', WHERE WHAT IT READS IS OF BULK AT MOST 1048576: true; the input reads as it did. -/
def itemsApartUptoRow : OpenClaim := { program := "ytniihihcklpdgaa", sum := "2c8b1426ee882e7dfaf2762b2711d38c88cc039e661adfd882c6de2fba728320", func := "rostrum/rostrumkeep.ItemsApart", spec := "itemsApart", apart := false, narrowed := true }
def ItemsApartUptoSaid : Prop := itemsApartUptoRow.holds Try.pinned (OpenSpec.upto itemsApartSpec)

/-- 'rostrumkeep.BehindTold', WHERE WHAT IT READS IS OF BULK AT MOST 1048576: true; the input reads as it did. -/
def behindToldUptoRow : OpenClaim := { program := "ytniihihcklpdgaa", sum := "2c8b1426ee882e7dfaf2762b2711d38c88cc039e661adfd882c6de2fba728320", func := "rostrum/rostrumkeep.BehindTold", spec := "behindTold", apart := false, narrowed := true }
def BehindToldUptoSaid : Prop := behindToldUptoRow.holds Try.pinned (OpenSpec.upto behindToldSpec)

/-- 'rostrumkeep.TrimKeeps', WHERE WHAT IT READS IS OF BULK AT MOST 1048576: true; the input reads as it did. -/
def trimKeepsUptoRow : OpenClaim := { program := "ytniihihcklpdgaa", sum := "2c8b1426ee882e7dfaf2762b2711d38c88cc039e661adfd882c6de2fba728320", func := "rostrum/rostrumkeep.TrimKeeps", spec := "trimKeeps", apart := false, narrowed := true }
def TrimKeepsUptoSaid : Prop := trimKeepsUptoRow.holds Try.pinned (OpenSpec.upto trimKeepsSpec)

/-- 'rostrumkeep.MatchBelow', WHERE WHAT IT READS IS OF BULK AT MOST 1048576: true; the input reads as it did. -/
def matchBelowUptoRow : OpenClaim := { program := "ytniihihcklpdgaa", sum := "2c8b1426ee882e7dfaf2762b2711d38c88cc039e661adfd882c6de2fba728320", func := "rostrum/rostrumkeep.MatchBelow", spec := "matchBelow", apart := false, narrowed := true }
def MatchBelowUptoSaid : Prop := matchBelowUptoRow.holds Try.pinned (OpenSpec.upto matchBelowSpec)

/-- 'rostrumkeep.MatchBad', WHERE WHAT IT READS IS OF BULK AT MOST 1048576: true; the input reads as it did. -/
def matchBadUptoRow : OpenClaim := { program := "ytniihihcklpdgaa", sum := "2c8b1426ee882e7dfaf2762b2711d38c88cc039e661adfd882c6de2fba728320", func := "rostrum/rostrumkeep.MatchBad", spec := "matchBad", apart := false, narrowed := true }
def MatchBadUptoSaid : Prop := matchBadUptoRow.holds Try.pinned (OpenSpec.upto matchBadSpec)

/-- 'rostrumkeep.LogFull', WHERE WHAT IT READS IS OF BULK AT MOST 1048576: true; the input reads as it did. -/
def logFullUptoRow : OpenClaim := { program := "ytniihihcklpdgaa", sum := "2c8b1426ee882e7dfaf2762b2711d38c88cc039e661adfd882c6de2fba728320", func := "rostrum/rostrumkeep.LogFull", spec := "logFull", apart := false, narrowed := true }
def LogFullUptoSaid : Prop := logFullUptoRow.holds Try.pinned (OpenSpec.upto logFullSpec)

/-- 'rostrumkeep.MatchSame', WHERE WHAT IT READS IS OF BULK AT MOST 1048576: true; the input reads as it did. -/
def matchSameUptoRow : OpenClaim := { program := "ytniihihcklpdgaa", sum := "2c8b1426ee882e7dfaf2762b2711d38c88cc039e661adfd882c6de2fba728320", func := "rostrum/rostrumkeep.MatchSame", spec := "matchSame", apart := false, narrowed := true }
def MatchSameUptoSaid : Prop := matchSameUptoRow.holds Try.pinned (OpenSpec.upto matchSameSpec)

/-- 'rostrumkeep.MatchNot', WHERE WHAT IT READS IS OF BULK AT MOST 1048576: true; the input reads as it did. -/
def matchNotUptoRow : OpenClaim := { program := "ytniihihcklpdgaa", sum := "2c8b1426ee882e7dfaf2762b2711d38c88cc039e661adfd882c6de2fba728320", func := "rostrum/rostrumkeep.MatchNot", spec := "matchNot", apart := false, narrowed := true }
def MatchNotUptoSaid : Prop := matchNotUptoRow.holds Try.pinned (OpenSpec.upto matchNotSpec)

/-- 'rostrumkeep.MatchCuts', WHERE WHAT IT READS IS OF BULK AT MOST 1048576: true; the input reads as it did. -/
def matchCutsUptoRow : OpenClaim := { program := "ytniihihcklpdgaa", sum := "2c8b1426ee882e7dfaf2762b2711d38c88cc039e661adfd882c6de2fba728320", func := "rostrum/rostrumkeep.MatchCuts", spec := "matchCuts", apart := false, narrowed := true }
def MatchCutsUptoSaid : Prop := matchCutsUptoRow.holds Try.pinned (OpenSpec.upto matchCutsSpec)

/-- 'rostrumkeep.MatchMore', WHERE WHAT IT READS IS OF BULK AT MOST 1048576: true; the input reads as it did. -/
def matchMoreUptoRow : OpenClaim := { program := "ytniihihcklpdgaa", sum := "2c8b1426ee882e7dfaf2762b2711d38c88cc039e661adfd882c6de2fba728320", func := "rostrum/rostrumkeep.MatchMore", spec := "matchMore", apart := false, narrowed := true }
def MatchMoreUptoSaid : Prop := matchMoreUptoRow.holds Try.pinned (OpenSpec.upto matchMoreSpec)

/-- 'rostrumkeep.TrimMatch', WHERE WHAT IT READS IS OF BULK AT MOST 1048576: true; the input reads as it did. -/
def trimMatchUptoRow : OpenClaim := { program := "ytniihihcklpdgaa", sum := "2c8b1426ee882e7dfaf2762b2711d38c88cc039e661adfd882c6de2fba728320", func := "rostrum/rostrumkeep.TrimMatch", spec := "trimMatch", apart := false, narrowed := true }
def TrimMatchUptoSaid : Prop := trimMatchUptoRow.holds Try.pinned (OpenSpec.upto trimMatchSpec)

/-- 'rostrumkeep.ItemBack', WHERE WHAT IT READS IS OF BULK AT MOST 1048576: true; the input reads as it did. -/
def itemBackUptoRow : OpenClaim := { program := "ytniihihcklpdgaa", sum := "2c8b1426ee882e7dfaf2762b2711d38c88cc039e661adfd882c6de2fba728320", func := "rostrum/rostrumkeep.ItemBack", spec := "itemBack", apart := false, narrowed := true }
def ItemBackUptoSaid : Prop := itemBackUptoRow.holds Try.pinned (OpenSpec.upto itemBackSpec)

/-- 'rostrumkeep.ItemFixed', WHERE WHAT IT READS IS OF BULK AT MOST 1048576: true; the input reads as it did. -/
def itemFixedUptoRow : OpenClaim := { program := "ytniihihcklpdgaa", sum := "2c8b1426ee882e7dfaf2762b2711d38c88cc039e661adfd882c6de2fba728320", func := "rostrum/rostrumkeep.ItemFixed", spec := "itemFixed", apart := false, narrowed := true }
def ItemFixedUptoSaid : Prop := itemFixedUptoRow.holds Try.pinned (OpenSpec.upto itemFixedSpec)

/-- 'rostrumkeep.ItemTorn', WHERE WHAT IT READS IS OF BULK AT MOST 1048576: true; the input reads as it did. -/
def itemTornUptoRow : OpenClaim := { program := "ytniihihcklpdgaa", sum := "2c8b1426ee882e7dfaf2762b2711d38c88cc039e661adfd882c6de2fba728320", func := "rostrum/rostrumkeep.ItemTorn", spec := "itemTorn", apart := false, narrowed := true }
def ItemTornUptoSaid : Prop := itemTornUptoRow.holds Try.pinned (OpenSpec.upto itemTornSpec)

end Rows
end Go.Proofs.Ytniihihcklpdgaa
