/- Texts joined. -/
import Derived.Test.YtkkleopmambcnaaGreatDoorSk4
import Derived.Test.YtkkleopmambcnaaGreatDoorSk3
import Derived.Test.YtkkleopmambcnaaGreatDoorSk2
set_option linter.unusedVariables false
set_option linter.unusedSimpArgs false
set_option maxRecDepth 100000
set_option maxHeartbeats 8000000
namespace Go.Proofs.YtkkleopmambcnaaGreatDoor
open Go Go.RowKit Go.Proofs.AE
structure Msg where
  fr : Int
  to : Int
  kind : Int
  term : Int
  last : Int
  lt : Int
  yes : Bool
  commit : Int
  items : List Item
  sidx : Int
  sterm : Int
  mach : Mach
structure Wt where
  place : Int
  term : Int
  call : Cal
structure Tol where
  node : Int
  call : Cal
  rep : Rep
structure Nd where
  me : Int
  up : Bool
  clock : Int
  role : Int
  term : Int
  vote : Int
  log : Lg
  sidx : Int
  sterm : Int
  smach : Mach
  mach : Mach
  commit : Int
  v0 : Bool
  v1 : Bool
  v2 : Bool
  x0 : Int
  x1 : Int
  x2 : Int
  m0 : Int
  m1 : Int
  m2 : Int
  waits : List Wt
  td : List UInt8
  ts : Int
  out : List Msg
structure Crw where
  n0 : Nd
  n1 : Nd
  n2 : Nd
  away : List Msg
  told : List Tol
  led : List (Int × Int)
def Crw.nd (c : Crw) (i : Nat) : Nd := match i with | 0 => c.n0 | 1 => c.n1 | _ => c.n2
def Crw.set (c : Crw) (i : Nat) (n : Nd) : Crw := match i with | 0 => { c with n0 := n } | 1 => { c with n1 := n } | _ => { c with n2 := n }
def Cal.row (c : Cal) : List V := [iL c.client, iL c.seq, iL c.cmd.kind, sL c.cmd.key, sL c.cmd.field, sL c.cmd.text, iL c.cmd.n]
def Msg.row (m : Msg) : List V := [iL m.fr, iL m.to, iL m.kind, iL m.term, iL m.last, iL m.lt, .lit (.bool m.yes), iL m.commit, .sl (m.items.map Item.row), iL m.sidx, iL m.sterm, iL m.mach.sto.now, .sl (eR m.mach.sto.ents), iL m.mach.next, .sl (clR m.mach.clis)]
def Msg.c (m : Msg) : List C := [iC m.fr, iC m.to, iC m.kind, iC m.term, iC m.last, iC m.lt, .v (.lit (.bool m.yes)), iC m.commit, .v (.sl (m.items.map Item.row)), iC m.sidx, iC m.sterm, iC m.mach.sto.now, .v (.sl (eR m.mach.sto.ents)), iC m.mach.next, .v (.sl (clR m.mach.clis))]
def Wt.row (x : Wt) : List V := [iL x.place, iL x.term, iL x.call.client, iL x.call.seq, iL x.call.cmd.kind, sL x.call.cmd.key, sL x.call.cmd.field, sL x.call.cmd.text, iL x.call.cmd.n]
def Tol.row (x : Tol) : List V := [iL x.node, iL x.call.client, iL x.call.seq, iL x.call.cmd.kind, sL x.call.cmd.key, sL x.call.cmd.field, sL x.call.cmd.text, iL x.call.cmd.n, iL x.rep.code, sL x.rep.text, iL x.rep.n, .sl (strRows x.rep.list)]
def leadR (x : Int × Int) : List V := [iL x.1, iL x.2]
abbrev bCr (b : Bool) : C := .v (.lit (.bool b))
abbrev Nd.cs (n : Nd) (w o : Nat) : List C := [iC n.me, bCr n.up, iC n.clock, iC n.role, iC n.term, iC n.vote, iC n.log.base, iC n.log.bt, .v (.sl (n.log.items.map Item.row)),
  iC n.sidx, iC n.sterm, iC n.smach.sto.now, .v (.sl (eR n.smach.sto.ents)), iC n.smach.next, .v (.sl (clR n.smach.clis)), iC n.mach.sto.now, .v (.sl (eR n.mach.sto.ents)), iC n.mach.next, .v (.sl (clR n.mach.clis)), iC n.commit,
  bCr n.v0, bCr n.v1, bCr n.v2, iC n.x0, iC n.x1, iC n.x2, iC n.m0, iC n.m1, iC n.m2, .ar w, .v (.sl (bR n.td)), iC n.ts, .ar o]
abbrev Crw.hp (c : Crw) : Hp := [some (.box 113 (c.n0.cs 4 7 ++ c.n1.cs 5 8 ++ c.n2.cs 6 9 ++ [.ar 1, .ar 2, .ar 3])),
  some (.arr 144 15 (c.away.map Msg.row)), some (.arr 77 12 (c.told.map Tol.row)), some (.arr 61 2 (c.led.map leadR)),
  some (.arr 176 9 (c.n0.waits.map Wt.row)), some (.arr 176 9 (c.n1.waits.map Wt.row)), some (.arr 176 9 (c.n2.waits.map Wt.row)),
  some (.arr 144 15 (c.n0.out.map Msg.row)), some (.arr 144 15 (c.n1.out.map Msg.row)), some (.arr 144 15 (c.n2.out.map Msg.row))]
def zMsg : Msg := ⟨0, 0, 0, 0, 0, 0, false, 0, [], 0, 0, zeroM⟩
def Nd.write (n : Nd) (r : Rcd) : Nd × Bool :=
  if checkRc r ≠ 0 ∨ 400000 < n.td.length + 3 + (encRc r).length then (n, false) else ({ n with td := n.td ++ frameB r }, true)
def Nd.send (n : Nd) (to : Int) (m : Msg) : Nd := if n.out.length < 300 then { n with out := n.out ++ [{ m with fr := n.me, to := to }] } else n
def Nd.tellTo (n : Nd) (m : Msg) (to : Int) : Nd := if to ≠ n.me then n.send to m else n
def Nd.tell (n : Nd) (m : Msg) : Nd := ((n.tellTo m 0).tellTo m 1).tellTo m 2
def Nd.lastP (n : Nd) : Int := n.log.base + n.log.items.length
def Nd.lastT (n : Nd) : Int := lastTerm n.log.bt n.log.items
def Nd.mark (n : Nd) (term vote : Int) : Nd × Bool :=
  if (n.write (markRc term vote)).2 then ({ (n.write (markRc term vote)).1 with term := term, vote := vote }, true) else (n, false)
def Nd.follow (n : Nd) : Nd := { n with role := 0, waits := [] }
def Nd.hear (n : Nd) : Nd := if n.role = 2 then n.follow else n
def Nd.refuse (n : Nd) (to : Int) : Nd := n.send to { zMsg with kind := 8, term := n.term }
def Nd.many (n : Nd) : Bool := decide (2 ≤ n.v0.toNat + n.v1.toNat + n.v2.toNat)
def Nd.alone (n : Nd) : Nd := { n with v0 := n.me == 0, v1 := n.me == 1, v2 := n.me == 2 }
def matchGoD (g : Lg) (place : Int) (k : Nat) (its : List Item) : Lg × Bool × Int × Int :=
  match firstNew g.items k its 0 with
  | none => (g, true, 0, 0)
  | some i => if checkLog g.base g.bt (g.items.take (k + i) ++ its.drop i) = 0 then (⟨g.base, g.bt, g.items.take (k + i) ++ its.drop i⟩, true, place + i + 1, 0) else (zeroLg, false, 0, 6)
def matchD (g : Lg) (place of' : Int) (its : List Item) : Lg × Bool × Int × Int :=
  if checkLog place of' its ≠ 0 then (zeroLg, false, 0, 10)
  else if place < g.base then (if place + its.length < g.base then (g, true, 0, 0) else matchGoD g g.base 0 (its.drop (g.base - place).toNat))
  else if termErr g.base g.items.length place ≠ 0 ∨ termAt g.base g.bt g.items place ≠ of' then (g, false, 0, 0)
  else matchGoD g place (place - g.base).toNat its
def lineRec (i : Int) (x : Item) : Rcd := ⟨2, 0, 0, i, x, 0, 0, zeroM⟩
def Nd.put (n : Nd) (x : Item) : Nd × Bool :=
  if (matchD n.log n.lastP n.lastT [x]).2.2.2 ≠ 0 ∨ (matchD n.log n.lastP n.lastT [x]).2.1 = false ∨ (matchD n.log n.lastP n.lastT [x]).2.2.1 = 0 ∨ (n.write (lineRec (n.lastP + 1) x)).2 = false then (n, false)
  else ({ (n.write (lineRec (n.lastP + 1) x)).1 with log := (matchD n.log n.lastP n.lastT [x]).1 }, true)
def Nd.time (n : Nd) : Int := match n.log.items.getLast? with
  | some x => maxI (maxI n.clock n.mach.sto.now) x.time
  | none => maxI n.clock n.mach.sto.now
def nopItem (term time : Int) : Item := ⟨term, time, true, 0, 0, 0, ⟨#[]⟩, ⟨#[]⟩, ⟨#[]⟩, 0⟩
def callItem (term time : Int) (c : Cal) : Item := ⟨term, time, false, c.client, c.seq, c.cmd.kind, c.cmd.key, c.cmd.field, c.cmd.text, c.cmd.n⟩
def Item.cal (x : Item) : Cal := ⟨x.client, x.seq, ⟨x.k, x.key, x.field, x.text, x.n⟩⟩
def Nd.nx (n : Nd) (i : Int) : Int := if i = 0 then n.x0 else if i = 1 then n.x1 else n.x2
def Nd.mt (n : Nd) (i : Int) : Int := if i = 0 then n.m0 else if i = 1 then n.m1 else n.m2
def Nd.setNx (n : Nd) (i v : Int) : Nd := if i = 0 then { n with x0 := v } else if i = 1 then { n with x1 := v } else { n with x2 := v }
def Nd.setMt (n : Nd) (i v : Int) : Nd := if i = 0 then { n with m0 := v } else if i = 1 then { n with m1 := v } else { n with m2 := v }
def Nd.setV (n : Nd) (i : Int) : Nd := if i = 0 then { n with v0 := true } else if i = 1 then { n with v1 := true } else { n with v2 := true }
def Nd.heapMsg (n : Nd) (to : Int) : Msg :=
  if n.nx to - 1 < n.log.base then { zMsg with kind := 7, term := n.term, sidx := n.sidx, sterm := n.sterm, mach := n.smach }
  else { zMsg with kind := 5, term := n.term, last := n.nx to - 1, lt := termAt n.log.base n.log.bt n.log.items (n.nx to - 1), items := (if termErr n.log.base n.log.items.length (n.nx to - 1) = 0 then behind n.log.base n.log.items (n.nx to - 1) 8 else []), commit := n.commit }
def Nd.heapTo (n : Nd) (to : Int) : Nd := if to = n.me then n else n.send to (n.heapMsg to)
def Nd.heap (n : Nd) : Nd := ((n.heapTo 0).heapTo 1).heapTo 2
def Nd.leadN (n : Nd) : Nd := ({ n with role := 3, x0 := n.lastP + 1, x1 := n.lastP + 1, x2 := n.lastP + 1, m0 := 0, m1 := 0, m2 := 0 })
def Nd.leadP (n : Nd) : Nd := (n.leadN.put (nopItem n.term n.leadN.time)).1.heap
def Nd.standB (n : Nd) : Nd := ({ n with role := 2 }.alone).tell { zMsg with kind := 3, term := n.term, last := n.lastP, lt := n.lastT }
def Nd.stand (n : Nd) : Nd := if n.term = 1048576 ∨ (n.mark (n.term + 1) n.me).2 = false then n else (n.mark (n.term + 1) n.me).1.standB
def waitTold (n : Nd) (place term : Int) (r : Rep) : List Tol := (n.waits.filter fun w => w.place == place && w.term == term).map fun w => ⟨n.me, w.call, r⟩
def Nd.doStep (n : Nd) : Nd × List Tol :=
  match n.log.items[(n.commit + 1 - n.log.base - 1).toNat]? with
  | none => (n, [])
  | some x => if x.nop then ({ n with commit := n.commit + 1 }, waitTold n (n.commit + 1) x.term ⟨0, ⟨#[]⟩, 0, []⟩)
    else ({ n with commit := n.commit + 1, mach := (DoM n.mach x.time x.cal).1 }, waitTold n (n.commit + 1) x.term (DoM n.mach x.time x.cal).2.1)
def doGo : Nat → Nd → Nd × List Tol
  | 0, n => (n, [])
  | k + 1, n => ((doGo k n.doStep.1).1, n.doStep.2 ++ (doGo k n.doStep.1).2)
def Nd.done (n : Nd) (place : Int) : Nd × List Tol := doGo (place - n.commit).toNat n
def Nd.count (n : Nd) (place : Int) : Int := 1 + (if n.me ≠ 0 ∧ place ≤ n.m0 then 1 else 0) + (if n.me ≠ 1 ∧ place ≤ n.m1 then 1 else 0) + (if n.me ≠ 2 ∧ place ≤ n.m2 then 1 else 0)
def Nd.okPlace (n : Nd) (place : Int) : Bool := decide (2 ≤ n.count place) && (termAt n.log.base n.log.bt n.log.items place == n.term)
def agreeGo (n : Nd) : Nat → Option Int
  | 0 => none
  | k + 1 => if n.okPlace (n.commit + (k + 1 : Nat)) then some (n.commit + (k + 1 : Nat)) else agreeGo n k
def Nd.agreed (n : Nd) : Nd × List Tol := match agreeGo n (n.lastP - n.commit).toNat with
  | some p => n.done p
  | none => (n, [])
def ackMsg (term last : Int) (yes : Bool) : Msg := { zMsg with kind := 6, term := term, yes := yes, last := last }
def writeAll (n : Nd) (i : Int) : List Item → Option Nd
  | [] => some n
  | x :: l => if (n.write (lineRec i x)).2 then writeAll (n.write (lineRec i x)).1 (i + 1) l else none
def Nd.pileB (n : Nd) (m : Msg) : Nd × List Tol := (n.send m.fr (ackMsg n.term (m.last + m.items.length) true)).done (if m.last + m.items.length < m.commit then m.last + m.items.length else m.commit)
def Nd.pile (n : Nd) (m : Msg) : Nd × List Tol :=
  if (matchD n.log m.last m.lt m.items).2.2.2 ≠ 0 then (n, [])
  else if (matchD n.log m.last m.lt m.items).2.1 = false then (n.send m.fr (ackMsg n.term n.commit false), [])
  else if 0 < (matchD n.log m.last m.lt m.items).2.2.1 then
    match writeAll n (matchD n.log m.last m.lt m.items).2.2.1 ((matchD n.log m.last m.lt m.items).1.items.drop ((matchD n.log m.last m.lt m.items).2.2.1 - (matchD n.log m.last m.lt m.items).1.base - 1).toNat) with
    | none => (n, [])
    | some n' => { n' with log := (matchD n.log m.last m.lt m.items).1 }.pileB m
  else n.pileB m
def Nd.loadB (n : Nd) (log : Lg) (m : Msg) : Nd := { n with log := log, sidx := m.sidx, sterm := m.sterm, smach := m.mach, mach := m.mach, commit := m.sidx }
def Nd.shipB (n : Nd) (m : Msg) : Nd := n.send m.fr (ackMsg n.term m.sidx true)
def Nd.ship (n : Nd) (m : Msg) : Nd :=
  if n.commit < m.sidx then
    if (n.write (loadRc m.sidx m.sterm m.mach)).2 = false then n
    else ((n.write (loadRc m.sidx m.sterm m.mach)).1.loadB (restD n.log m.sidx m.sterm) m).shipB m
  else n.shipB m
def Nd.ack (n : Nd) (m : Msg) : Nd × List Tol :=
  if m.yes then ((n.setMt m.fr (maxI (n.mt m.fr) m.last)).setNx m.fr (maxI (n.nx m.fr) (m.last + 1))).agreed
  else (n.setNx m.fr (maxI (n.mt m.fr) m.last + 1), [])
def Nd.newer (n : Nd) (last lt : Int) : Bool := decide (n.lastT < lt) || (lt == n.lastT && decide (n.lastP ≤ last))
def Nd.pre (n : Nd) (m : Msg) : Nd := if n.newer m.last m.lt && decide (n.term < m.term) then n.send m.fr { zMsg with kind := 2, term := m.term } else n.refuse m.fr
def Nd.voteB (n : Nd) (m : Msg) : Nd := n.send m.fr { zMsg with kind := 4, term := n.term }
def Nd.ballot (n : Nd) (m : Msg) : Nd :=
  if n.newer m.last m.lt = false ∨ (0 ≤ n.vote ∧ n.vote ≠ m.fr) then n.refuse m.fr
  else if n.vote < 0 then (if (n.mark n.term m.fr).2 = false then n.refuse m.fr else (n.mark n.term m.fr).1.voteB m)
  else n.voteB m
def Nd.come1 (n : Nd) (m : Msg) : Nd × List Tol × Bool :=
  if m.kind = 1 then (n.pre m, [], false)
  else if m.kind = 2 then
    if n.role = 1 ∧ m.term = n.term + 1 then (if (n.setV m.fr).many then ((n.setV m.fr).stand, [], false) else (n.setV m.fr, [], false)) else (n, [], false)
  else if m.term < n.term then (if m.kind ≠ 8 then n.refuse m.fr else n, [], false)
  else if m.kind = 3 then (n.ballot m, [], false)
  else if m.kind = 4 then
    if n.role = 2 then (if (n.setV m.fr).many then ((n.setV m.fr).leadP, [], true) else (n.setV m.fr, [], false)) else (n, [], false)
  else if m.kind = 5 then ((n.hear.pile m).1, (n.hear.pile m).2, false)
  else if m.kind = 7 then (n.hear.ship m, [], false)
  else if m.kind = 6 then (if n.role = 3 then ((n.ack m).1, (n.ack m).2, false) else (n, [], false))
  else (n, [], false)
def Nd.come (n : Nd) (m : Msg) : Nd × List Tol × Bool :=
  if n.up = false then (n, [], false)
  else if m.kind ≠ 1 ∧ m.kind ≠ 2 ∧ n.term < m.term then
    if (n.mark m.term (-1)).2 = false then (n, [], false) else (n.mark m.term (-1)).1.follow.come1 m
  else n.come1 m
def Crw.come (c : Crw) (m : Msg) : Crw :=
  let n := c.nd m.to.toNat
  let q := n.come m
  let c' := c.set m.to.toNat q.1
  { c' with told := c.told ++ q.2.1, led := if q.2.2 then c.led ++ [(q.1.term, q.1.me)] else c.led }
structure Act where
  kind : Int
  node : Int
  pick : Int
  call : Cal
def Act.c (a : Act) : List C := [iC a.kind, iC a.node, iC a.pick, iC a.call.client, iC a.call.seq, iC a.call.cmd.kind, sC a.call.cmd.key, sC a.call.cmd.field, sC a.call.cmd.text, iC a.call.cmd.n]
def Act.row (a : Act) : List V := [iL a.kind, iL a.node, iL a.pick, iL a.call.client, iL a.call.seq, iL a.call.cmd.kind, sL a.call.cmd.key, sL a.call.cmd.field, sL a.call.cmd.text, iL a.call.cmd.n]
def tolE (n : Nd) (c : Cal) (e : Int) : Tol := ⟨n.me, c, failR e⟩
def Nd.waitB (n : Nd) (c : Cal) : Nd := { n with waits := n.waits ++ [⟨n.lastP, n.term, c⟩] }
def Nd.ask (n : Nd) (c : Cal) : Nd × List Tol :=
  if n.up = false then (n, [tolE n c 13])
  else if n.role ≠ 3 then (n, [tolE n c 12])
  else if (n.put (callItem n.term n.time c)).2 = false then ((n.put (callItem n.term n.time c)).1, [tolE n c 6])
  else ((n.put (callItem n.term n.time c)).1.waitB c, [])
def Nd.trim (n : Nd) : Nd :=
  if n.commit = n.log.base then n
  else if (n.write (loadRc n.commit (termAt n.log.base n.log.bt n.log.items n.commit) n.mach)).2 = false then n
  else { (n.write (loadRc n.commit (termAt n.log.base n.log.bt n.log.items n.commit) n.mach)).1 with sidx := n.commit, sterm := termAt n.log.base n.log.bt n.log.items n.commit, smach := n.mach, log := ⟨n.commit, termAt n.log.base n.log.bt n.log.items n.commit, n.log.items.drop (n.commit - n.log.base).toNat⟩ }
def freshN (me : Int) (d : Dsk) : Nd := ⟨me, false, 0, 0, d.term, d.fr, d.log, d.sidx, d.sterm, d.mach, d.mach, d.sidx, false, false, false, 0, 0, 0, 0, 0, 0, [], [], 0, []⟩
def Nd.crash (n : Nd) (keep : Int) : Nd :=
  { freshN n.me (foldD (recB (n.td.take (crashN n.td n.ts keep))).1).1 with td := (n.td.take (crashN n.td n.ts keep)).take (recB (n.td.take (crashN n.td n.ts keep))).2, ts := (recB (n.td.take (crashN n.td n.ts keep))).2, clock := n.clock }
def putAway : List Msg → List Msg → List Msg
  | a, [] => a
  | a, m :: l => putAway (if a.length < 300 then a ++ [m] else a) l
def Nd.standAct (n : Nd) : Nd := if n.role ≠ 3 ∧ n.term < 1048576 then ({ n with role := 1 }.alone).tell { zMsg with kind := 1, term := n.term + 1, last := n.lastP, lt := n.lastT } else n
def Crw.act (c : Crw) (a : Act) : Crw :=
  let n := c.nd a.node.toNat
  if a.kind = 2 then c.set a.node.toNat n.standAct
  else if a.kind = 3 then (if n.role = 3 then c.set a.node.toNat n.heap else c)
  else if a.kind = 4 then { c.set a.node.toNat { n with ts := n.td.length, out := [] } with away := putAway c.away n.out }
  else if a.kind = 9 then c.set a.node.toNat (n.crash a.pick)
  else if a.kind = 11 then c.set a.node.toNat n.trim
  else c
def Crw.comes (c : Crw) (l : List Msg) : Crw := l.foldl Crw.come c
def Crw.pick (c : Crw) (a : Act) : Nat := (a.pick % (c.away.length : Int)).toNat
def Crw.do (c : Crw) (a : Act) : Crw :=
  let n := c.nd a.node.toNat
  if a.kind = 1 then { c.set a.node.toNat (n.ask a.call).1 with told := c.told ++ (n.ask a.call).2 }
  else if a.kind = 5 then c.set a.node.toNat { n with clock := if n.clock + a.pick < 1073741824 then n.clock + a.pick else 1073741824 }
  else if a.kind = 10 then c.set a.node.toNat { n with up := true }
  else if a.kind = 6 ∨ a.kind = 7 then
    match c.away[c.pick a]? with
    | none => c
    | some m => if a.kind = 6 then { c with away := c.away.eraseIdx (c.pick a) }.come m else { c with away := c.away.eraseIdx (c.pick a) }
  else if a.kind = 8 then
    match c.away[c.pick a]? with
    | none => c
    | some m => if c.away.length < 300 then { c with away := c.away ++ [m] } else c
  else if a.kind = 12 then { c with away := [] }.comes c.away
  else if n.up then c.act a else c
end Go.Proofs.YtkkleopmambcnaaGreatDoor
set_option linter.unusedVariables false
set_option linter.unusedSimpArgs false
set_option maxRecDepth 100000
set_option maxHeartbeats 8000000
namespace Go.Proofs.YtkkleopmambcnaaGreatDoor
open Go Go.RowKit Go.Proofs.AE
variable {G : Nat → AV}
theorem clone_api_Item (rows : List (List V)) (hu : UL 10 rows) (hx : rows.length ≤ 1000000) : PCall Tryz.prog G 41 [.one (.v (.sl rows))] (.one (.v (.sl rows))) := by
  refine pcallc mixed Tryz.func41 ac_slices_Clone_api_Item ?_
  repeat' (first | (with_reducible first | refine Cn (fun h => ?_) fun h => ?_ | refine And.intro ?_ ?_ | refine wR ?_ | exact wr _ _ | refine wa ?_ | apply awp_join | refine q (cases q) ?_ | refine qd (cases q) ?_ | refine qz (cases q) ?_) | (intro q hq) | (with_reducible refine CallZ.z ?_) | simp -dsimp [go_sem])
  all_goals first | omega | exact hu | exact hu _ ‹_› | simp_all
theorem cli_ul (l : List Cli) : UL 7 (clR l) := by
  intro r hr
  obtain ⟨y, _, rfl⟩ := List.mem_map.1 hr
  rfl
theorem copyOf_c (m : Mach) (h1 : m.sto.Small) (h2 : m.clis.length ≤ 1000000) (h3 : ∀ x ∈ m.clis, x.reply.list.length ≤ 1000) : PCall Tryz.prog G 42 [.agg m.c] (.agg m.c) := by
  obtain ⟨⟨now, l⟩, nx, cl⟩ := m
  obtain ⟨s1, s2⟩ := h1
  simp only at s1 s2 h2 h3
  have hul := ul_e l
  have hcu := cli_ul cl
  have hel : (eR l).length = l.length := by simp
  have hcl : (clR cl).length = cl.length := by simp
  simp only [Mach.c, Sto.c, List.cons_append, List.nil_append]
  refine pcallc mixed Tryz.func42 ac_crew_copyOf ?_
  repeat' (first | (with_reducible first | refine Cn (fun h => ?_) fun h => ?_ | refine And.intro ?_ ?_ | refine wR ?_ | exact wr _ _ | refine weak_autoC ?_ | apply awp_join) | (with_reducible refine CallZ.z ?_) | simp -dsimp [go_sem, clean_nil, clean_cons, clean_yes, clean_no])
  refine awp_loop (fun i : Nat => ⟨[(1, .one (.ptr 0 0)), (2, .one (.ptr 1 0)), (3, .one (.ptr 2 0)), (18, .one (.v (.sl (eR l)))), (19, iV l.length), (20, iV i)], G, [some (.box 53 [iC now, .v (.sl (eR l)), iC nx, .v (.sl (clR cl))]), some (.box 53 [iC 0, .nil, iC 0, .nil]), some (.box 53 [iC now, .ar 3, iC nx, .nil]), some (.arr 93 8 (accE l i))]⟩) (fun i => i ≤ l.length) (fun i => l.length - i) 0 (Weak.trans (weak_thaw 2 1 93 8 rfl rfl (by omega)) (weak_auto ?_)) (Nat.zero_le _) ?_
  · simp -dsimp [go_sem, accE_zero]
  · intro i hi
    by_cases hlt : i < l.length
    · obtain ⟨e, he⟩ : ∃ e, l[i]? = some e := ⟨_, List.getElem?_eq_getElem hlt⟩
      have e4 : IntKind.i64.wrap ((i : Int) + 1) = (i : Int) + 1 := IntWalk.i64_in _ (by omega)
      have q1 : decide (i < l.length) = true := by simpa using hlt
      have q1' : decide ((i : Int) < (l.length : Int)) = true := decide_eq_true (by omega)
      obtain ⟨v1, v2, v3⟩ := s2 e (List.mem_of_getElem? he)
      have hrl := accE_len l hi
      have hsu := accE_succ he
      have hul1 : UL 8 [e.row] := fun r hr => by simp at hr; subst hr; rfl
      have hag : i + 1 ≤ l.length := hlt
      obtain ⟨key, ⟨vk, vt, vn, vp, vi, vs⟩, till⟩ := e
      simp only at v1 v2 v3
      have c1 := clone_api_Pair (G := G) (pR vp) (ul_p vp) (by simp; omega)
      have c2 := clone_string (G := G) (strRows vi) (ul_i vi) (by simp; omega)
      have c3 := clone_api_Score (G := G) (sR vs) (ul_s vs) (by simp; omega)
      simp only [Ent.row] at hsu hul1
      repeat' (first | (with_reducible first | refine Cn (fun h => ?_) fun h => ?_ | refine And.intro ?_ ?_ | refine wR ?_ | exact wr _ _ | refine weak_autoC ?_ | apply awp_join | refine q c1 ?_ | refine qd c1 ?_ | refine qz c1 ?_ | refine q c2 ?_ | refine qd c2 ?_ | refine qz c2 ?_ | refine q c3 ?_ | refine qd c3 ?_ | refine qz c3 ?_) | (with_reducible refine CallZ.z ?_) | simp -dsimp [go_sem, he, Ent.row, e4, q1, q1', hrl, clean_nil, clean_cons, clean_yes, clean_no])
      all_goals first
        | omega
        | exact hul1
        | (refine Again.auto (i + 1) ?_ hag (by omega)
           simp -dsimp [go_sem, hsu]; done)
        | trace_state
    · have q1 : decide (i < l.length) = false := by simpa using hlt
      have q1' : decide ((i : Int) < (l.length : Int)) = false := decide_eq_false (by omega)
      have hn := accE_all l (i := i) (by omega)
      rw [hn]
      repeat' (first | (with_reducible first | refine Cn (fun h => ?_) fun h => ?_ | refine And.intro ?_ ?_ | refine wR ?_ | exact wr _ _ | refine weak_autoC ?_ | apply awp_join) | (with_reducible refine CallZ.z ?_) | simp -dsimp [go_sem, q1, q1', clean_nil, clean_cons, clean_yes, clean_no])
      refine awp_loop (fun i : Nat => ⟨[(1, .one (.ptr 0 0)), (2, .one (.ptr 1 0)), (3, .one (.ptr 2 0)), (53, .one (.v (.sl (clR cl)))), (54, iV cl.length), (55, iV i)], G, [some (.box 53 [iC now, .v (.sl (eR l)), iC nx, .v (.sl (clR cl))]), some (.box 53 [iC 0, .nil, iC 0, .nil]), some (.box 53 [iC now, .ar 3, iC nx, .ar 4]), some (.arr 93 8 (eR l)), some (.arr 134 7 (accC cl i))]⟩) (fun i => i ≤ cl.length) (fun i => cl.length - i) 0 (Weak.trans (weak_thaw 2 3 134 7 rfl rfl (by omega)) (weak_auto ?_)) (Nat.zero_le _) ?_
      · simp -dsimp [go_sem, accC_zero]
      · intro i hi
        by_cases hlt : i < cl.length
        · obtain ⟨e, he⟩ : ∃ e, cl[i]? = some e := ⟨_, List.getElem?_eq_getElem hlt⟩
          have e4 : IntKind.i64.wrap ((i : Int) + 1) = (i : Int) + 1 := IntWalk.i64_in _ (by omega)
          have q1 : decide (i < cl.length) = true := by simpa using hlt
          have q1' : decide ((i : Int) < (cl.length : Int)) = true := decide_eq_true (by omega)
          have v1 := h3 e (List.mem_of_getElem? he)
          have hrl := accC_len cl hi
          have hsu := accC_succ he
          have hul1 : UL 7 [e.row] := fun r hr => by simp at hr; subst hr; rfl
          have hag : i + 1 ≤ cl.length := hlt
          obtain ⟨x1, x2, x3, ⟨x4, x5, x6, x7⟩⟩ := e
          simp only at v1
          have c2 := clone_string (G := G) (strRows x7) (ul_i x7) (by simp; omega)
          simp only [Cli.row] at hsu hul1
          repeat' (first | (with_reducible first | refine Cn (fun h => ?_) fun h => ?_ | refine And.intro ?_ ?_ | refine wR ?_ | exact wr _ _ | refine weak_autoC ?_ | apply awp_join | refine q c2 ?_ | refine qd c2 ?_ | refine qz c2 ?_) | (with_reducible refine CallZ.z ?_) | simp -dsimp [go_sem, he, Cli.row, e4, q1, q1', hrl, clean_nil, clean_cons, clean_yes, clean_no])
          all_goals first
            | omega
            | exact hul1
            | (refine Again.auto (i + 1) ?_ hag (by omega)
               simp -dsimp [go_sem, hsu]; done)
            | trace_state
        · have q1 : decide (i < cl.length) = false := by simpa using hlt
          have q1' : decide ((i : Int) < (cl.length : Int)) = false := decide_eq_false (by omega)
          have hn := accC_all cl (i := i) (by omega)
          rw [hn]
          repeat' (first | (with_reducible first | refine Cn (fun h => ?_) fun h => ?_ | refine And.intro ?_ ?_ | refine wR ?_ | exact wr _ _ | refine weak_autoC ?_ | apply awp_join) | (with_reducible refine CallZ.z ?_) | simp -dsimp [go_sem, q1, q1', clean_nil, clean_cons, clean_yes, clean_no])
          all_goals first | omega | trace_state
end Go.Proofs.YtkkleopmambcnaaGreatDoor
set_option linter.unusedVariables false
set_option linter.unusedSimpArgs false
set_option maxRecDepth 100000
set_option maxHeartbeats 8000000
namespace Go.Proofs.YtkkleopmambcnaaGreatDoor
open Go Go.RowKit Go.Proofs.AE
variable {G : Nat → AV}
theorem msg_ul (l : List Msg) : UL 15 (l.map Msg.row) := by
  intro r hr
  obtain ⟨y, _, rfl⟩ := List.mem_map.1 hr
  rfl
theorem out_thaw {k : Nat} {hp hp2 : Hp} {r r2 : AV} (b o e m : Nat) {t : TypeId} {cs : List C} (h1 : hp[b]? = some (some (.box t cs))) (h2 : cs[o]? = some .nil) (hm : 0 < m)
    (h : Out k (hp.set b (some (.box t (cs.set o (.ar hp.length)))) ++ [some (.arr e m [])]) r hp2 r2) : Out k hp r hp2 r2 := by
  intro w ok μ x hr hv
  have s := hr_thaw (e := e) hr h1 h2 hm
  obtain ⟨ok', μ', f, hv'⟩ := h w ok _ x s.hr (hv.ext s.ext)
  exact ⟨ok', μ', s.far.trans f, hv'⟩
def nilAt (hp : Hp) (o j : Nat) : Hp := match hp with
  | some (.box t cs) :: r => some (.box t (cs.set o .nil)) :: r.set j none
  | h => h
theorem send_0 (c : Crw) (to : Int) (m : Msg) (hl : c.n0.out.length ≤ 300) : DetCall Tryz.prog G 119 7 c.hp [.one (.ptr 0 (33 * 0)), iV to, .agg m.c] (.tup []) ({ c with n0 := c.n0.send to m } : Crw).hp := by
  have hul := msg_ul c.n0.out
  have hle : (c.n0.out.map Msg.row).length ≤ 300 := by simpa using hl
  simp only [Nd.send] at *
  by_cases h : c.n0.out.length < 300
  · have q1 : decide ((c.n0.out.length : Int) < 300) = true := decide_eq_true (by omega)
    rw [if_pos h]
    simp only [Crw.hp, Nd.cs, Msg.c, List.cons_append, List.nil_append]
    refine gcallc mixed Tryz.func119 ac_crew_node_send ?_
    repeat' (first | (with_reducible first | refine Cn (fun h => ?_) fun h => ?_ | refine And.intro ?_ ?_ | refine wR ?_ | exact wr _ _ | refine wa ?_ | apply awp_join) | (exact ul_one rfl) | (with_reducible refine CallZ.z ?_) | simp -dsimp [go_sem, hul, hle, q1, Msg.row])
    all_goals first | omega | trace_state
  · have q1 : decide ((c.n0.out.length : Int) < 300) = false := decide_eq_false (by omega)
    rw [if_neg h]
    simp only [Crw.hp, Nd.cs, Msg.c, List.cons_append, List.nil_append]
    refine gcallc mixed Tryz.func119 ac_crew_node_send ?_
    repeat' (first | (with_reducible first | refine Cn (fun h => ?_) fun h => ?_ | refine And.intro ?_ ?_ | refine wR ?_ | exact wr _ _ | refine wa ?_ | apply awp_join) | (exact ul_one rfl) | (with_reducible refine CallZ.z ?_) | simp -dsimp [go_sem, hul, hle, q1, Msg.row])
    all_goals first | omega | trace_state
end Go.Proofs.YtkkleopmambcnaaGreatDoor
set_option linter.unusedVariables false
set_option linter.unusedSimpArgs false
set_option maxRecDepth 100000
set_option maxHeartbeats 8000000
namespace Go.Proofs.YtkkleopmambcnaaGreatDoor
open Go Go.RowKit Go.Proofs.AE
variable {G : Nat → AV}
theorem zeroM_sm : (zeroM).sto.Small ∧ (zeroM).clis.length ≤ 1000000 := ⟨⟨by decide, fun e he => by cases he⟩, by decide⟩
theorem decM_small (l : List UInt8) : (decM l).1.sto.Small ∧ (decM l).1.clis.length ≤ 1000000 := by
  unfold decM
  split
  · exact zeroM_sm
  · split
    · exact zeroM_sm
    · split
      · exact zeroM_sm
      · exact mach_small _
theorem appendBad_c (d : List UInt8) (s : Int) (r : Rcd) (h : TOk d s) (h1 : r.mach.sto.Small) (h2 : r.mach.clis.length ≤ 1000000) (he : checkRc r ≠ 0) : PCall Tryz.prog G 156 [.agg (tpC d s), .agg r.c] (.tup [.agg [.v (.sl []), iC 0], iV (checkRc r)]) := by
  have ho := topen_c (G := G) d s h
  have hc := checkRc_c (G := G) r h1 h2
  have q1 : (checkRc r != 0) = true := by simpa using he
  generalize checkRc r = v at *
  obtain ⟨k, t, f, ix, ⟨xt, xm, xn, xc, xs, xk, xa, xb, xd, xx⟩, si, st, ⟨⟨mn, me⟩, mx, mc⟩⟩ := r
  simp only [tpC, Rcd.c] at *
  generalize bR d = R at *
  refine pcallc mixed Tryz.func156 ac_tape_Append ?_
  repeat' (first | (with_reducible first | refine Cn (fun h => ?_) fun h => ?_ | refine And.intro ?_ ?_ | refine wR ?_ | exact wr _ _ | refine wa ?_ | apply awp_join | refine q ho ?_ | refine qd ho ?_ | refine qz ho ?_ | refine q hc ?_ | refine qd hc ?_ | refine qz hc ?_) | (with_reducible refine CallZ.z ?_) | simp -dsimp [go_sem, q1])
  all_goals trace_state
theorem appendFull_c (d : List UInt8) (s : Int) (r : Rcd) (h : TOk d s) (h1 : r.mach.sto.Small) (h2 : r.mach.clis.length ≤ 1000000) (he : checkRc r = 0) (hf : 400000 < d.length + 3 + (encRc r).length) : PCall Tryz.prog G 156 [.agg (tpC d s), .agg r.c] (.tup [.agg [.v (.sl []), iC 0], iV 6]) := by
  have hle := h.le
  have ho := topen_c (G := G) d s h
  have hc := checkRc_c (G := G) r h1 h2
  have hen := tencode_c (G := G) r he
  have hel := (enc_len he).2
  rw [he] at hc
  have hl := bR_len d
  have hl2 := bR_len (encRc r)
  have w1 : IntKind.i64.wrap ((d.length : Int) + 3) = (d.length : Int) + 3 := IntWalk.i64_in _ (by omega)
  have w2 : IntKind.i64.wrap ((d.length : Int) + 3 + (encRc r).length) = (d.length : Int) + 3 + (encRc r).length := IntWalk.i64_in _ (by omega)
  have q1 : decide (400000 < (d.length : Int) + 3 + (encRc r).length) = true := decide_eq_true (by omega)
  clear he
  generalize encRc r = b at *
  obtain ⟨k, t, f, ix, ⟨xt, xm, xn, xc, xs, xk, xa, xb, xd, xx⟩, si, st, ⟨⟨mn, me⟩, mx, mc⟩⟩ := r
  simp only [tpC, Rcd.c] at *
  generalize bR d = R at *
  generalize bR b = B at *
  refine pcallc mixed Tryz.func156 ac_tape_Append ?_
  repeat' (first | (with_reducible first | refine Cn (fun h => ?_) fun h => ?_ | refine And.intro ?_ ?_ | refine wR ?_ | exact wr _ _ | refine wa ?_ | apply awp_join | refine q ho ?_ | refine qd ho ?_ | refine qz ho ?_ | refine q hc ?_ | refine qd hc ?_ | refine qz hc ?_ | refine q hen ?_ | refine qd hen ?_ | refine qz hen ?_) | (with_reducible refine CallZ.z ?_) | simp -dsimp [go_sem, hl, hl2, w1, w2, q1])
  all_goals trace_state
theorem append_c (d : List UInt8) (s : Int) (r : Rcd) (h : TOk d s) (h1 : r.mach.sto.Small) (h2 : r.mach.clis.length ≤ 1000000) (he : checkRc r = 0) (hf : d.length + 3 + (encRc r).length ≤ 400000) : PCall Tryz.prog G 156 [.agg (tpC d s), .agg r.c] (.tup [.agg (tpC (d ++ frameB r) s), iV 0]) := by
  have hle := h.le
  have ho := topen_c (G := G) d s h
  have hc := checkRc_c (G := G) r h1 h2
  have hen := tencode_c (G := G) r he
  rw [he] at hc
  have hl := bR_len d
  have hl2 := bR_len (encRc r)
  have w1 : IntKind.i64.wrap ((d.length : Int) + 3) = (d.length : Int) + 3 := IntWalk.i64_in _ (by omega)
  have w2 : IntKind.i64.wrap ((d.length : Int) + 3 + (encRc r).length) = (d.length : Int) + 3 + (encRc r).length := IntWalk.i64_in _ (by omega)
  have q1 : decide (400000 < (d.length : Int) + 3 + (encRc r).length) = false := decide_eq_false (by omega)
  have ht := three_c (G := G) ((encRc r).length : Int)
  have hcc := concat_c (G := G) [d, threeB (encRc r).length, encRc r] (by simp) (by unfold sumL threeB; simp; omega)
  have e2 : bL [d, threeB (encRc r).length, encRc r] = [[.sl (bR d)], [.sl (bR (threeB (encRc r).length))], [.sl (bR (encRc r))]] := rfl
  have e3 : [d, threeB (encRc r).length, encRc r].flatten = d ++ frameB r := by unfold frameB; simp
  rw [e2, e3] at hcc
  clear he e2 e3
  generalize d ++ frameB r = o at *
  generalize threeB (encRc r).length = T at *
  generalize encRc r = b at *
  obtain ⟨k, t, f, ix, ⟨xt, xm, xn, xc, xs, xk, xa, xb, xd, xx⟩, si, st, ⟨⟨mn, me⟩, mx, mc⟩⟩ := r
  simp only [tpC, Rcd.c] at *
  generalize bR d = R at *
  generalize bR b = B at *
  generalize bR T = T at *
  generalize bR o = O at *
  refine pcallc mixed Tryz.func156 ac_tape_Append ?_
  repeat' (first | (with_reducible first | refine Cn (fun h => ?_) fun h => ?_ | refine And.intro ?_ ?_ | refine wR ?_ | exact wr _ _ | refine weak_autoC ?_ | apply awp_join | refine q ho ?_ | refine qd ho ?_ | refine qz ho ?_ | refine q hc ?_ | refine qd hc ?_ | refine qz hc ?_ | refine q hen ?_ | refine qd hen ?_ | refine qz hen ?_ | refine q ht ?_ | refine qd ht ?_ | refine qz ht ?_ | refine q hcc ?_ | refine qd hcc ?_ | refine qz hcc ?_) | (with_reducible refine CallZ.z ?_) | simp -dsimp [go_sem, hl, hl2, w1, w2, q1, clean_nil, clean_cons, clean_yes, clean_no])
  all_goals trace_state
theorem dec_none {b : List UInt8} (h1 : ¬ (b.length = 5 ∧ b[0]? = some 1)) (h2 : ¬ (4 < b.length ∧ b[0]? = some 2)) (h3 : ¬ (7 < b.length ∧ b[0]? = some 3)) : decRc b = (zeroRc, false) := by
  unfold decRc
  split
  · exact absurd ⟨rfl, rfl⟩ h1
  · rename_i t
    by_cases ht : t = []
    · rw [if_pos ht]
    · exact absurd ⟨by cases t with | nil => exact absurd rfl ht | cons a t => simp, rfl⟩ h2
  · rename_i t
    by_cases ht : t = []
    · rw [if_pos ht]
    · exact absurd ⟨by cases t with | nil => exact absurd rfl ht | cons a t => simp, rfl⟩ h3
  · rfl
theorem tdecode_c (b : List UInt8) (hb : b.length ≤ 400000) : PCall Tryz.prog G 162 [.one (.v (.sl (bR b)))] (.tup [.agg (decRc b).1.c, bV (decRc b).2]) := by
  by_cases hA : b.length = 5 ∧ b[0]? = some 1
  · obtain ⟨x, y, z, f, rfl⟩ : ∃ x y z f, b = [1, x, y, z, f] := by
      match b, hA with
      | [a, x, y, z, f], ⟨_, h⟩ => exact ⟨x, y, z, f, by simp at h; rw [h]⟩
    have e : decRc [1, x, y, z, f] = (markRc (valB3 x y z) ((f.toNat : Int) - 1), checkRc (markRc (valB3 x y z) ((f.toNat : Int) - 1)) == 0) := rfl
    rw [e]
    have c1 := value3_c (G := G) x y z [f]
    have c2 := checkRc_c (G := G) (markRc (valB3 x y z) ((f.toNat : Int) - 1)) zeroM_sm.1 zeroM_sm.2
    have hf := f.toNat_lt
    have w1 : IntKind.i64.wrap (f.toNat : Int) = f.toNat := IntWalk.i64_in _ (by omega)
    have w2 : IntKind.i64.wrap ((f.toNat : Int) - 1) = (f.toNat : Int) - 1 := IntWalk.i64_in _ (by omega)
    generalize checkRc (markRc (valB3 x y z) ((f.toNat : Int) - 1)) = v at *
    generalize valB3 x y z = N at *
    obtain ⟨B, hB⟩ : ∃ B, bR [1, x, y, z, f] = B := ⟨_, rfl⟩
    have hul : UL 1 B := by rw [← hB]; exact bR_ul _
    have hl : B.length = 5 := by rw [← hB]; rfl
    have g0 : B[0]? = some [.lit (.int .u8 1)] := by rw [← hB]; rfl
    have g4 : B[4]? = some [.lit (.int .u8 (f.toNat : Int))] := by rw [← hB]; rfl
    have g0b : ∀ h : 0 < B.length, B[0]'h = [.lit (.int .u8 1)] := fun h => by have e := g0; rw [List.getElem?_eq_getElem h] at e; exact Option.some.inj e
    have g4b : ∀ h : 4 < B.length, B[4]'h = [.lit (.int .u8 (f.toNat : Int))] := fun h => by have e := g4; rw [List.getElem?_eq_getElem h] at e; exact Option.some.inj e
    have s1 : B.take 5 = B := List.take_of_length_le (by omega)
    have d1 : B.tail = bR [x, y, z, f] := by rw [← hB]; rfl
    have d2 : B.drop 1 = bR [x, y, z, f] := by rw [← hB]; rfl
    rw [hB]
    generalize bR [x, y, z, f] = R1 at *
    clear hB e hA
    simp only [markRc, Rcd.c, zeroItem, zeroM, zeroS, List.map_nil] at *
    refine pcallc mixed Tryz.func162 ac_tape_decode ?_
    repeat' (first | (with_reducible first | refine Cn (fun h => ?_) fun h => ?_ | refine And.intro ?_ ?_ | refine wR ?_ | exact wr _ _ | refine wa ?_ | apply awp_join | refine q c1 ?_ | refine qd c1 ?_ | refine qz c1 ?_ | refine q c2 ?_ | refine qd c2 ?_ | refine qz c2 ?_) | (with_reducible refine CallZ.z ?_) | simp -dsimp [go_sem, w1, w2, hul, hl, g0, g4, g0b, g4b, s1, d1, d2])
    all_goals first | omega | trace_state
  · by_cases hB : 4 < b.length ∧ b[0]? = some 2
    · obtain ⟨x, y, z, t, ht, rfl⟩ : ∃ x y z t, t ≠ [] ∧ b = 2 :: x :: y :: z :: t := by
        match b, hB with
        | a :: x :: y :: z :: g :: t, ⟨_, h⟩ => exact ⟨x, y, z, g :: t, by simp, by simp at h; rw [h]⟩
      obtain ⟨r, hr⟩ : ∃ r : Rcd, r = ⟨2, 0, 0, valB3 x y z, (decItem t).1, 0, 0, zeroM⟩ := ⟨_, rfl⟩
      have e : decRc (2 :: x :: y :: z :: t) = (r, (decItem t).2 == 0 && checkRc r == 0) := by
        show (if t = [] then (zeroRc, false) else _) = _
        rw [if_neg ht, hr]
      rw [e]
      have c1 := value3_c (G := G) x y z t
      have c2 := checkRc_c (G := G) r (by rw [hr]; exact zeroM_sm.1) (by rw [hr]; exact zeroM_sm.2)
      have c3 := decodeItem_c (G := G) t
      generalize checkRc r = v at *
      subst hr
      generalize valB3 x y z = N at *
      generalize decItem t = q at *
      obtain ⟨⟨xt, xm, xn, xc, xs, xk, xa, xb, xd, xx⟩, w⟩ := q
      obtain ⟨B, hBe⟩ : ∃ B, bR (2 :: x :: y :: z :: t) = B := ⟨_, rfl⟩
      obtain ⟨n, hn⟩ : ∃ n, (2 :: x :: y :: z :: t).length = n := ⟨_, rfl⟩
      have hul : UL 1 B := by rw [← hBe]; exact bR_ul _
      have hl : B.length = n := by rw [← hBe, bR_len, hn]
      have g0 : B[0]? = some [.lit (.int .u8 2)] := by rw [← hBe]; rfl
      have s1 : B.take n = B := List.take_of_length_le (by omega)
      have d1 : B.tail = bR (x :: y :: z :: t) := by rw [← hBe]; rfl
      have d2 : B.drop 1 = bR (x :: y :: z :: t) := by rw [← hBe]; rfl
      have d4 : B.drop 4 = bR t := by rw [← hBe]; rfl
      have hn4 : 4 < n := by rw [← hn]; exact hB.1
      have q4 : decide (4 < (n : Int)) = true := decide_eq_true (by omega)
      rw [hBe]
      generalize bR (x :: y :: z :: t) = R1 at *
      generalize bR t = T at *
      clear e hA hB hBe hn
      simp only [Rcd.c, zeroM, zeroS, Item.row, List.map_cons, List.map_nil] at *
      by_cases hw : w = 0
      · subst hw
        refine pcallc mixed Tryz.func162 ac_tape_decode ?_
        repeat' (first | (with_reducible first | refine Cn (fun h => ?_) fun h => ?_ | refine And.intro ?_ ?_ | refine wR ?_ | exact wr _ _ | refine wa ?_ | apply awp_join | refine q c1 ?_ | refine qd c1 ?_ | refine qz c1 ?_ | refine q c2 ?_ | refine qd c2 ?_ | refine qz c2 ?_ | refine q c3 ?_ | refine qd c3 ?_ | refine qz c3 ?_) | (with_reducible refine CallZ.z ?_) | simp -dsimp [go_sem, hul, hl, g0, s1, d1, d2, d4, q4])
        all_goals first | omega | trace_state
      · have q0 : (w == 0) = false := by simpa using hw
        refine pcallc mixed Tryz.func162 ac_tape_decode ?_
        repeat' (first | (with_reducible first | refine Cn (fun h => ?_) fun h => ?_ | refine And.intro ?_ ?_ | refine wR ?_ | exact wr _ _ | refine wa ?_ | apply awp_join | refine q c1 ?_ | refine qd c1 ?_ | refine qz c1 ?_ | refine q c2 ?_ | refine qd c2 ?_ | refine qz c2 ?_ | refine q c3 ?_ | refine qd c3 ?_ | refine qz c3 ?_) | (with_reducible refine CallZ.z ?_) | simp -dsimp [go_sem, hul, hl, g0, s1, d1, d2, d4, q4, q0])
        all_goals first | omega | trace_state
    · by_cases hC : 7 < b.length ∧ b[0]? = some 3
      · obtain ⟨x, y, z, x2, y2, z2, t, ht, rfl⟩ : ∃ x y z x2 y2 z2 t, t ≠ [] ∧ b = 3 :: x :: y :: z :: x2 :: y2 :: z2 :: t := by
          match b, hC with
          | a :: x :: y :: z :: x2 :: y2 :: z2 :: g :: t, ⟨_, h⟩ => exact ⟨x, y, z, x2, y2, z2, g :: t, by simp, by simp at h; rw [h]⟩
        obtain ⟨r, hr⟩ : ∃ r : Rcd, r = ⟨3, 0, 0, 0, zeroItem, valB3 x y z, valB3 x2 y2 z2, (decM t).1⟩ := ⟨_, rfl⟩
        have e : decRc (3 :: x :: y :: z :: x2 :: y2 :: z2 :: t) = (r, (decM t).2 == 0 && checkRc r == 0) := by
          show (if t = [] then (zeroRc, false) else _) = _
          rw [if_neg ht, hr]
        rw [e]
        have c1 := value3_c (G := G) x y z (x2 :: y2 :: z2 :: t)
        have c1b := value3_c (G := G) x2 y2 z2 t
        have c2 := checkRc_c (G := G) r (by rw [hr]; exact (decM_small t).1) (by rw [hr]; exact (decM_small t).2)
        have c3 := decode_c (G := G) t
        generalize checkRc r = v at *
        subst hr
        generalize valB3 x y z = N at *
        generalize valB3 x2 y2 z2 = N2 at *
        generalize decM t = q at *
        obtain ⟨⟨⟨mn, me⟩, mx, mc⟩, w⟩ := q
        obtain ⟨B, hBe⟩ : ∃ B, bR (3 :: x :: y :: z :: x2 :: y2 :: z2 :: t) = B := ⟨_, rfl⟩
        obtain ⟨n, hn⟩ : ∃ n, (3 :: x :: y :: z :: x2 :: y2 :: z2 :: t).length = n := ⟨_, rfl⟩
        have hul : UL 1 B := by rw [← hBe]; exact bR_ul _
        have hl : B.length = n := by rw [← hBe, bR_len, hn]
        have g0 : B[0]? = some [.lit (.int .u8 3)] := by rw [← hBe]; rfl
        have s1 : B.take n = B := List.take_of_length_le (by omega)
        have d1 : B.tail = bR (x :: y :: z :: x2 :: y2 :: z2 :: t) := by rw [← hBe]; rfl
        have d2 : B.drop 1 = bR (x :: y :: z :: x2 :: y2 :: z2 :: t) := by rw [← hBe]; rfl
        have d4 : B.drop 4 = bR (x2 :: y2 :: z2 :: t) := by rw [← hBe]; rfl
        have d7 : B.drop 7 = bR t := by rw [← hBe]; rfl
        have hn7 : 7 < n := by rw [← hn]; exact hC.1
        have q5 : ((n : Int) == 5) = false := by rw [beq_eq_false_iff_ne]; omega
        have q4 : decide (4 < (n : Int)) = true := decide_eq_true (by omega)
        have q7 : decide (7 < (n : Int)) = true := decide_eq_true (by omega)
        rw [hBe]
        generalize bR (x :: y :: z :: x2 :: y2 :: z2 :: t) = R1 at *
        generalize bR (x2 :: y2 :: z2 :: t) = R2 at *
        generalize bR t = T at *
        clear e hA hB hC hBe hn
        simp only [Rcd.c, zeroItem, Mach.c, List.map_nil] at *
        by_cases hw : w = 0
        · subst hw
          refine pcallc mixed Tryz.func162 ac_tape_decode ?_
          repeat' (first | (with_reducible first | refine Cn (fun h => ?_) fun h => ?_ | refine And.intro ?_ ?_ | refine wR ?_ | exact wr _ _ | refine wa ?_ | apply awp_join | refine q c1 ?_ | refine qd c1 ?_ | refine qz c1 ?_ | refine q c1b ?_ | refine qd c1b ?_ | refine qz c1b ?_ | refine q c2 ?_ | refine qd c2 ?_ | refine qz c2 ?_ | refine q c3 ?_ | refine qd c3 ?_ | refine qz c3 ?_) | (with_reducible refine CallZ.z ?_) | simp -dsimp [go_sem, hul, hl, g0, s1, d1, d2, d4, d7, q4, q5, q7])
          all_goals first | omega | trace_state
        · have q0 : (w == 0) = false := by simpa using hw
          refine pcallc mixed Tryz.func162 ac_tape_decode ?_
          repeat' (first | (with_reducible first | refine Cn (fun h => ?_) fun h => ?_ | refine And.intro ?_ ?_ | refine wR ?_ | exact wr _ _ | refine wa ?_ | apply awp_join | refine q c1 ?_ | refine qd c1 ?_ | refine qz c1 ?_ | refine q c1b ?_ | refine qd c1b ?_ | refine qz c1b ?_ | refine q c2 ?_ | refine qd c2 ?_ | refine qz c2 ?_ | refine q c3 ?_ | refine qd c3 ?_ | refine qz c3 ?_) | (with_reducible refine CallZ.z ?_) | simp -dsimp [go_sem, hul, hl, g0, s1, d1, d2, d4, d7, q4, q5, q7, q0])
          all_goals first | omega | trace_state
      · rw [dec_none hA hB hC]
        simp only [zeroRc, Rcd.c, zeroItem, zeroM, zeroS, List.map_nil]
        cases b with
        | nil =>
          simp only [show bR [] = [] from rfl]
          refine pcallc mixed Tryz.func162 ac_tape_decode ?_
          repeat' (first | (with_reducible first | refine Cn (fun h => ?_) fun h => ?_ | refine And.intro ?_ ?_ | refine wR ?_ | exact wr _ _ | refine wa ?_ | apply awp_join) | (with_reducible refine CallZ.z ?_) | simp -dsimp [go_sem])
          all_goals trace_state
        | cons c t =>
          have hl := bR_len t
          have hcl := c.toNat_lt
          have k1 : ((c.toNat : Int) == 1) = decide (c = 1) := by
            by_cases h : c = 1
            · subst h; rfl
            · have : c.toNat ≠ 1 := fun e => h (UInt8.toNat_inj.1 e)
              simp [h]; omega
          have k2 : ((c.toNat : Int) == 2) = decide (c = 2) := by
            by_cases h : c = 2
            · subst h; rfl
            · have : c.toNat ≠ 2 := fun e => h (UInt8.toNat_inj.1 e)
              simp [h]; omega
          have k3 : ((c.toNat : Int) == 3) = decide (c = 3) := by
            by_cases h : c = 3
            · subst h; rfl
            · have : c.toNat ≠ 3 := fun e => h (UInt8.toNat_inj.1 e)
              simp [h]; omega
          simp only [List.length_cons, List.getElem?_cons_zero, Option.some.injEq] at hA hB hC
          simp only [bR_cons]
          obtain ⟨A, hAe⟩ : ∃ A : Bool, ((t.length : Int) + 1 == 5) = A := ⟨_, rfl⟩
          obtain ⟨B, hBe⟩ : ∃ B : Bool, decide (4 < (t.length : Int) + 1) = B := ⟨_, rfl⟩
          obtain ⟨D, hDe⟩ : ∃ D : Bool, decide (7 < (t.length : Int) + 1) = D := ⟨_, rfl⟩
          have nA : (A && decide (c = 1)) = false := by
            cases A with
            | false => rfl
            | true => have : t.length + 1 = 5 := by have := eq_of_beq hAe; omega
                      simp; exact fun h => hA ⟨this, h⟩
          have nB : (B && decide (c = 2)) = false := by
            cases B with
            | false => rfl
            | true => have : 4 < t.length + 1 := by have := of_decide_eq_true hBe; omega
                      simp; exact fun h => hB ⟨this, h⟩
          have nD : (D && decide (c = 3)) = false := by
            cases D with
            | false => rfl
            | true => have : 7 < t.length + 1 := by have := of_decide_eq_true hDe; omega
                      simp; exact fun h => hC ⟨this, h⟩
          clear hA hB hC
          generalize bR t = T at *
          generalize decide (c = 1) = c1 at *
          generalize decide (c = 2) = c2 at *
          generalize decide (c = 3) = c3 at *
          cases A <;> cases B <;> cases D
          all_goals simp only [Bool.false_and, Bool.true_and] at nA nB nD
          all_goals
            try subst nA
            try subst nB
            try subst nD
          all_goals
            refine pcallc mixed Tryz.func162 ac_tape_decode ?_
            repeat' (first | (with_reducible first | refine Cn (fun h => ?_) fun h => ?_ | refine And.intro ?_ ?_ | refine wR ?_ | exact wr _ _ | refine wa ?_ | apply awp_join) | (with_reducible refine CallZ.z ?_) | simp -dsimp [go_sem, hl, hAe, hBe, hDe, k1, k2, k3])
          all_goals trace_state
end Go.Proofs.YtkkleopmambcnaaGreatDoor
set_option linter.unusedVariables false
set_option linter.unusedSimpArgs false
set_option maxRecDepth 100000
set_option maxHeartbeats 8000000
namespace Go.Proofs.YtkkleopmambcnaaGreatDoor
open Go Go.RowKit Go.Proofs.AE
variable {G : Nat → AV}
theorem recs_ul (l : List Rcd) : UL 20 (l.map Rcd.row) := by
  intro r hr
  obtain ⟨y, _, rfl⟩ := List.mem_map.1 hr
  rfl
theorem recGo_short {m : Nat} {l : List UInt8} (h : l.length < 3) : recGo m l = ([], 0) := by
  cases m with
  | zero => rfl
  | succ m =>
    match l, h with
    | [], _ => rfl
    | [_], _ => rfl
    | [_, _], _ => rfl
def recV (d : List UInt8) (s : Int) : AV := .tup [.one (.v (.sl ((recB d).1.map Rcd.row))), .agg [.v (.sl ((bR d).take (recB d).2)), iC (if ((recB d).2 : Int) < s then ((recB d).2 : Int) else s)], iV 0]
theorem recover_c (d : List UInt8) (s : Int) (h : TOk d s) : PCall Tryz.prog G 127 [.agg (tpC d s)] (recV d s) := by
  have hs0 := h.s0; have hs1 := h.s1; have hle := h.le
  have ho := topen_c (G := G) d s h
  have hl := bR_len d
  have hul := bR_ul d
  unfold recV
  obtain ⟨RB, hRB⟩ : ∃ q, recB d = q := ⟨_, rfl⟩
  rw [hRB]
  have hdrop : ∀ a, (bR d).drop a = bR (d.drop a) := fun a => bR_drop d a
  have hinit : RB = ([] ++ (recGo (d.length - 0) (d.drop 0)).1, 0 + (recGo (d.length - 0) (d.drop 0)).2) := by rw [← hRB]; simp [recB]
  simp only [tpC] at ho ⊢
  obtain ⟨D, hD⟩ : ∃ D, bR d = D := ⟨_, rfl⟩
  rw [hD] at ho hl hul hdrop ⊢
  refine pcallc mixed Tryz.func127 ac_tape_Recover ?_
  repeat' (first | (with_reducible first | refine Cn (fun h => ?_) fun h => ?_ | refine And.intro ?_ ?_ | refine wR ?_ | exact wr _ _ | refine wa ?_ | apply awp_join | refine q ho ?_ | refine qd ho ?_ | refine qz ho ?_) | (with_reducible refine CallZ.z ?_) | simp -dsimp [go_sem, hl])
  refine awp_loop (fun x : Nat × List Rcd => ⟨[(3, .one (.ptr 0 0)), (5, .one (.ptr 1 0)), (7, .one (.ar 2)), (8, iV x.1)], G, [some (.box 107 [.nil, iC 0]), some (.box 107 [.v (.sl D), iC s]), some (.arr 199 20 (x.2.map Rcd.row))]⟩)
    (fun x => x.1 ≤ d.length ∧ 3 * x.2.length ≤ x.1 ∧ RB = (x.2 ++ (recGo (d.length - x.2.length) (d.drop x.1)).1, x.1 + (recGo (d.length - x.2.length) (d.drop x.1)).2)) (fun x => d.length - x.1) (0, []) (Weak.trans (weak_nil 7 199 20 ?_ (by omega)) (weak_auto ?_)) ⟨Nat.zero_le _, by simp, hinit⟩ ?_
  · simp -dsimp [go_sem]
  · simp -dsimp [go_sem]
  · rintro ⟨a, R⟩ ⟨h1, h2, h3⟩
    simp only at h1 h2 h3
    have w1 : IntKind.i64.wrap ((a : Int) + 3) = (a : Int) + 3 := IntWalk.i64_in _ (by omega)
    have hexit : (recGo (d.length - R.length) (d.drop a)) = ([], 0) → RB = (R, a) := fun e => by rw [h3, e]; simp
    by_cases hc1 : a + 3 ≤ d.length
    · have q1 : decide ((a : Int) + 3 ≤ (d.length : Int)) = true := decide_eq_true (by omega)
      obtain ⟨x, y, z, t, ht⟩ : ∃ x y z t, d.drop a = x :: y :: z :: t := by
        have hl3 : 3 ≤ (d.drop a).length := by rw [List.length_drop]; omega
        match d.drop a, hl3 with
        | x :: y :: z :: t, _ => exact ⟨x, y, z, t, rfl⟩
      have htl : t.length = d.length - (a + 3) := by
        have := congrArg List.length ht
        rw [List.length_drop] at this; simp at this; omega
      have ht3 : d.drop (a + 3) = t := by
        rw [← List.drop_drop, ht]; rfl
      obtain ⟨m, hm⟩ : ∃ m, d.length - R.length = m + 1 := ⟨d.length - R.length - 1, by omega⟩
      rw [ht, hm] at h3 hexit
      have hx := x.toNat_lt; have hy := y.toNat_lt; have hz := z.toNat_lt
      have c1 := value3_c (G := G) x y z t
      have hda : D.drop a = bR (x :: y :: z :: t) := by rw [hdrop, ht]
      rw [← hda] at c1
      obtain ⟨N, hN⟩ : ∃ N : Nat, valB3 x y z = N := ⟨(valB3 x y z).toNat, by unfold valB3; omega⟩
      have hNb : N < 16777216 := by unfold valB3 at hN; omega
      have hgo : recGo (m + 1) (x :: y :: z :: t) = if (t.length : Int) < N then ([], 0) else if (decRc (t.take N)).2 = false then ([], 0) else ((decRc (t.take N)).1 :: (recGo m (t.drop N)).1, 3 + N + (recGo m (t.drop N)).2) := by
        simp only [recGo, hN, Int.toNat_natCast]
      rw [hgo] at h3 hexit
      rw [hN] at c1
      have w2 : IntKind.i64.wrap ((a : Int) + 3 + N) = (a : Int) + 3 + N := IntWalk.i64_in _ (by omega)
      have ht1 : D.take d.length = D := List.take_of_length_le (by rw [hl]; omega)
      by_cases hc2 : (t.length : Int) < N
      · have q2 : decide ((d.length : Int) < (a : Int) + 3 + N) = true := decide_eq_true (by omega)
        rw [hexit (by rw [if_pos hc2])]
        repeat' (first | (with_reducible first | refine Cn (fun h => ?_) fun h => ?_ | refine And.intro ?_ ?_ | refine wR ?_ | exact wr _ _ | refine wa ?_ | apply awp_join | refine q c1 ?_ | refine qd c1 ?_ | refine qz c1 ?_) | (with_reducible refine CallZ.z ?_) | simp -dsimp [go_sem, hl, hul, q1, q2, w1, w2, ht1])
        all_goals first | omega | trace_state
      · have q2 : decide ((d.length : Int) < (a : Int) + 3 + N) = false := decide_eq_false (by omega)
        rw [if_neg hc2] at h3 hexit
        have c2 := tdecode_c (G := G) (t.take N) (by rw [List.length_take]; omega)
        have hsl : (D.take (a + 3 + N)).drop (a + 3) = bR (t.take N) := by rw [List.drop_take, show a + 3 + N - (a + 3) = N by omega, hdrop, ht3, bR_take]
        rw [← hsl] at c2
        have hai : ((a : Int) + 3).toNat = a + 3 := by omega
        have hbi : ((a : Int) + 3 + N).toNat = a + 3 + N := by omega
        have hci : a + 3 + N - (a + 3) = N := by omega
        obtain ⟨r, ok⟩ : ∃ q : Rcd × Bool, True := ⟨(zeroRc, false), trivial⟩
        obtain ⟨q, hq⟩ : ∃ q, decRc (t.take N) = q := ⟨_, rfl⟩
        rw [hq] at c2 h3 hexit
        obtain ⟨r, ok⟩ := q
        simp only at c2 h3 hexit
        cases ok with
        | false =>
          rw [hexit (if_pos rfl)]
          obtain ⟨k, t', f, ix, ⟨xt, xm, xn, xc, xs, xk, xa, xb, xd, xx⟩, si, st, ⟨⟨mn, me⟩, mx, mc⟩⟩ := r
          simp only [Rcd.c] at c2
          repeat' (first | (with_reducible first | refine Cn (fun h => ?_) fun h => ?_ | refine And.intro ?_ ?_ | refine wR ?_ | exact wr _ _ | refine wa ?_ | apply awp_join | refine q c1 ?_ | refine qd c1 ?_ | refine qz c1 ?_ | refine q c2 ?_ | refine qd c2 ?_ | refine qz c2 ?_) | (with_reducible refine CallZ.z ?_) | simp -dsimp [go_sem, hl, hul, q1, q2, w1, w2, ht1, hai, hbi, hci])
          all_goals first | omega | trace_state
        | true =>
          rw [if_neg (by simp)] at h3
          have w3 : IntKind.i64.wrap (3 + (N : Int)) = 3 + (N : Int) := IntWalk.i64_in _ (by omega)
          have w4 : IntKind.i64.wrap ((a : Int) + (3 + (N : Int))) = ((a + 3 + N : Nat) : Int) := by rw [IntWalk.i64_in _ (by omega)]; omega
          have hRu := recs_ul R
          have hRl : (R.map Rcd.row).length = R.length := by simp
          have hag : a + 3 + N ≤ d.length ∧ 3 * (R ++ [r]).length ≤ a + 3 + N ∧ RB = ((R ++ [r]) ++ (recGo (d.length - (R ++ [r]).length) (d.drop (a + 3 + N))).1, a + 3 + N + (recGo (d.length - (R ++ [r]).length) (d.drop (a + 3 + N))).2) := by
            have e1 : d.length - (R ++ [r]).length = m := by simp; omega
            have e2 : d.drop (a + 3 + N) = t.drop N := by rw [← List.drop_drop, ht3]
            refine ⟨by omega, by simp; omega, ?_⟩
            rw [h3, e1, e2]
            simp; omega
          have hsu : (R ++ [r]).map Rcd.row = R.map Rcd.row ++ [r.row] := by simp
          obtain ⟨k, t', f, ix, ⟨xt, xm, xn, xc, xs, xk, xa, xb, xd, xx⟩, si, st, ⟨⟨mn, me⟩, mx, mc⟩⟩ := r
          simp only [Rcd.c] at c2
          simp only [Rcd.row] at hsu
          clear h3 hexit hgo hda ht ho
          repeat' (first | (with_reducible first | refine Cn (fun h => ?_) fun h => ?_ | refine And.intro ?_ ?_ | refine wR ?_ | exact wr _ _ | refine wa ?_ | apply awp_join | refine q c1 ?_ | refine qd c1 ?_ | refine qz c1 ?_ | refine q c2 ?_ | refine qd c2 ?_ | refine qz c2 ?_) | (with_reducible refine CallZ.z ?_) | simp -dsimp [go_sem, hl, hul, q1, q2, w1, w2, w3, w4, ht1, hai, hbi, hci, hRu, hRl])
          all_goals first
            | omega
            | (simp [UL]; done)
            | (refine Again.auto (a + 3 + N, R ++ [⟨k, t', f, ix, ⟨xt, xm, xn, xc, xs, xk, xa, xb, xd, xx⟩, si, st, ⟨⟨mn, me⟩, mx, mc⟩⟩]) ?_ hag ?_
               · simp -dsimp [go_sem, hsu]
               · show d.length - (a + 3 + N) < d.length - a; omega)
            | trace_state
    · have q1 : decide ((a : Int) + 3 ≤ (d.length : Int)) = false := decide_eq_false (by omega)
      rw [hexit (recGo_short (by rw [List.length_drop]; omega))]
      repeat' (first | (with_reducible first | refine Cn (fun h => ?_) fun h => ?_ | refine And.intro ?_ ?_ | refine wR ?_ | exact wr _ _ | refine wa ?_ | apply awp_join) | (with_reducible refine CallZ.z ?_) | simp -dsimp [go_sem, hl, hul, q1, w1])
      all_goals first | omega | trace_state
end Go.Proofs.YtkkleopmambcnaaGreatDoor
set_option linter.unusedVariables false
set_option linter.unusedSimpArgs false
set_option maxRecDepth 100000
set_option maxHeartbeats 8000000
namespace Go.Proofs.YtkkleopmambcnaaGreatDoor
open Go Go.RowKit Go.Proofs.AE
variable {G : Nat → AV}
theorem write_0 (c : Crw) (r : Rcd) (h : TOk c.n0.td c.n0.ts) (h1 : r.mach.sto.Small) (h2 : r.mach.clis.length ≤ 1000000) : DetCall Tryz.prog G 116 10 c.hp [.one (.ptr 0 (33 * 0)), .agg r.c] (bV (c.n0.write r).2) ({ c with n0 := (c.n0.write r).1 } : Crw).hp := by
  unfold Nd.write
  by_cases hb : checkRc r ≠ 0
  · have ha := appendBad_c (G := G) c.n0.td c.n0.ts r h h1 h2 hb
    have q1 : (checkRc r != 0) = true := by simpa using hb
    rw [if_pos (.inl hb)]
    generalize checkRc r = v at *
    simp only [Crw.hp, Nd.cs, Rcd.c, tpC, List.cons_append, List.nil_append] at *
    refine gcallc mixed Tryz.func116 ac_crew_node_write ?_
    repeat' (first | (with_reducible first | refine Cn (fun h => ?_) fun h => ?_ | refine And.intro ?_ ?_ | refine wR ?_ | exact wr _ _ | refine weak_autoC ?_ | apply awp_join | refine q ha ?_ | refine qd ha ?_ | refine qz ha ?_) | (with_reducible refine CallZ.z ?_) | simp -dsimp [go_sem, q1, clean_nil, clean_cons, clean_yes, clean_no])
    all_goals first | omega | trace_state
  · by_cases hf : 400000 < c.n0.td.length + 3 + (encRc r).length
    · have ha := appendFull_c (G := G) c.n0.td c.n0.ts r h h1 h2 (Classical.not_not.1 hb) hf
      rw [if_pos (.inr hf)]
      simp only [Crw.hp, Nd.cs, Rcd.c, tpC, List.cons_append, List.nil_append] at *
      refine gcallc mixed Tryz.func116 ac_crew_node_write ?_
      repeat' (first | (with_reducible first | refine Cn (fun h => ?_) fun h => ?_ | refine And.intro ?_ ?_ | refine wR ?_ | exact wr _ _ | refine weak_autoC ?_ | apply awp_join | refine q ha ?_ | refine qd ha ?_ | refine qz ha ?_) | (with_reducible refine CallZ.z ?_) | simp -dsimp [go_sem, clean_nil, clean_cons, clean_yes, clean_no])
      all_goals first | omega | trace_state
    · have ha := append_c (G := G) c.n0.td c.n0.ts r h h1 h2 (Classical.not_not.1 hb) (by omega)
      rw [if_neg (by simp only [not_or]; exact ⟨hb, hf⟩)]
      simp only [Crw.hp, Nd.cs, Rcd.c, tpC, List.cons_append, List.nil_append] at *
      refine gcallc mixed Tryz.func116 ac_crew_node_write ?_
      repeat' (first | (with_reducible first | refine Cn (fun h => ?_) fun h => ?_ | refine And.intro ?_ ?_ | refine wR ?_ | exact wr _ _ | refine weak_autoC ?_ | apply awp_join | refine q ha ?_ | refine qd ha ?_ | refine qz ha ?_) | (with_reducible refine CallZ.z ?_) | simp -dsimp [go_sem, clean_nil, clean_cons, clean_yes, clean_no])
      all_goals first | omega | trace_state
end Go.Proofs.YtkkleopmambcnaaGreatDoor
set_option linter.unusedVariables false
set_option linter.unusedSimpArgs false
set_option maxRecDepth 100000
set_option maxHeartbeats 8000000
namespace Go.Proofs.YtkkleopmambcnaaGreatDoor
open Go Go.RowKit Go.Proofs.AE
variable {G : Nat → AV}
theorem send_len (n : Nd) (to : Int) (m : Msg) (h : n.out.length ≤ 300) : (n.send to m).out.length ≤ 300 := by
  unfold Nd.send
  split
  · simp; omega
  · exact h
end Go.Proofs.YtkkleopmambcnaaGreatDoor
set_option linter.unusedVariables false
set_option linter.unusedSimpArgs false
set_option maxRecDepth 100000
set_option maxHeartbeats 8000000
namespace Go.Proofs.YtkkleopmambcnaaGreatDoor
open Go Go.RowKit Go.Proofs.AE
variable {G : Nat → AV}
end Go.Proofs.YtkkleopmambcnaaGreatDoor
set_option linter.unusedVariables false
set_option linter.unusedSimpArgs false
set_option maxRecDepth 100000
set_option maxHeartbeats 8000000
namespace Go.Proofs.YtkkleopmambcnaaGreatDoor
open Go Go.RowKit Go.Proofs.AE
def AltOkK (k : Nat) (P : Program) (c : ACode) (j : Nat) (s s' : S) : Prop := aopsD P (nthAlt c j).1 [] s (fun h q => stables P (nthAlt c j).1 (s :: h) (nthAlt c j).2 ∧ Weak k q s')
def AllOkK (k : Nat) (P : Program) (c : ACode) (s s' : S) : Nat → Prop
  | 0 => True
  | n + 1 => AltOkK k P c n s s' ∧ AllOkK k P c s s' n
theorem AllOkK.get {k : Nat} {P : Program} {c : ACode} {s s' : S} : ∀ {n : Nat}, AllOkK k P c s s' n → ∀ j, j < n → AltOkK k P c j s s'
  | 0, _, j, hj => by omega
  | n + 1, h, j, hj => by
    by_cases e : j = n
    · subst e; exact h.1
    · exact AllOkK.get h.2 j (by omega)
end Go.Proofs.YtkkleopmambcnaaGreatDoor
set_option linter.unusedVariables false
set_option linter.unusedSimpArgs false
set_option maxRecDepth 100000
set_option maxHeartbeats 8000000
namespace Go.Proofs.YtkkleopmambcnaaGreatDoor
open Go Go.RowKit Go.Proofs.AE
variable {G : Nat → AV}
def newer (base bt : Int) (x : List Item) (place term : Int) : Bool := decide (lastTerm bt x < term) || (decide (term = lastTerm bt x) && decide (base + x.length ≤ place))
end Go.Proofs.YtkkleopmambcnaaGreatDoor
set_option linter.unusedVariables false
set_option linter.unusedSimpArgs false
set_option maxRecDepth 100000
set_option maxHeartbeats 8000000
namespace Go.Proofs.YtkkleopmambcnaaGreatDoor
open Go Go.RowKit Go.Proofs.AE
variable {G : Nat → AV}
theorem newM0_c : PCall Tryz.prog G 26 [] (.agg newM.c) := by
  simp only [newM, zeroS, Mach.c, List.map_nil]
  refine pcallc mixed Tryz.func26 ac_client_New ?_
  repeat' (first | (with_reducible first | refine Cn (fun h => ?_) fun h => ?_ | refine And.intro ?_ ?_ | refine wR ?_ | exact wr _ _ | refine wa ?_ | apply awp_join) | (with_reducible refine CallZ.z ?_) | simp -dsimp [go_sem])
theorem newD_c : PCall Tryz.prog G 36 [] (.agg newD.c) := by
  have h := newM0_c (G := G)
  simp only [newD, Dsk.c, newM, zeroS, zeroLg, Lg.c, logC, Mach.c, List.map_nil, List.cons_append, List.nil_append] at *
  refine pcallc mixed Tryz.func36 ac_tape_New ?_
  repeat' (first | (with_reducible first | refine Cn (fun h => ?_) fun h => ?_ | refine And.intro ?_ ?_ | refine wR ?_ | exact wr _ _ | refine wa ?_ | apply awp_join | refine q h ?_ | refine qd h ?_ | refine qz h ?_) | (with_reducible refine CallZ.z ?_) | simp -dsimp [go_sem])
  all_goals trace_state
def Rcd.Small (r : Rcd) : Prop := r.mach.sto.Small ∧ r.mach.clis.length ≤ 1000000
theorem foldGo_drop {d : Dsk} {l : List Rcd} {i : Nat} {r : Rcd} (h : l[i]? = some r) : foldGo d (l.drop i) = if (foldStep d r).2 ≠ 0 then foldStep d r else foldGo (foldStep d r).1 (l.drop (i + 1)) := by
  have hl := (List.getElem?_eq_some_iff.1 h).1
  have hx := (List.getElem?_eq_some_iff.1 h).2
  rw [List.drop_eq_getElem_cons hl, hx]
  rfl
def fSt (G : Nat → AV) (rows : List (List V)) (n : Nat) (x : Nat × Dsk) : S :=
  ⟨[(2, .one (.ptr 0 0)), (3, iV 0), (4, .one (.ptr 1 0)), (13, .one (.v (.sl rows))), (14, iV n), (15, iV x.1)], G, [some (.box 116 [iC 0, iC 0, iC 0, iC 0, iC 0, .nil, iC 0, .nil, iC 0, iC 0, .nil]), some (.box 116 x.2.c)]⟩
theorem fold_c (l : List Rcd) (hs : ∀ r ∈ l, r.Small) (hn : (l.length : Int) ≤ 9223372036854775807) : PCall Tryz.prog G 128 [.one (.v (.sl (l.map Rcd.row)))] (.tup [.agg (foldD l).1.c, iV (foldD l).2]) := by
  have hnew := newD_c (G := G)
  have hlen : (l.map Rcd.row).length = l.length := by simp
  obtain ⟨rows, hrows⟩ : ∃ rows, l.map Rcd.row = rows := ⟨_, rfl⟩
  have hat : ∀ (i : Nat) r, l[i]? = some r → rows[i]? = some r.row := fun i r h => by rw [← hrows]; simp [h]
  rw [hrows] at hlen ⊢
  simp only [newD, Dsk.c, newM, zeroS, zeroLg, Lg.c, logC, Mach.c, List.map_nil, List.cons_append, List.nil_append] at hnew
  refine pcallc mixed Tryz.func128 ac_tape_Fold ?_
  repeat' (first | (with_reducible first | refine Cn (fun h => ?_) fun h => ?_ | refine And.intro ?_ ?_ | refine wR ?_ | exact wr _ _ | refine wa ?_ | apply awp_join | refine q hnew ?_ | refine qd hnew ?_ | refine qz hnew ?_) | (with_reducible refine CallZ.z ?_) | simp -dsimp [go_sem, hlen])
  refine awp_loop (fSt G rows l.length) (fun x => x.1 ≤ l.length ∧ foldD l = foldGo x.2 (l.drop x.1) ∧ OkD x.2) (fun x => l.length - x.1) (0, newD) (weak_auto ?_) ⟨Nat.zero_le _, rfl, newD_ok⟩ ?_
  · unfold fSt
    simp only [newD, Dsk.c, newM, zeroS, zeroLg, Lg.c, logC, Mach.c, List.map_nil, List.cons_append, List.nil_append]
    simp -dsimp [go_sem]
  · rintro ⟨i, d⟩ ⟨hi, hf, hd⟩
    simp only at hi hf hd
    clear hnew
    by_cases hil : i < l.length
    · obtain ⟨r, hx⟩ : ∃ r, l[i]? = some r := ⟨_, List.getElem?_eq_getElem hil⟩
      have hr := hat i r hx
      have hsm := hs r (List.mem_of_getElem? hx)
      have hck := checkRc_c (G := G) r hsm.1 hsm.2
      have q1 : decide (i < l.length) = true := decide_eq_true hil
      have w1 : IntKind.i64.wrap ((i : Int) + 1) = (i : Int) + 1 := IntWalk.i64_in _ (by omega)
      rw [foldGo_drop hx] at hf
      have hag : (foldStep d r).2 = 0 → foldD l = foldGo (foldStep d r).1 (l.drop (i + 1)) ∧ OkD (foldStep d r).1 := fun h => by
        rw [if_neg (by rw [h]; simp)] at hf
        exact ⟨hf, step_ok hd r h⟩
      by_cases hc : checkRc r ≠ 0
      · have he : foldStep d r = (zeroD, checkRc r) := by unfold foldStep; rw [if_pos hc]
        rw [he, if_pos hc] at hf
        rw [hf]
        have q2 : (checkRc r != 0) = true := by simpa using hc
        clear hag he hf hd
        generalize checkRc r = v at *
        obtain ⟨term, fr, sidx, sterm, ⟨⟨now, es⟩, next, cs⟩, ⟨base, bt, items⟩⟩ := d
        obtain ⟨k, t, f, ix, ⟨xt, xm, xn, xc, xs, xk, xa, xb, xd, xx⟩, si, st, ⟨⟨mn, me⟩, mx, mc⟩⟩ := r
        simp only [Rcd.c, Rcd.row, zeroD, zeroM, zeroS, zeroLg, Dsk.c, Lg.c, logC, Mach.c, List.map_nil, List.cons_append, List.nil_append] at *
        unfold fSt
        simp only [Dsk.c, Lg.c, logC, Mach.c, List.cons_append, List.nil_append]
        repeat' (first | (with_reducible first | refine Cn (fun h => ?_) fun h => ?_ | refine And.intro ?_ ?_ | refine wR ?_ | exact wr _ _ | refine weak_autoC ?_ | apply awp_join | refine q hck ?_ | refine qd hck ?_ | refine qz hck ?_) | (with_reducible refine CallZ.z ?_) | simp -dsimp [go_sem, hr, q1, q2, clean_nil, clean_cons, clean_yes, clean_no])
        all_goals trace_state
      · have hc0 := Classical.not_not.1 hc
        rw [hc0] at hck
        rcases rc_cases hc0 with ⟨t, f, rfl, _⟩ | ⟨ix, x, rfl, hix, _⟩ | ⟨si, st, m, rfl, hsi, hst, hm⟩
        · have he : foldStep d ⟨1, t, f, 0, zeroItem, 0, 0, zeroM⟩ = ({ d with term := t, fr := f }, 0) := by unfold foldStep; rw [if_neg hc, if_pos (show (1 : Int) = 1 from rfl)]
          obtain ⟨a1, a2⟩ := hag (by rw [he])
          rw [he] at a1 a2
          clear hag hf hd he
          obtain ⟨term, fr, sidx, sterm, ⟨⟨now, es⟩, next, cs⟩, ⟨base, bt, items⟩⟩ := d
          simp only [Rcd.c, Rcd.row, zeroItem, zeroM, zeroS, Mach.c, List.map_nil, List.cons_append, List.nil_append] at hck hr
          unfold fSt
          simp only [Dsk.c, Lg.c, logC, Mach.c, List.cons_append, List.nil_append]
          repeat' (first | (with_reducible first | refine Cn (fun h => ?_) fun h => ?_ | refine And.intro ?_ ?_ | refine wR ?_ | exact wr _ _ | refine weak_autoC ?_ | apply awp_join | refine q hck ?_ | refine qd hck ?_ | refine qz hck ?_) | (with_reducible refine CallZ.z ?_) | simp -dsimp [go_sem, hr, q1, w1, clean_nil, clean_cons, clean_yes, clean_no])
          all_goals first
            | (refine Again.auto (i + 1, ⟨t, f, sidx, sterm, ⟨⟨now, es⟩, next, cs⟩, ⟨base, bt, items⟩⟩) ?_ ⟨hil, a1, a2⟩ ?_
               · simp only [Dsk.c, Lg.c, logC, Mach.c, List.cons_append, List.nil_append]
                 simp -dsimp [go_sem]
               · show l.length - (i + 1) < l.length - i; omega)
            | trace_state
        · have hli := line_c (G := G) d.log ix x hd.log (by unfold okNumber at hix; simp at hix; omega)
          have he : foldStep d ⟨2, 0, 0, ix, x, 0, 0, zeroM⟩ = if (lineD d.log ix x).2 ≠ 0 then (zeroD, (lineD d.log ix x).2) else ({ d with log := (lineD d.log ix x).1 }, 0) := by
            unfold foldStep; rw [if_neg hc, if_neg (show ¬ (2 : Int) = 1 by omega), if_pos (show (2 : Int) = 2 from rfl)]
          rw [he] at hf hag
          clear he hc
          obtain ⟨term, fr, sidx, sterm, ⟨⟨now, es⟩, next, cs⟩, ⟨base, bt, items⟩⟩ := d
          simp only at hli hf hag
          generalize lineD ⟨base, bt, items⟩ ix x = q at *
          obtain ⟨⟨base', bt', items'⟩, v⟩ := q
          simp only at hli hf hag
          obtain ⟨xt, xm, xn, xc, xs, xk, xa, xb, xd, xx⟩ := x
          simp only [Rcd.c, Rcd.row, zeroM, zeroS, Mach.c, List.map_nil, List.cons_append, List.nil_append] at hck hr
          simp only [Lg.c, logC, Item.row, List.map_cons, List.map_nil] at hli
          by_cases hv : v ≠ 0
          · have q3 : (v != 0) = true := by simpa using hv
            rw [if_pos hv] at hf
            simp only at hf
            rw [if_pos hv] at hf
            rw [hf]
            clear hag hf hd
            simp only [zeroD, zeroM, zeroS, zeroLg, Dsk.c, Lg.c, logC, Mach.c, List.map_nil, List.cons_append, List.nil_append]
            unfold fSt
            simp only [Dsk.c, Lg.c, logC, Mach.c, List.cons_append, List.nil_append]
            repeat' (first | (with_reducible first | refine Cn (fun h => ?_) fun h => ?_ | refine And.intro ?_ ?_ | refine wR ?_ | exact wr _ _ | refine weak_autoC ?_ | apply awp_join | refine q hck ?_ | refine qd hck ?_ | refine qz hck ?_ | refine q hli ?_ | refine qd hli ?_ | refine qz hli ?_) | (with_reducible refine CallZ.z ?_) | simp -dsimp [go_sem, hr, q1, q3, clean_nil, clean_cons, clean_yes, clean_no])
            all_goals trace_state
          · have q3 : (v != 0) = false := by simpa using hv
            rw [if_neg hv] at hag
            obtain ⟨a1, a2⟩ := hag rfl
            clear hag hf hd
            unfold fSt
            simp only [Dsk.c, Lg.c, logC, Mach.c, List.cons_append, List.nil_append]
            repeat' (first | (with_reducible first | refine Cn (fun h => ?_) fun h => ?_ | refine And.intro ?_ ?_ | refine wR ?_ | exact wr _ _ | refine weak_autoC ?_ | apply awp_join | refine q hck ?_ | refine qd hck ?_ | refine qz hck ?_ | refine q hli ?_ | refine qd hli ?_ | refine qz hli ?_) | (with_reducible refine CallZ.z ?_) | simp -dsimp [go_sem, hr, q1, q3, w1, clean_nil, clean_cons, clean_yes, clean_no])
            all_goals first
              | (refine Again.auto (i + 1, ⟨term, fr, sidx, sterm, ⟨⟨now, es⟩, next, cs⟩, ⟨base', bt', items'⟩⟩) ?_ ⟨hil, a1, a2⟩ ?_
                 · simp only [Dsk.c, Lg.c, logC, Mach.c, List.cons_append, List.nil_append]
                   simp -dsimp [go_sem]
                 · show l.length - (i + 1) < l.length - i; omega)
              | trace_state
        · have hre := rest_c (G := G) d.log si st m hd.log (by unfold okNumber at hsi; simp at hsi; omega)
          have he : foldStep d ⟨3, 0, 0, 0, zeroItem, si, st, m⟩ = if d.sidx < si then ({ d with sidx := si, sterm := st, mach := m, log := restD d.log si st }, 0) else (d, 0) := by
            unfold foldStep; rw [if_neg hc, if_neg (show ¬ (3 : Int) = 1 by omega), if_neg (show ¬ (3 : Int) = 2 by omega)]
          rw [he] at hf hag
          clear he hc
          obtain ⟨term, fr, sidx, sterm, ⟨⟨now, es⟩, next, cs⟩, ⟨base, bt, items⟩⟩ := d
          obtain ⟨⟨mn, me⟩, mx, mc⟩ := m
          simp only at hre hf hag
          simp only [Rcd.c, Rcd.row, zeroItem, Mach.c, List.map_nil, List.cons_append, List.nil_append] at hck hr
          by_cases hv : sidx < si
          · have q3 : decide (sidx < si) = true := decide_eq_true hv
            rw [if_pos hv] at hag
            obtain ⟨a1, a2⟩ := hag rfl
            clear hag hf hd
            generalize restD ⟨base, bt, items⟩ si st = q at *
            obtain ⟨base', bt', items'⟩ := q
            simp only [Lg.c, logC, Mach.c, List.cons_append, List.nil_append] at hre
            unfold fSt
            simp only [Dsk.c, Lg.c, logC, Mach.c, List.cons_append, List.nil_append]
            repeat' (first | (with_reducible first | refine Cn (fun h => ?_) fun h => ?_ | refine And.intro ?_ ?_ | refine wR ?_ | exact wr _ _ | refine weak_autoC ?_ | apply awp_join | refine q hck ?_ | refine qd hck ?_ | refine qz hck ?_ | refine q hre ?_ | refine qd hre ?_ | refine qz hre ?_) | (with_reducible refine CallZ.z ?_) | simp -dsimp [go_sem, hr, q1, q3, w1, clean_nil, clean_cons, clean_yes, clean_no])
            all_goals first
              | (refine Again.auto (i + 1, ⟨term, fr, si, st, ⟨⟨mn, me⟩, mx, mc⟩, ⟨base', bt', items'⟩⟩) ?_ ⟨hil, a1, a2⟩ ?_
                 · simp only [Dsk.c, Lg.c, logC, Mach.c, List.cons_append, List.nil_append]
                   simp -dsimp [go_sem]
                 · show l.length - (i + 1) < l.length - i; omega)
              | trace_state
          · have q3 : decide (sidx < si) = false := decide_eq_false hv
            rw [if_neg hv] at hag
            obtain ⟨a1, a2⟩ := hag rfl
            clear hag hf hd hre
            unfold fSt
            simp only [Dsk.c, Lg.c, logC, Mach.c, List.cons_append, List.nil_append]
            repeat' (first | (with_reducible first | refine Cn (fun h => ?_) fun h => ?_ | refine And.intro ?_ ?_ | refine wR ?_ | exact wr _ _ | refine weak_autoC ?_ | apply awp_join | refine q hck ?_ | refine qd hck ?_ | refine qz hck ?_) | (with_reducible refine CallZ.z ?_) | simp -dsimp [go_sem, hr, q1, q3, w1, clean_nil, clean_cons, clean_yes, clean_no])
            all_goals first
              | (refine Again.auto (i + 1, ⟨term, fr, sidx, sterm, ⟨⟨now, es⟩, next, cs⟩, ⟨base, bt, items⟩⟩) ?_ ⟨hil, a1, a2⟩ ?_
                 · simp only [Dsk.c, Lg.c, logC, Mach.c, List.cons_append, List.nil_append]
                   simp -dsimp [go_sem]
                 · show l.length - (i + 1) < l.length - i; omega)
              | trace_state
    · have q1 : decide (i < l.length) = false := decide_eq_false hil
      have hn2 : l.drop i = [] := List.drop_eq_nil_of_le (by omega)
      rw [hn2] at hf
      simp only [foldGo] at hf
      rw [hf]
      have he := encode_c (G := G) d.mach hd.mach
      have hb := machB_len hd.mach
      have hde := decode_c (G := G) (machB d.mach)
      rw [decM_back hd.mach (by omega)] at hde
      have hul := ul_rows d.log.items
      have hll : (d.log.items.map Item.row).length ≤ 1000000 := by
        have := (checkLog_iff.1 hd.log).1; simp; omega
      have hcl := cloneItems_c (G := G) (d.log.items.map Item.row) hul hll
      obtain ⟨term, fr, sidx, sterm, ⟨⟨now, es⟩, next, cs⟩, ⟨base, bt, items⟩⟩ := d
      simp only at he hde hcl
      clear hf hd
      generalize machB ⟨⟨now, es⟩, next, cs⟩ = bs at *
      simp only [Mach.c] at he hde
      unfold fSt
      simp only [Dsk.c, Lg.c, logC, Mach.c, List.cons_append, List.nil_append]
      repeat' (first | (with_reducible first | refine Cn (fun h => ?_) fun h => ?_ | refine And.intro ?_ ?_ | refine wR ?_ | exact wr _ _ | refine wa ?_ | apply awp_join | refine q he ?_ | refine qd he ?_ | refine qz he ?_ | refine q hde ?_ | refine qd hde ?_ | refine qz hde ?_ | refine q hcl ?_ | refine qd hcl ?_ | refine qz hcl ?_) | (with_reducible refine CallZ.z ?_) | simp -dsimp [go_sem, q1])
      all_goals trace_state
end Go.Proofs.YtkkleopmambcnaaGreatDoor
set_option linter.unusedVariables false
set_option linter.unusedSimpArgs false
set_option maxRecDepth 100000
set_option maxHeartbeats 8000000
namespace Go.Proofs.YtkkleopmambcnaaGreatDoor
open Go Go.RowKit Go.Proofs.AE
variable {G : Nat → AV}
theorem newDc_c : PCall Tryz.prog G 36 [] (.agg [iC 0, iC (-1), iC 0, iC 0, iC 0, .v (.sl []), iC 1, .v (.sl []), iC 0, iC 0, .v (.sl [])]) := newD_c
end Go.Proofs.YtkkleopmambcnaaGreatDoor
set_option linter.unusedVariables false
set_option linter.unusedSimpArgs false
set_option maxRecDepth 100000
set_option maxHeartbeats 8000000
namespace Go.Proofs.YtkkleopmambcnaaGreatDoor
open Go Go.RowKit Go.Proofs.AE
variable {G : Nat → AV}
end Go.Proofs.YtkkleopmambcnaaGreatDoor
set_option linter.unusedVariables false
set_option linter.unusedSimpArgs false
set_option maxRecDepth 100000
set_option maxHeartbeats 8000000
namespace Go.Proofs.YtkkleopmambcnaaGreatDoor
open Go Go.RowKit Go.Proofs.AE
variable {G : Nat → AV}
theorem write_no' {n : Nd} {r : Rcd} {n' : Nd} (h : n.write r = (n', false)) : n' = n := by
  unfold Nd.write at h
  split at h
  · cases h; rfl
  · cases h
theorem write_eq' (n : Nd) (r : Rcd) : ∃ td, (n.write r).1 = { n with td := td } := by
  unfold Nd.write
  split
  · exact ⟨n.td, rfl⟩
  · exact ⟨_, rfl⟩
end Go.Proofs.YtkkleopmambcnaaGreatDoor
set_option linter.unusedVariables false
set_option linter.unusedSimpArgs false
set_option maxRecDepth 100000
set_option maxHeartbeats 8000000
namespace Go.Proofs.YtkkleopmambcnaaGreatDoor
open Go Go.RowKit Go.Proofs.AE
variable {G : Nat → AV}
def MS (m : Mach) : Prop := m.sto.Small ∧ m.clis.length ≤ 1000000
theorem dom_ms (m : Mach) (t : Int) (c : Cal) : MS (DoM m t c).1 := by
  by_cases h : checkM m ≠ 0 ∨ (t < 0 ∨ 1073741824 < t) ∨ checkCl c ≠ 0
  · have : (DoM m t c).1 = zeroM := by
      unfold DoM
      split
      · rfl
      · split
        · rfl
        · split
          · rfl
          · rename_i h1 h2 h3; exact absurd h (by simp only [not_or]; exact ⟨h1, by omega, h3⟩)
    rw [this]; exact zeroM_sm
  · simp only [not_or, Classical.not_not] at h
    obtain ⟨_, _, h3, _⟩ := do_ok (checkM_iff.1 h.1) (t := t) (by omega) (by omega) h.2.2
    exact ⟨h3.sto.small, by have := h3.len; omega⟩
theorem tol_ul (l : List Tol) : UL 12 (l.map Tol.row) := by
  intro r hr
  obtain ⟨y, _, rfl⟩ := List.mem_map.1 hr
  rfl
end Go.Proofs.YtkkleopmambcnaaGreatDoor
set_option linter.unusedVariables false
set_option linter.unusedSimpArgs false
set_option maxRecDepth 100000
set_option maxHeartbeats 8000000
namespace Go.Proofs.YtkkleopmambcnaaGreatDoor
open Go Go.RowKit Go.Proofs.AE
variable {G : Nat → AV}
abbrev freshC (me : Int) (d : Dsk) : List C := [iC me, bCr false, iC 0, iC 0, iC d.term, iC d.fr, iC d.log.base, iC d.log.bt, .v (.sl (d.log.items.map Item.row)), iC d.sidx, iC d.sterm, iC d.mach.sto.now, .v (.sl (eR d.mach.sto.ents)), iC d.mach.next, .v (.sl (clR d.mach.clis)), iC d.mach.sto.now, .v (.sl (eR d.mach.sto.ents)), iC d.mach.next, .v (.sl (clR d.mach.clis)), iC d.sidx,
  bCr false, bCr false, bCr false, iC 0, iC 0, iC 0, iC 0, iC 0, iC 0, .nil, .v (.sl []), iC 0, .nil]
theorem fresh_c (me : Int) (d : Dsk) : PCall Tryz.prog G 35 [iV me, .agg d.c] (.agg (freshC me d)) := by
  simp only [Dsk.c, Mach.c, Lg.c, logC, freshC, List.cons_append, List.nil_append]
  refine pcallc mixed Tryz.func35 ac_crew_fresh ?_
  repeat' (first | (with_reducible first | refine Cn (fun h => ?_) fun h => ?_ | refine And.intro ?_ ?_ | refine wR ?_ | exact wr _ _ | refine wa ?_ | apply awp_join) | (with_reducible refine CallZ.z ?_) | simp -dsimp [go_sem])
  all_goals trace_state
theorem trim_0 (c : Crw) (h : TOk c.n0.td c.n0.ts) (hc : c.n0.log.check = 0) (hM : MS c.n0.mach) (hb : c.n0.log.base ≤ c.n0.commit ∧ c.n0.commit ≤ c.n0.log.base + c.n0.log.items.length) :
    DetCall Tryz.prog G 96 10 c.hp [.one (.ptr 0 (33 * 0))] (.tup []) ({ c with n0 := c.n0.trim } : Crw).hp := by
  obtain ⟨b1, b2, b3, b4, b5⟩ := last_c' _ _ _ hc
  have b6 := last_room _ _ _ hc
  unfold Nd.trim
  by_cases he : c.n0.commit = c.n0.log.base
  · rw [if_pos he]
    have q1 : (c.n0.commit == c.n0.log.base) = true := by simpa using he
    clear he
    simp only [Crw.hp, Nd.cs, List.cons_append, List.nil_append]
    refine gcallc mixed Tryz.func96 ac_crew_node_trim ?_
    repeat' (first | (with_reducible first | refine Cn (fun h => ?_) fun h => ?_ | refine And.intro ?_ ?_ | refine wR ?_ | exact wr _ _ | refine wa ?_ | apply awp_join) | (with_reducible refine CallZ.z ?_) | simp -dsimp [go_sem, q1])
    all_goals first | omega | trace_state
  · rw [if_neg he]
    have q1 : (c.n0.commit == c.n0.log.base) = false := by simpa using he
    have hte : termErr c.n0.log.base c.n0.log.items.length c.n0.commit = 0 := termErr_ok (by omega)
    have ht := termGood_c (G := G) c.n0.log.base c.n0.log.bt c.n0.log.items c.n0.commit hc (by omega)
    have hr := trim_c (G := G) c.n0.log.base c.n0.log.bt c.n0.log.items c.n0.commit hc (by unfold i64; omega) hte
    rw [hte] at ht
    generalize termAt c.n0.log.base c.n0.log.bt c.n0.log.items c.n0.commit = T at *
    generalize c.n0.log.items.drop (c.n0.commit - c.n0.log.base).toNat = D at *
    have hw := write_0 (G := G) c (loadRc c.n0.commit T c.n0.mach) h hM.1 hM.2
    obtain ⟨td', htd⟩ := write_eq' c.n0 (loadRc c.n0.commit T c.n0.mach)
    obtain ⟨ok, hok⟩ : ∃ ok, (c.n0.write (loadRc c.n0.commit T c.n0.mach)).2 = ok := ⟨_, rfl⟩
    rw [hok] at hw ⊢
    cases ok with
    | false =>
      rw [if_pos rfl]
      have e := write_no' (Prod.ext htd hok : c.n0.write (loadRc c.n0.commit T c.n0.mach) = ({ c.n0 with td := td' }, false))
      rw [htd, e] at hw
      clear htd hok e he hr
      simp only [Crw.hp, Nd.cs, loadRc, zeroItem, Rcd.c, logC, List.cons_append, List.nil_append] at hw ht ⊢
      refine gcallc mixed Tryz.func96 ac_crew_node_trim ?_
      repeat' (first | (with_reducible first | refine Cn (fun h => ?_) fun h => ?_ | refine And.intro ?_ ?_ | refine wR ?_ | exact wr _ _ | refine weak_autoC ?_ | apply awp_join | refine q ht ?_ | refine qd ht ?_ | refine qz ht ?_ | refine qg hw ?_ | refine qgd hw ?_) | (with_reducible refine CallZ.z ?_) | simp -dsimp [go_sem, q1, clean_nil, clean_cons, clean_yes, clean_no])
      all_goals first | omega | trace_state
    | true =>
      rw [if_neg (by simp)]
      rw [htd] at hw ⊢
      clear htd hok he
      simp only [Crw.hp, Nd.cs, loadRc, zeroItem, Rcd.c, logC, List.cons_append, List.nil_append] at hw ht hr ⊢
      refine gcallc mixed Tryz.func96 ac_crew_node_trim ?_
      repeat' (first | (with_reducible first | refine Cn (fun h => ?_) fun h => ?_ | refine And.intro ?_ ?_ | refine wR ?_ | exact wr _ _ | refine weak_autoC ?_ | apply awp_join | refine q ht ?_ | refine qd ht ?_ | refine qz ht ?_ | refine qg hw ?_ | refine qgd hw ?_ | refine q hr ?_ | refine qd hr ?_ | refine qz hr ?_) | (with_reducible refine CallZ.z ?_) | simp -dsimp [go_sem, q1, clean_nil, clean_cons, clean_yes, clean_no])
      all_goals first | omega | trace_state
theorem crash_0 (c : Crw) (keep : Int) (h : TOk c.n0.td c.n0.ts) (hk : 0 ≤ keep) (htk : TOk (c.n0.td.take (crashN c.n0.td c.n0.ts keep)) (crashN c.n0.td c.n0.ts keep)) (hsm : ∀ r ∈ (recB (c.n0.td.take (crashN c.n0.td c.n0.ts keep))).1, r.Small) (hlen : ((recB (c.n0.td.take (crashN c.n0.td c.n0.ts keep))).1.length : Int) ≤ 9223372036854775807)
    (hle : (recB (c.n0.td.take (crashN c.n0.td c.n0.ts keep))).2 ≤ crashN c.n0.td c.n0.ts keep) :
    DetCall Tryz.prog G 95 4 c.hp [.one (.ptr 0 0), .one (.ptr 0 (33 * 0)), iV keep] (.tup []) ({ c with n0 := c.n0.crash keep } : Crw).hp := by
  have h1 := crash_c (G := G) c.n0.td c.n0.ts keep h hk
  have h2 := recover_c (G := G) _ _ htk
  have h3 := fold_c (G := G) _ hsm hlen
  unfold recV at h2
  unfold Nd.crash
  generalize crashN c.n0.td c.n0.ts keep = N at *
  generalize c.n0.td.take N = D at *
  rw [bR_take] at h2
  obtain ⟨q, hq⟩ : ∃ q, recB D = q := ⟨_, rfl⟩
  rw [hq] at h2 h3 hle ⊢
  obtain ⟨rs, at'⟩ := q
  simp only at h2 h3 hle ⊢
  have hmin : (if (at' : Int) < (N : Int) then (at' : Int) else (N : Int)) = at' := by split <;> omega
  rw [hmin] at h2
  obtain ⟨q, hq2⟩ : ∃ q, foldD rs = q := ⟨_, rfl⟩
  rw [hq2] at h3 ⊢
  obtain ⟨d, e⟩ := q
  have h4 := fresh_c (G := G) c.n0.me d
  simp only at h3 ⊢
  have h0 : DetCall Tryz.prog G 95 4 c.hp [.one (.ptr 0 0), .one (.ptr 0 (33 * 0)), iV keep] (.tup []) (nilAt (nilAt ({ c with n0 := { freshN c.n0.me d with td := D.take at', ts := at', clock := c.n0.clock } } : Crw).hp (33 * 0 + 29) (3 + 0)) (33 * 0 + 32) (6 + 0)) := by
    clear hq hq2 hsm hlen htk hle hmin
    obtain ⟨dt, df, ds, dst, ⟨⟨mn, me⟩, mx, mc⟩, ⟨gb, gt, gi⟩⟩ := d
    simp only [Crw.hp, Nd.cs, freshN, tpC, Dsk.c, Mach.c, Lg.c, logC, freshC, List.map_nil, List.cons_append, List.nil_append, nilAt, List.set_cons_succ, List.set_cons_zero] at h1 h2 h3 h4 ⊢
    refine gcallc mixed Tryz.func95 ac_crew_crew_crash ?_
    repeat' (first | (with_reducible first | refine Cn (fun h => ?_) fun h => ?_ | refine And.intro ?_ ?_ | refine wR ?_ | exact wr _ _ | refine weak_autoC ?_ | apply awp_join | refine q h1 ?_ | refine qd h1 ?_ | refine qz h1 ?_ | refine q h2 ?_ | refine qd h2 ?_ | refine qz h2 ?_ | refine q h3 ?_ | refine qd h3 ?_ | refine qz h3 ?_ | refine q h4 ?_ | refine qd h4 ?_ | refine qz h4 ?_) | (with_reducible refine CallZ.z ?_) | simp -dsimp [go_sem, clean_nil, clean_cons, clean_yes, clean_no])
    all_goals first | omega | trace_state
  refine h0.out ?_
  simp only [Crw.hp, Nd.cs, freshN, List.map_nil, List.cons_append, List.nil_append, nilAt, List.set_cons_succ, List.set_cons_zero]
  refine out_thaw 0 (33 * 0 + 29) 176 9 rfl rfl (by decide) ?_
  simp only [List.set_cons_succ, List.set_cons_zero, List.cons_append, List.nil_append]
  refine out_thaw 0 (33 * 0 + 32) 144 15 rfl rfl (by decide) (out_auto ?_)
  simp -dsimp [go_sem]
end Go.Proofs.YtkkleopmambcnaaGreatDoor
set_option linter.unusedVariables false
set_option linter.unusedSimpArgs false
set_option maxRecDepth 100000
set_option maxHeartbeats 8000000
namespace Go.Proofs.YtkkleopmambcnaaGreatDoor
open Go Go.RowKit Go.Proofs.AE
variable {G : Nat → AV}
def hasN (k : Int) : Bool := !(k == 6 || k == 7 || k == 8 || k == 12)
def hasP (k : Int) : Bool := k == 5 || k == 6 || k == 7 || k == 8 || k == 9
theorem has_c (k : Int) : PCall Tryz.prog G 55 [iV k] (.tup [bV (hasN k), bV (hasP k)]) := by
  refine pcallc mixed Tryz.func55 ac_lines_has ?_
  repeat' (first | (with_reducible first | refine Cn (fun h => ?_) fun h => ?_ | refine And.intro ?_ ?_ | refine wR ?_ | exact wr _ _ | refine wa ?_ | apply awp_join) | (with_reducible refine CallZ.z ?_) | simp -dsimp [go_sem])
  all_goals simp_all [hasN, hasP]
def noCal (c : Cal) : Bool := noCall c.client c.seq c.cmd.kind c.cmd.key c.cmd.field c.cmd.text c.cmd.n
def Act.check (a : Act) : Int :=
  if a.kind < 1 ∨ 12 < a.kind then 3
  else if hasN a.kind = true ∧ (a.node < 0 ∨ 3 ≤ a.node) ∨ hasP a.kind = true ∧ (a.pick < 0 ∨ 400000 < a.pick) then 2
  else if hasN a.kind = false ∧ a.node ≠ 0 ∨ hasP a.kind = false ∧ a.pick ≠ 0 ∨ a.kind ≠ 1 ∧ noCal a.call = false then 8
  else if a.kind = 1 then checkCl a.call else 0
theorem checkA_c (a : Act) : PCall Tryz.prog G 34 [.agg a.c] (iV a.check) := by
  obtain ⟨k, nd, pick, ⟨cl, sq, ⟨ck, key, fd, tx, n⟩⟩⟩ := a
  have hh := has_c (G := G) k
  have hc := checkCl_c (G := G) ⟨cl, sq, ⟨ck, key, fd, tx, n⟩⟩
  simp only [Act.c, Act.check, Cal.c, noCal, noCall] at hc ⊢
  generalize hasN k = N at *
  generalize hasP k = P at *
  generalize checkCl ⟨cl, sq, ⟨ck, key, fd, tx, n⟩⟩ = r at *
  cases N <;> cases P
  all_goals
    refine pcallc mixed Tryz.func34 ac_lines_Check ?_
    repeat' (first | (with_reducible first | refine Cn (fun h => ?_) fun h => ?_ | refine And.intro ?_ ?_ | refine wR ?_ | exact wr _ _ | refine wa ?_ | apply awp_join | refine q hh ?_ | refine qd hh ?_ | refine qz hh ?_ | refine q hc ?_ | refine qd hc ?_ | refine qz hc ?_) | (with_reducible refine CallZ.z ?_) | simp -dsimp [go_sem])
  all_goals clear hh hc
  all_goals try simp_all
  all_goals ((repeat' split) <;> first | rfl | omega | (exfalso; simp_all; done) | (exfalso; simp_all; omega) | trace_state)
theorem Act.good {a : Act} (h : a.check = 0) : 1 ≤ a.kind ∧ a.kind ≤ 12 ∧ (hasN a.kind = true → 0 ≤ a.node ∧ a.node < 3) ∧ (hasP a.kind = true → 0 ≤ a.pick ∧ a.pick ≤ 400000) ∧ (hasN a.kind = false → a.node = 0) ∧ (hasP a.kind = false → a.pick = 0) ∧ (a.kind = 1 → checkCl a.call = 0) ∧ (a.kind ≠ 1 → noCal a.call = true) := by
  unfold Act.check at h
  split at h
  · omega
  · split at h
    · omega
    · split at h
      · omega
      · rename_i h1 h2 h3
        refine ⟨by omega, by omega, fun e => ?_, fun e => ?_, fun e => ?_, fun e => ?_, fun e => ?_, fun e => ?_⟩
        · simp only [not_or, not_and] at h2; have := h2.1 e; omega
        · simp only [not_or, not_and] at h2; have := h2.2 e; omega
        · simp only [not_or, not_and] at h3; have := h3.1 e; omega
        · simp only [not_or, not_and] at h3; have := h3.2.1 e; omega
        · rw [if_pos e] at h; exact h
        · simp only [not_or, not_and] at h3; have := h3.2.2 e; simpa using this
end Go.Proofs.YtkkleopmambcnaaGreatDoor
set_option linter.unusedVariables false
set_option linter.unusedSimpArgs false
set_option maxRecDepth 100000
set_option maxHeartbeats 8000000
namespace Go.Proofs.YtkkleopmambcnaaGreatDoor
open Go Go.RowKit Go.Proofs.AE
variable {G : Nat → AV}
structure Gear where
  kind : Int
  a : Int
  b : Int
  raw : Raw
def Gear.c (g : Gear) : List C := [iC g.kind, iC g.a, iC g.b, iC g.raw.kind, iC g.raw.key, iC g.raw.field, iC g.raw.n, sC g.raw.text]
def Gear.row (g : Gear) : List V := [iL g.kind, iL g.a, iL g.b, iL g.raw.kind, iL g.raw.key, iL g.raw.field, iL g.raw.n, sL g.raw.text]
structure Gear.Ok (g : Gear) : Prop where
  kind : i64 g.kind
  a : i64 g.a
  b : i64 g.b
  raw : g.raw.Ok
def zCal : Cal := ⟨0, 0, ⟨0, ⟨#[]⟩, ⟨#[]⟩, ⟨#[]⟩, 0⟩⟩
def Gear.call (g : Gear) : Cal := if pk g.b 4 = 0 then zCal else ⟨pk g.b 4, 1 + pk g.a 4, cmdR g.raw⟩
theorem picked'_c (n m : Int) (hn : i64 n) (hm : m ≠ 0) : PCall Tryz.prog G 16 [iV n, iV m] (iV (pk n m)) := by
  have h := picked_c (G := G) n m hn hm
  refine pcallc mixed Tryz.func16 ac_rostrumkeep_Picked ?_
  repeat' (first | (with_reducible first | refine Cn (fun h => ?_) fun h => ?_ | refine And.intro ?_ ?_ | refine wR ?_ | exact wr _ _ | refine wa ?_ | apply awp_join | refine q h ?_ | refine qd h ?_ | refine qz h ?_) | (with_reducible refine CallZ.z ?_) | simp -dsimp [go_sem])
  all_goals trace_state
def actK (k : Int) (g : Gear) : Act :=
  let n := pk g.a 3
  if k ≤ 2 then ⟨1, n, 0, g.call⟩
  else if k ≤ 4 then ⟨2, n, 0, zCal⟩
  else if k ≤ 7 then ⟨3, n, 0, zCal⟩
  else if k ≤ 11 then ⟨4, n, 0, zCal⟩
  else if k = 12 then ⟨6, 0, pk g.b 300, zCal⟩
  else if k = 13 then ⟨7, 0, pk g.b 300, zCal⟩
  else if k = 14 then ⟨8, 0, pk g.b 300, zCal⟩
  else if k = 15 then ⟨9, n, pk g.b 500, zCal⟩
  else if k = 16 then ⟨10, n, 0, zCal⟩
  else if k = 17 then ⟨11, n, 0, zCal⟩
  else if k = 18 then ⟨5, n, pk g.b 40, zCal⟩
  else ⟨12, 0, 0, zCal⟩
def Gear.act (g : Gear) : Act := actK (pk g.kind 20) g
end Go.Proofs.YtkkleopmambcnaaGreatDoor
set_option linter.unusedVariables false
set_option linter.unusedSimpArgs false
set_option maxRecDepth 100000
set_option maxHeartbeats 8000000
namespace Go.Proofs.YtkkleopmambcnaaGreatDoor
open Go Go.RowKit Go.Proofs.AE
variable {G : Nat → AV}
theorem act_ul (l : List Act) : UL 10 (l.map Act.row) := by
  intro r hr
  obtain ⟨y, _, rfl⟩ := List.mem_map.1 hr
  rfl
theorem with_c (l m : List Act) (h1 : l.length ≤ 100000) (h2 : m.length ≤ 100000) : PCall Tryz.prog G 19 [.one (.v (.sl (l.map Act.row))), .one (.v (.sl (m.map Act.row)))] (.one (.v (.sl ((l ++ m).map Act.row)))) := by
  have u1 := act_ul l
  have u2 := act_ul m
  have l1 : (l.map Act.row).length ≤ 100000 := by simpa using h1
  have l2 : (m.map Act.row).length ≤ 100000 := by simpa using h2
  rw [List.map_append]
  generalize l.map Act.row = A at *
  generalize m.map Act.row = B at *
  refine pcallc mixed Tryz.func19 ac_rostrumtop_with ?_
  repeat' (first | (with_reducible first | refine Cn (fun h => ?_) fun h => ?_ | refine And.intro ?_ ?_ | refine wR ?_ | exact wr _ _ | refine wa ?_ | apply awp_join) | (with_reducible refine CallZ.z ?_) | simp -dsimp [go_sem, u1, u2])
  all_goals first | omega | trace_state
abbrev zOut : List C := [.v (.sl []), .v (.sl []), .v (.sl []), iC 0]
end Go.Proofs.YtkkleopmambcnaaGreatDoor
set_option linter.unusedVariables false
set_option linter.unusedSimpArgs false
set_option maxRecDepth 100000
set_option maxHeartbeats 8000000
namespace Go.Proofs.YtkkleopmambcnaaGreatDoor.Raft
variable {I : Type}
inductive M (I : Type) where
  | vote (T : Int) (last : Nat) (lt : Int)
  | voted (T : Int)
  | heap (T : Int) (last : Nat) (lt : Int) (items : List I) (commit : Nat)
  | ship (T : Int) (idx : Nat) (st : Int)
  | ack (T : Int) (p : Nat)
  | other
structure Dk (I : Type) where
  term : Int
  vote : Int
  F : List I
  base : Nat
structure Nd (I : Type) where
  old : List (Dk I)
  cur : Dk I
  role : Nat
  votes : Nat → Bool
  mt : Nat → Nat
  commit : Nat
  out : Nat → M I → Prop
structure Gh (I : Type) where
  sent : Nat → Nat → M I → Prop
  LL : Int → List I
  led : Int → Option Nat
  cl : Int → Nat → Option (List I)
  elv : Int → Nat
variable (tm : I → Int)
def lastT (F : List I) : Int := match F.getLast? with | some x => tm x | none => 0
def Valid (g : Gh I) (F : List I) (t : Int) : Prop :=
  ∀ i x, F[i]? = some x → 1 ≤ tm x ∧ tm x ≤ t ∧ g.led (tm x) ≠ none ∧ F.take (i + 1) <+: g.LL (tm x)
def Sup (g : Gh I) (T : Int) (p : Nat) (T1 : Int) : Prop := g.led T1 ≠ none ∧ ¬ (g.LL T).take p <+: g.LL T1
def Kp (g : Gh I) (T : Int) (p : Nat) (F : List I) (b : Int) : Prop := (g.LL T).take p <+: F ∨ ∃ T1, T < T1 ∧ T1 ≤ b ∧ Sup g T p T1
def ep : M I → Option (Int × Nat)
  | .heap T last _ items _ => some (T, last + items.length)
  | .ship T idx _ => some (T, idx)
  | .ack T p => some (T, p)
  | _ => none
def SClaim (g : Gh I) (n : Nat) (T : Int) (p : Nat) : Prop := ∃ to m p', g.sent n to m ∧ ep m = some (T, p') ∧ p ≤ p'
def Iss (g : Gh I) (nd : Nd I) (n to : Nat) (m : M I) : Prop := g.sent n to m ∨ nd.out to m
def Claim (g : Gh I) (nd : Nd I) (n : Nat) (T : Int) (p : Nat) : Prop := ∃ to m p', Iss g nd n to m ∧ ep m = some (T, p') ∧ p ≤ p'
def Chosen (g : Gh I) (T : Int) (p : Nat) : Prop :=
  ∃ l v, l < 3 ∧ v < 3 ∧ l ≠ v ∧ g.led T ≠ none ∧ SClaim g l T p ∧ SClaim g v T p ∧ ∃ x, (g.LL T)[p - 1]? = some x ∧ tm x = T ∧ 1 ≤ p
def Cmt (g : Gh I) (b : Int) (G : List I) : Prop := G = [] ∨ ∃ T p, T ≤ b ∧ Chosen tm g T p ∧ G <+: (g.LL T).take p
def newer (F : List I) (last : Nat) (lt : Int) : Prop := lastT tm F < lt ∨ (lastT tm F = lt ∧ F.length ≤ last)
def MW (g : Gh I) (n to : Nat) : M I → Prop
  | .vote T last lt => ∃ F, g.cl T n = some F ∧ last = F.length ∧ lt = lastT tm F
  | .voted T => ∃ dst last lt, g.sent to dst (.vote T last lt)
  | .heap T last lt items commit => g.led T = some n ∧ last + items.length ≤ (g.LL T).length ∧ items = ((g.LL T).drop last).take items.length ∧ lt = lastT tm ((g.LL T).take last) ∧ commit ≤ (g.LL T).length ∧ Cmt tm g T ((g.LL T).take commit)
  | .ship T idx st => g.led T = some n ∧ 1 ≤ idx ∧ idx ≤ (g.LL T).length ∧ st = lastT tm ((g.LL T).take idx) ∧ Cmt tm g T ((g.LL T).take idx)
  | .ack T p => g.led T = some to ∧ SClaim g to T p ∧ p ≤ (g.LL T).length
  | .other => True
def DF (g : Gh I) (n to : Nat) (m : M I) (d : Dk I) : Prop :=
  (∀ T last lt, m = .vote T last lt → T < d.term ∨ (d.term = T ∧ d.vote = n)) ∧
  (∀ T, m = .voted T → T < d.term ∨ (d.term = T ∧ d.vote = to)) ∧
  (∀ T p, ep m = some (T, p) → T ≤ d.term ∧ ∀ q, q ≤ p → Kp g T q d.F d.term)
def Promise (g : Gh I) (nd : Nd I) (n : Nat) (T : Int) (F : List I) : Prop := ∀ T0 q, T0 < T → Claim g nd n T0 q → Kp g T0 q F (T - 1)
def Voter (g : Gh I) (nd : Nd I) (n c : Nat) (T : Int) : Prop := ∃ F last lt dst, Valid tm g F T ∧ g.sent c dst (.vote T last lt) ∧ newer tm F last lt ∧ Promise g nd n T F
def Cast (g : Gh I) (nd : Nd I) (n : Nat) (T : Int) (c : Nat) : Prop := Iss g nd n c (.voted T) ∨ (c = n ∧ ∃ to last lt, Iss g nd n to (.vote T last lt))
structure DkOk (g : Gh I) (d : Dk I) : Prop where
  valid : Valid tm g d.F d.term
  base : d.base ≤ d.F.length
  cmt : Cmt tm g d.term (d.F.take d.base)
structure NdOk (g : Gh I) (n : Nat) (nd : Nd I) : Prop where
  cur : DkOk tm g nd.cur
  old : ∀ d ∈ nd.old, DkOk tm g d
  mw : ∀ to m, Iss g nd n to m → n ≠ to ∧ to < 3 ∧ MW tm g n to m ∧ DF g n to m nd.cur
  df : ∀ to m, g.sent n to m → ∀ d ∈ nd.old, DF g n to m d
  cand : ∀ to T last lt, Iss g nd n to (.vote T last lt) → ∀ F, g.cl T n = some F → Promise g nd n T F
  voter : ∀ to T, Iss g nd n to (.voted T) → g.led T = none → Voter tm g nd n to T
  elect : ∀ T c, g.led T = some c → g.elv T = n → Voter tm g nd n c T
  cast : ∀ T c c', Cast g nd n T c → Cast g nd n T c' → c = c'
  stands : nd.role = 2 → nd.cur.vote = n ∧ g.cl nd.cur.term n = some nd.cur.F ∧ g.led nd.cur.term ≠ some n ∧ Promise g nd n nd.cur.term nd.cur.F ∧ (∀ x ∈ nd.cur.F, tm x < nd.cur.term) ∧ ∀ v, nd.votes v = true → v = n ∨ g.sent v n (.voted nd.cur.term)
  leads : nd.role = 3 → g.led nd.cur.term = some n ∧ g.LL nd.cur.term = nd.cur.F ∧ ∀ v, nd.mt v = 0 ∨ (v < 3 ∧ SClaim g v nd.cur.term (nd.mt v) ∧ v ≠ n ∧ SClaim g n nd.cur.term (nd.mt v))
  com : nd.commit ≤ nd.cur.F.length
  com2 : nd.cur.base ≤ nd.commit
  com3 : Cmt tm g nd.cur.term (nd.cur.F.take nd.commit)
structure GhOk (g : Gh I) : Prop where
  valid : ∀ t, g.led t ≠ none → Valid tm g (g.LL t) t
  vote : ∀ t c, g.led t = some c → g.elv t ≠ c ∧ g.elv t < 3 ∧ c < 3 ∧ g.sent (g.elv t) c (.voted t)
  cand : ∀ t c, g.led t = some c → ∃ F, g.cl t c = some F ∧ F <+: g.LL t ∧ ∀ i x, (g.LL t)[i]? = some x → F.length ≤ i → tm x = t
  cl : ∀ t c F, g.cl t c = some F → Valid tm g F (t - 1)
structure Inv (g : Gh I) (nd : Nat → Nd I) : Prop where
  gh : GhOk tm g
  nd : ∀ n, n < 3 → NdOk tm g n (nd n)
variable {tm}
theorem Valid.mono {g : Gh I} {F : List I} {t t' : Int} (h : Valid tm g F t) (ht : t ≤ t') : Valid tm g F t' := fun i x hx => by
  obtain ⟨h1, h2, h3, h4⟩ := h i x hx
  exact ⟨h1, by omega, h3, h4⟩
theorem prefix_get {F G : List I} (h : F <+: G) {i : Nat} {x : I} (hx : F[i]? = some x) : G[i]? = some x := by
  obtain ⟨t, rfl⟩ := h
  rw [List.getElem?_append_left]
  · exact hx
  · exact (List.getElem?_eq_some_iff.1 hx).1
theorem Valid.pre {g : Gh I} {F G : List I} {t : Int} (h : Valid tm g G t) (hp : F <+: G) : Valid tm g F t := fun i x hx => by
  obtain ⟨h1, h2, h3, h4⟩ := h i x (prefix_get hp hx)
  refine ⟨h1, h2, h3, ?_⟩
  have hi : i < F.length := (List.getElem?_eq_some_iff.1 hx).1
  have : F.take (i + 1) = G.take (i + 1) := by
    obtain ⟨t, rfl⟩ := hp
    rw [List.take_append_of_le_length (by omega)]
  rw [this]; exact h4
theorem lastT_nil : lastT tm ([] : List I) = 0 := rfl
theorem lastT_get {F : List I} (h : F ≠ []) : ∃ x, F[F.length - 1]? = some x ∧ lastT tm F = tm x := by
  unfold lastT
  have : F.getLast? = F[F.length - 1]? := by rw [List.getLast?_eq_getElem?]
  rw [this]
  have hl : F.length - 1 < F.length := by
    have := List.length_pos_iff.2 h
    omega
  rw [List.getElem?_eq_getElem hl]
  exact ⟨_, rfl, rfl⟩
theorem Valid.last {g : Gh I} {F : List I} {t : Int} (h : Valid tm g F t) (hne : F ≠ []) : 1 ≤ lastT tm F ∧ lastT tm F ≤ t ∧ g.led (lastT tm F) ≠ none ∧ F <+: g.LL (lastT tm F) := by
  obtain ⟨x, hx, e⟩ := lastT_get (tm := tm) hne
  obtain ⟨h1, h2, h3, h4⟩ := h _ x hx
  rw [e]
  refine ⟨h1, h2, h3, ?_⟩
  have hl := List.length_pos_iff.2 hne
  rwa [show F.length - 1 + 1 = F.length by omega, List.take_length] at h4
theorem GhOk.rise {g : Gh I} (hg : GhOk tm g) {F : List I} {t : Int} (h : Valid tm g F t) {i j : Nat} {x y : I} (hi : F[i]? = some x) (hj : F[j]? = some y) (hij : i ≤ j) : tm x ≤ tm y := by
  obtain ⟨h1, h2, h3, h4⟩ := h j y hj
  have : (F.take (j + 1))[i]? = some x := by rw [List.getElem?_take]; simp [show i < j + 1 by omega]; exact hi
  exact (hg.valid _ h3 i x (prefix_get h4 this)).2.1
theorem GhOk.le_last {g : Gh I} (hg : GhOk tm g) {F : List I} {t : Int} (h : Valid tm g F t) {i : Nat} {x : I} (hi : F[i]? = some x) : tm x ≤ lastT tm F := by
  have hlt : i < F.length := (List.getElem?_eq_some_iff.1 hi).1
  have hne : F ≠ [] := by rintro rfl; simp at hlt
  obtain ⟨y, hy, e⟩ := lastT_get (tm := tm) hne
  rw [e]
  exact hg.rise h hi hy (by omega)
theorem pre_or {F G H : List I} (h1 : F <+: H) (h2 : G <+: H) : F <+: G ∨ G <+: F := by
  rcases Nat.le_total F.length G.length with h | h
  · exact .inl (List.prefix_of_prefix_length_le h1 h2 h)
  · exact .inr (List.prefix_of_prefix_length_le h2 h1 h)
theorem take_pre {F : List I} {p q : Nat} (h : p ≤ q) : F.take p <+: F.take q := by
  rw [show F.take p = (F.take q).take p by rw [List.take_take, Nat.min_eq_left h]]
  exact List.take_prefix _ _
theorem SClaim.le {g : Gh I} {n : Nat} {T : Int} {p q : Nat} (h : SClaim g n T p) (hq : q ≤ p) : SClaim g n T q := by
  obtain ⟨to, m, p', h1, h2, h3⟩ := h
  exact ⟨to, m, p', h1, h2, by omega⟩
theorem SClaim.claim {g : Gh I} {nd : Nd I} {n : Nat} {T : Int} {p : Nat} (h : SClaim g n T p) : Claim g nd n T p := by
  obtain ⟨to, m, p', h1, h2, h3⟩ := h
  exact ⟨to, m, p', .inl h1, h2, h3⟩
theorem Inv.complete {g : Gh I} {nd : Nat → Nd I} (h : Inv tm g nd) {T0 : Int} {p : Nat} (hc : Chosen tm g T0 p) : ∀ (k : Nat) (T1 : Int), (T1 - T0).toNat ≤ k → T0 < T1 → g.led T1 ≠ none → (g.LL T0).take p <+: g.LL T1 := by
  obtain ⟨l, v, hl, hv, hlv, hled, c1, c2, x, hx, hxT, hp⟩ := hc
  have hV0 := h.gh.valid _ hled
  intro k
  induction k with
  | zero => intro T1 h1 h2; omega
  | succ k ih =>
    intro T1 hk hlt hl1
    obtain ⟨c, hcl⟩ : ∃ c, g.led T1 = some c := by
      cases hq : g.led T1 with
      | none => exact absurd hq hl1
      | some c => exact ⟨c, rfl⟩
    obtain ⟨hne, hv', hc3, hs⟩ := h.gh.vote _ _ hcl
    obtain ⟨v', hev⟩ : ∃ v', g.elv T1 = v' := ⟨_, rfl⟩
    rw [hev] at hne hv' hs
    obtain ⟨Fc, hFc, hpre, _⟩ := h.gh.cand _ _ hcl
    have hVc := h.gh.cl _ _ _ hFc
    have nosup : ∀ q, q = p → ¬ ∃ T2, T0 < T2 ∧ T2 ≤ T1 - 1 ∧ Sup g T0 q T2 := by
      rintro q rfl ⟨T2, h1, h2, h3, h4⟩
      exact h4 (ih T2 (by omega) h1 h3)
    have hx' : ((g.LL T0).take p)[p - 1]? = some x := by rw [List.getElem?_take]; simp [show p - 1 < p by omega]; exact hx
    obtain ⟨F, last, lt, dst, hVF, hsv, hnew, hpr⟩ := (h.nd v' hv').elect T1 c hcl hev
    obtain ⟨_, _, hmw, _⟩ := (h.nd c hc3).mw dst _ (.inl hsv)
    obtain ⟨Fc', e1, e2, e3⟩ := hmw
    rw [hFc] at e1; cases e1
    by_cases hcase : c = l ∨ c = v
    · have hcc : SClaim g c T0 p := by rcases hcase with rfl | rfl <;> assumption
      have := (h.nd c hc3).cand dst T1 last lt (.inl hsv) Fc hFc T0 p hlt hcc.claim
      rcases this with h1 | h1
      · exact h1.trans hpre
      · exact absurd h1 (nosup p rfl)
    · have hcc : SClaim g v' T0 p := by
        have : v' = l ∨ v' = v := by omega
        rcases this with rfl | rfl <;> assumption
      rcases hpr T0 p hlt hcc.claim with h1 | h1
      · have hxF := prefix_get h1 hx'
        have hge : T0 ≤ lastT tm F := by rw [← hxT]; exact h.gh.le_last hVF hxF
        rcases hnew with h2 | ⟨h2, h3⟩
        · have hne' : Fc ≠ [] := by
            rintro rfl
            rw [lastT_nil] at e3
            have := (hV0 _ _ hx).1
            omega
          obtain ⟨a1, a2, a3, a4⟩ := hVc.last hne'
          rw [← e3] at a1 a2 a3 a4
          have hin := ih lt (by omega) (by omega) a3
          rcases pre_or hin a4 with h4 | h4
          · exact h4.trans hpre
          · obtain ⟨y, hy, ey⟩ := lastT_get (tm := tm) hne'
            have hyp := prefix_get (h4.trans (List.take_prefix _ _)) hy
            have := (hV0 _ _ hyp).2.1
            omega
        · have hneF : F ≠ [] := by rintro rfl; simp at hxF
          have hne' : Fc ≠ [] := by
            rintro rfl
            rw [lastT_nil] at e3
            have := (hV0 _ _ hx).1
            omega
          obtain ⟨_, _, _, a4⟩ := hVc.last hne'
          obtain ⟨_, _, _, b4⟩ := hVF.last hneF
          rw [h2, e3] at b4
          exact (h1.trans (List.prefix_of_prefix_length_le b4 a4 (by omega))).trans hpre
      · exact absurd h1 (nosup p rfl)
theorem Inv.lc {g : Gh I} {nd : Nat → Nd I} (h : Inv tm g nd) {T0 T1 : Int} {p : Nat} (hc : Chosen tm g T0 p) (h1 : T0 ≤ T1) (h2 : g.led T1 ≠ none) : (g.LL T0).take p <+: g.LL T1 := by
  rcases Int.lt_or_eq_of_le h1 with h3 | rfl
  · exact h.complete hc _ T1 (Nat.le_refl _) h3 h2
  · exact List.take_prefix _ _
theorem Inv.same {g : Gh I} {nd : Nat → Nd I} (h : Inv tm g nd) {b b' : Int} {G G' : List I} (h1 : Cmt tm g b G) (h2 : Cmt tm g b' G') : G <+: G' ∨ G' <+: G := by
  rcases h1 with rfl | ⟨T, p, hT, hc, hp⟩
  · exact .inl (List.nil_prefix)
  rcases h2 with rfl | ⟨T', p', hT', hc', hp'⟩
  · exact .inr (List.nil_prefix)
  have hl : g.led T ≠ none := by obtain ⟨_, _, _, _, _, h, _⟩ := hc; exact h
  have hl' : g.led T' ≠ none := by obtain ⟨_, _, _, _, _, h, _⟩ := hc'; exact h
  rcases Int.le_total T T' with h3 | h3
  · exact pre_or (hp.trans (h.lc hc h3 hl')) (hp'.trans (List.take_prefix _ _))
  · exact pre_or (hp.trans (List.take_prefix _ _)) (hp'.trans (h.lc hc' h3 hl))
structure GhLe (tm : I → Int) (g g' : Gh I) : Prop where
  sent : ∀ a b m, g.sent a b m → g'.sent a b m
  led : ∀ t c, g.led t = some c → g'.led t = some c
  LL : ∀ t, g.led t ≠ none → ∃ E, g'.LL t = g.LL t ++ E ∧ ∀ x ∈ E, tm x = t
section
variable {g g' : Gh I}
theorem GhLe.refl (g : Gh I) : GhLe tm g g := ⟨fun _ _ _ h => h, fun _ _ h => h, fun _ _ => ⟨[], by simp, by simp⟩⟩
theorem GhLe.ne (h : GhLe tm g g') {t : Int} (ht : g.led t ≠ none) : g'.led t ≠ none := by
  cases hq : g.led t with
  | none => exact absurd hq ht
  | some c => rw [h.led t c hq]; simp
theorem GhLe.pre (h : GhLe tm g g') {t : Int} (ht : g.led t ≠ none) : g.LL t <+: g'.LL t := by
  obtain ⟨E, hE, _⟩ := h.LL t ht
  exact ⟨E, hE.symm⟩
theorem GhLe.take (h : GhLe tm g g') {t : Int} (ht : g.led t ≠ none) {p : Nat} (hp : p ≤ (g.LL t).length) : (g'.LL t).take p = (g.LL t).take p := by
  obtain ⟨E, hE, _⟩ := h.LL t ht
  rw [hE, List.take_append_of_le_length hp]
theorem Valid.le (h : GhLe tm g g') {F : List I} {t : Int} (hv : Valid tm g F t) : Valid tm g' F t := fun i x hx => by
  obtain ⟨h1, h2, h3, h4⟩ := hv i x hx
  exact ⟨h1, h2, h.ne h3, h4.trans (h.pre h3)⟩
theorem Sup.le (h : GhLe tm g g') (hg : GhOk tm g) {T T1 : Int} {p : Nat} (ht : g.led T ≠ none) (hp : p ≤ (g.LL T).length) (hlt : T < T1) (hs : Sup g T p T1) : Sup g' T p T1 := by
  obtain ⟨h1, h2⟩ := hs
  refine ⟨h.ne h1, fun hc => h2 ?_⟩
  rw [h.take ht hp] at hc
  obtain ⟨E, hE, hx⟩ := h.LL T1 h1
  rw [hE] at hc
  rcases pre_or hc (List.prefix_append (g.LL T1) E) with h3 | h3
  · exact h3
  · obtain ⟨R, hR⟩ := h3
    cases R with
    | nil => rw [← hR]; simp
    | cons y R =>
      have hyE : y ∈ E := by
        rw [← hR] at hc
        have := (List.prefix_append_right_inj (g.LL T1)).1 hc
        obtain ⟨q, rfl⟩ := this
        simp
      have hy : ((g.LL T).take p)[(g.LL T1).length]? = some y := by rw [← hR]; simp
      have hy2 := prefix_get (List.take_prefix _ _) hy
      have := (hg.valid T ht _ _ hy2).2.1
      have := hx y hyE
      omega
theorem Kp.le (h : GhLe tm g g') (hg : GhOk tm g) {T : Int} {p : Nat} {F : List I} {b : Int} (ht : g.led T ≠ none) (hp : p ≤ (g.LL T).length) (hk : Kp g T p F b) : Kp g' T p F b := by
  rcases hk with h1 | ⟨T1, h1, h2, h3⟩
  · exact .inl (by rw [h.take ht hp]; exact h1)
  · exact .inr ⟨T1, h1, h2, h3.le h hg ht hp h1⟩
theorem SClaim.up (h : GhLe tm g g') {n : Nat} {T : Int} {p : Nat} (hs : SClaim g n T p) : SClaim g' n T p := by
  obtain ⟨to, m, p', h1, h2, h3⟩ := hs
  exact ⟨to, m, p', h.sent _ _ _ h1, h2, h3⟩
theorem Chosen.len {T : Int} {p : Nat} (h : Chosen tm g T p) : g.led T ≠ none ∧ p ≤ (g.LL T).length := by
  obtain ⟨l, v, hl, hv, hlv, hled, c1, c2, x, hx, hxT, hp⟩ := h
  have := (List.getElem?_eq_some_iff.1 hx).1
  exact ⟨hled, by omega⟩
theorem Chosen.le (h : GhLe tm g g') {T : Int} {p : Nat} (hc : Chosen tm g T p) : Chosen tm g' T p := by
  obtain ⟨l, v, hl, hv, hlv, hled, c1, c2, x, hx, hxT, hp⟩ := hc
  exact ⟨l, v, hl, hv, hlv, h.ne hled, c1.up h, c2.up h, x, prefix_get (h.pre hled) hx, hxT, hp⟩
theorem Cmt.le (h : GhLe tm g g') {b : Int} {G : List I} (hc : Cmt tm g b G) : Cmt tm g' b G := by
  rcases hc with rfl | ⟨T, p, hT, hc, hp⟩
  · exact .inl rfl
  · obtain ⟨h1, h2⟩ := hc.len
    exact .inr ⟨T, p, hT, hc.le h, by rw [h.take h1 h2]; exact hp⟩
theorem Cmt.mono {b b' : Int} {G : List I} (hc : Cmt tm g b G) (hb : b ≤ b') : Cmt tm g b' G := by
  rcases hc with rfl | ⟨T, p, hT, hc, hp⟩
  · exact .inl rfl
  · exact .inr ⟨T, p, by omega, hc, hp⟩
theorem Cmt.pre {b : Int} {G H : List I} (hc : Cmt tm g b G) (hp : H <+: G) : Cmt tm g b H := by
  rcases hc with rfl | ⟨T, p, hT, hc, hp'⟩
  · exact .inl (List.prefix_nil.1 hp)
  · exact .inr ⟨T, p, hT, hc, hp.trans hp'⟩
theorem drop_take_app {L E : List I} {a k : Nat} (h : a + k ≤ L.length) : ((L ++ E).drop a).take k = (L.drop a).take k := by
  rw [List.drop_append_of_le_length (by omega), List.take_append_of_le_length (by rw [List.length_drop]; omega)]
theorem MW.ep {n to : Nat} {m : M I} {T : Int} {p : Nat} (h : MW tm g n to m) (he : ep m = some (T, p)) : g.led T ≠ none ∧ p ≤ (g.LL T).length := by
  cases m with
  | heap T' last lt items c => cases he; exact ⟨by rw [h.1]; simp, h.2.1⟩
  | ship T' idx st => cases he; exact ⟨by rw [h.1]; simp, h.2.2.1⟩
  | ack T' p' => cases he; exact ⟨by rw [h.1]; simp, h.2.2⟩
  | _ => cases he
theorem MW.le (h : GhLe tm g g') {n to : Nat} {m : M I} (hcl : ∀ T last lt, m = .vote T last lt → g'.cl T n = g.cl T n) (hm : MW tm g n to m) : MW tm g' n to m := by
  cases m with
  | vote T last lt => obtain ⟨F, h1, h2⟩ := hm; exact ⟨F, by rw [hcl _ _ _ rfl]; exact h1, h2⟩
  | voted T => obtain ⟨d, l, t, h1⟩ := hm; exact ⟨d, l, t, h.sent _ _ _ h1⟩
  | heap T last lt items c =>
    obtain ⟨h1, h2, h3, h4, h5, h6⟩ := hm
    have hn : g.led T ≠ none := by rw [h1]; simp
    obtain ⟨E, hE, _⟩ := h.LL T hn
    refine ⟨h.led _ _ h1, ?_, ?_, ?_, ?_, ?_⟩
    · rw [hE, List.length_append]; omega
    · rw [hE, drop_take_app h2]; exact h3
    · rw [h.take hn (by omega)]; exact h4
    · rw [hE, List.length_append]; omega
    · rw [h.take hn h5]; exact h6.le h
  | ship T idx st =>
    obtain ⟨h1, h2, h3, h4, h5⟩ := hm
    have hn : g.led T ≠ none := by rw [h1]; simp
    refine ⟨h.led _ _ h1, h2, Nat.le_trans h3 (h.pre hn).length_le, ?_, ?_⟩
    · rw [h.take hn h3]; exact h4
    · rw [h.take hn h3]; exact h5.le h
  | ack T p =>
    obtain ⟨h1, h2, h3⟩ := hm
    have hn : g.led T ≠ none := by rw [h1]; simp
    exact ⟨h.led _ _ h1, h2.up h, Nat.le_trans h3 (h.pre hn).length_le⟩
  | other => trivial
theorem DF.le (h : GhLe tm g g') (hg : GhOk tm g) {n to : Nat} {m : M I} {d : Dk I} (hm : MW tm g n to m) (hd : DF g n to m d) : DF g' n to m d := by
  refine ⟨hd.1, hd.2.1, fun T p he => ⟨(hd.2.2 T p he).1, fun q hq => ?_⟩⟩
  obtain ⟨h1, h2⟩ := hm.ep he
  exact ((hd.2.2 T p he).2 q hq).le h hg h1 (by omega)
theorem DkOk.le (h : GhLe tm g g') {d : Dk I} (hd : DkOk tm g d) : DkOk tm g' d := ⟨hd.valid.le h, hd.base, hd.cmt.le h⟩
theorem Claim.ep {nd : Nd I} {n : Nat} {T : Int} {p : Nat} (hmw : ∀ to m, Iss g nd n to m → MW tm g n to m) (h : Claim g nd n T p) : g.led T ≠ none ∧ p ≤ (g.LL T).length := by
  obtain ⟨to, m, p', h1, h2, h3⟩ := h
  obtain ⟨h4, h5⟩ := (hmw _ _ h1).ep h2
  exact ⟨h4, by omega⟩
theorem Promise.le (h : GhLe tm g g') (hg : GhOk tm g) {nd nd' : Nd I} {n : Nat} {T : Int} {F : List I} (hmw : ∀ to m, Iss g nd n to m → MW tm g n to m) (hi : ∀ T0 q, T0 < T → Claim g' nd' n T0 q → Claim g nd n T0 q) (hp : Promise g nd n T F) : Promise g' nd' n T F := by
  intro T0 q hlt hc
  have hc' := hi T0 q hlt hc
  obtain ⟨h1, h2⟩ := hc'.ep hmw
  exact (hp T0 q hlt hc').le h hg h1 h2
theorem NdOk.le (h : GhLe tm g g') (hg : GhOk tm g) {n : Nat} {nd : Nd I} (hs : ∀ to m, g'.sent n to m → g.sent n to m) (hcl : ∀ t, (g'.cl t n = g.cl t n ∨ nd.cur.term < t ∧ nd.role ≠ 2)) (hled : nd.role = 2 → g'.led nd.cur.term = some n → g.led nd.cur.term = some n) (hLL : nd.role = 3 → g'.LL nd.cur.term = g.LL nd.cur.term)
    (hel : ∀ T c, g'.led T = some c → g'.elv T = n → (g.led T = some c ∧ g.elv T = n) ∨ (g.led T = none ∧ g.sent n c (.voted T))) (ho : NdOk tm g n nd) : NdOk tm g' n nd := by
  have hiss : ∀ to m, Iss g' nd n to m → Iss g nd n to m := fun to m hm => hm.elim (fun x => .inl (hs _ _ x)) .inr
  have hclaim : ∀ T q, Claim g' nd n T q → Claim g nd n T q := fun T q ⟨to, m, p', h1, h2⟩ => ⟨to, m, p', hiss _ _ h1, h2⟩
  have hmw : ∀ to m, Iss g nd n to m → MW tm g n to m := fun to m hm => (ho.mw to m hm).2.2.1
  have hcl1 : ∀ to T last lt, Iss g nd n to (.vote T last lt) → g'.cl T n = g.cl T n := fun to T last lt hm => by
    rcases hcl T with h1 | ⟨h1, _⟩
    · exact h1
    · rcases (ho.mw to _ hm).2.2.2.1 T last lt rfl with h2 | ⟨h2, _⟩ <;> omega
  have hvo : ∀ c T, Voter tm g nd n c T → Voter tm g' nd n c T := fun c T ⟨F, last, lt, dst, h1, h2, h3, h4⟩ => ⟨F, last, lt, dst, h1.le h, h.sent _ _ _ h2, h3, h4.le h hg hmw fun T0 q _ => hclaim T0 q⟩
  refine ⟨ho.cur.le h, fun d hd => (ho.old d hd).le h, fun to m hm => ?_, fun to m hm d hd => ?_, fun to T last lt hm F hF => ?_, fun to T hm hn => ?_, fun T c h1 h2 => ?_, fun T c c' h1 h2 => ?_, fun hr => ?_, fun hr => ?_, ho.com, ho.com2, ho.com3.le h⟩
  · obtain ⟨h1, h2, h3, h4⟩ := ho.mw to m (hiss _ _ hm)
    exact ⟨h1, h2, h3.le h fun T last lt e => hcl1 to T last lt (e ▸ hiss _ _ hm), h4.le h hg h3⟩
  · exact (ho.df to m (hs _ _ hm) d hd).le h hg (hmw _ _ (.inl (hs _ _ hm)))
  · exact (ho.cand to T last lt (hiss _ _ hm) F (by rw [← hcl1 to T last lt (hiss _ _ hm)]; exact hF)).le h hg hmw fun T0 q _ => hclaim T0 q
  · refine hvo to T (ho.voter to T (hiss _ _ hm) ?_)
    cases hq : g.led T with
    | none => rfl
    | some c => rw [h.led T c hq] at hn; cases hn
  · rcases hel T c h1 h2 with ⟨h3, h4⟩ | ⟨h3, h4⟩
    · exact hvo c T (ho.elect T c h3 h4)
    · exact hvo c T (ho.voter c T (.inl h4) h3)
  · have hc : ∀ c, Cast g' nd n T c → Cast g nd n T c := fun c hc => hc.elim (fun x => .inl (hiss _ _ x)) fun ⟨e, to, l, t, x⟩ => .inr ⟨e, to, l, t, hiss _ _ x⟩
    exact ho.cast T c c' (hc _ h1) (hc _ h2)
  · obtain ⟨h1, h2, h3, h4, h5, h6⟩ := ho.stands hr
    exact ⟨h1, by rw [(hcl _).resolve_right fun x => x.2 hr]; exact h2, fun e => h3 (hled hr e), h4.le h hg hmw fun T0 q _ => hclaim T0 q, h5, fun v hv => (h6 v hv).imp_right (h.sent _ _ _)⟩
  · obtain ⟨h1, h2, h3⟩ := ho.leads hr
    exact ⟨h.led _ _ h1, by rw [hLL hr]; exact h2, fun v => (h3 v).imp_right fun ⟨a, b, c, d⟩ => ⟨a, b.up h, c, d.up h⟩⟩
end
def upd {α : Type} (f : Nat → α) (n : Nat) (x : α) : Nat → α := fun j => if j = n then x else f j
theorem upd_same {α : Type} (f : Nat → α) (n : Nat) (x : α) : upd f n x n = x := by simp [upd]
theorem upd_ne {α : Type} (f : Nat → α) (n : Nat) (x : α) {j : Nat} (h : j ≠ n) : upd f n x j = f j := by simp [upd, h]
theorem Inv.step {g g' : Gh I} {nd : Nat → Nd I} (h : Inv tm g nd) (n : Nat) {x : Nd I} (hle : GhLe tm g g') (hs : ∀ j, j ≠ n → ∀ to m, g'.sent j to m → g.sent j to m) (hcl : ∀ j, j ≠ n → ∀ t, g'.cl t j = g.cl t j) (hled : ∀ j, j ≠ n → ∀ t, g'.led t = some j → g.led t = some j) (hLL : ∀ j, j ≠ n → ∀ t, g.led t = some j → g'.LL t = g.LL t)
    (hel : ∀ j, j ≠ n → ∀ T c, g'.led T = some c → g'.elv T = j → (g.led T = some c ∧ g.elv T = j) ∨ (g.led T = none ∧ g.sent j c (.voted T)))
    (hg : GhOk tm g') (hn : n < 3 → NdOk tm g' n x) : Inv tm g' (upd nd n x) := by
  refine ⟨hg, fun j hj => ?_⟩
  by_cases e : j = n
  · subst e; rw [upd_same]; exact hn hj
  · rw [upd_ne _ _ _ e]
    have hk := h.nd j hj
    exact hk.le hle h.gh (hs j e) (fun t => .inl (hcl j e t)) (fun _ => hled j e _) (fun hr => hLL j e _ (hk.leads hr).1) (hel j e)
theorem Inv.step0 {g : Gh I} {nd : Nat → Nd I} (h : Inv tm g nd) (n : Nat) {x : Nd I} (hn : n < 3 → NdOk tm g n x) : Inv tm g (upd nd n x) :=
  h.step n (GhLe.refl g) (fun _ _ _ _ h => h) (fun _ _ _ => rfl) (fun _ _ _ h => h) (fun _ _ _ _ => rfl) (fun _ _ _ _ h1 h2 => .inl ⟨h1, h2⟩) h.gh hn
section
variable {g : Gh I} {n : Nat} {x : Nd I}
structure DkLe (g : Gh I) (d d' : Dk I) : Prop where
  term : d.term ≤ d'.term
  vote : d.term = d'.term → 0 ≤ d.vote → d'.vote = d.vote
  kp : ∀ T q, g.led T ≠ none → q ≤ (g.LL T).length → T ≤ d.term → Kp g T q d.F d.term → Kp g T q d'.F d'.term
theorem Kp.mono {T : Int} {q : Nat} {F : List I} {b b' : Int} (h : Kp g T q F b) (hb : b ≤ b') : Kp g T q F b' :=
  h.imp_right fun ⟨T1, h1, h2, h3⟩ => ⟨T1, h1, by omega, h3⟩
theorem DF.on {to : Nat} {m : M I} {d d' : Dk I} (hl : DkLe g d d') (hm : MW tm g n to m) (h : DF g n to m d) : DF g n to m d' := by
  refine ⟨fun T last lt e => ?_, fun T e => ?_, fun T p e => ?_⟩
  · rcases h.1 T last lt e with h1 | ⟨h1, h2⟩
    · have := hl.term; exact .inl (by omega)
    · rcases Int.lt_or_eq_of_le hl.term with h3 | h3
      · exact .inl (by omega)
      · exact .inr ⟨by omega, by rw [hl.vote h3 (by omega), h2]⟩
  · rcases h.2.1 T e with h1 | ⟨h1, h2⟩
    · have := hl.term; exact .inl (by omega)
    · rcases Int.lt_or_eq_of_le hl.term with h3 | h3
      · exact .inl (by omega)
      · exact .inr ⟨by omega, by rw [hl.vote h3 (by omega), h2]⟩
  · obtain ⟨h1, h2⟩ := h.2.2 T p e
    obtain ⟨h3, h4⟩ := hm.ep e
    have := hl.term
    exact ⟨by omega, fun q hq => hl.kp T q h3 (by omega) h1 (h2 q hq)⟩
theorem NdOk.write (h : NdOk tm g n x) {d : Dk I} {role : Nat} {votes : Nat → Bool} {mt : Nat → Nat} {commit : Nat} (hd : DkOk tm g d) (hl : DkLe g x.cur d)
    (hst : role = 2 → d.vote = n ∧ g.cl d.term n = some d.F ∧ g.led d.term ≠ some n ∧ Promise g x n d.term d.F ∧ (∀ y ∈ d.F, tm y < d.term) ∧ ∀ v, votes v = true → v = n ∨ g.sent v n (.voted d.term))
    (hld : role = 3 → g.led d.term = some n ∧ g.LL d.term = d.F ∧ ∀ v, mt v = 0 ∨ (v < 3 ∧ SClaim g v d.term (mt v) ∧ v ≠ n ∧ SClaim g n d.term (mt v)))
    (h1 : commit ≤ d.F.length) (h2 : d.base ≤ commit) (h3 : Cmt tm g d.term (d.F.take commit)) : NdOk tm g n ⟨x.old ++ [x.cur], d, role, votes, mt, commit, x.out⟩ :=
  ⟨hd, fun e he => by
    rcases List.mem_append.1 he with he | he
    · exact h.old e he
    · rw [List.mem_singleton] at he; subst he; exact h.cur,
   fun to m hm => let ⟨a, b, c, e⟩ := h.mw to m hm; ⟨a, b, c, e.on hl c⟩,
   fun to m hm e he => by
    rcases List.mem_append.1 he with he | he
    · exact h.df to m hm e he
    · rw [List.mem_singleton] at he; subst he; exact (h.mw to m (.inl hm)).2.2.2,
   h.cand, h.voter, h.elect, h.cast, hst, hld, h1, h2, h3⟩
theorem NdOk.keep (h : NdOk tm g n x) {role : Nat} {votes : Nat → Bool} {mt : Nat → Nat} {commit : Nat}
    (hst : role = 2 → x.cur.vote = n ∧ g.cl x.cur.term n = some x.cur.F ∧ g.led x.cur.term ≠ some n ∧ Promise g x n x.cur.term x.cur.F ∧ (∀ y ∈ x.cur.F, tm y < x.cur.term) ∧ ∀ v, votes v = true → v = n ∨ g.sent v n (.voted x.cur.term))
    (hld : role = 3 → g.led x.cur.term = some n ∧ g.LL x.cur.term = x.cur.F ∧ ∀ v, mt v = 0 ∨ (v < 3 ∧ SClaim g v x.cur.term (mt v) ∧ v ≠ n ∧ SClaim g n x.cur.term (mt v)))
    (h1 : commit ≤ x.cur.F.length) (h2 : x.cur.base ≤ commit) (h3 : Cmt tm g x.cur.term (x.cur.F.take commit)) : NdOk tm g n ⟨x.old, x.cur, role, votes, mt, commit, x.out⟩ :=
  ⟨h.cur, h.old, h.mw, h.df, h.cand, h.voter, h.elect, h.cast, hst, hld, h1, h2, h3⟩
theorem NdOk.follow (h : NdOk tm g n x) {role : Nat} (hr : role < 2) {votes : Nat → Bool} {mt : Nat → Nat} : NdOk tm g n ⟨x.old, x.cur, role, votes, mt, x.commit, x.out⟩ :=
  h.keep (fun e => by omega) (fun e => by omega) h.com h.com2 h.com3
theorem DkLe.same {d d' : Dk I} (hF : d'.F = d.F) (ht : d.term ≤ d'.term) (hv : d.term = d'.term → 0 ≤ d.vote → d'.vote = d.vote) : DkLe g d d' :=
  ⟨ht, hv, fun T q _ _ _ hk => by rw [hF]; exact hk.mono ht⟩
theorem NdOk.later (h : NdOk tm g n x) {T v : Int} {role : Nat} {votes : Nat → Bool} {mt : Nat → Nat} (hr : role < 2) (hT : x.cur.term < T) : NdOk tm g n ⟨x.old ++ [x.cur], { x.cur with term := T, vote := v }, role, votes, mt, x.commit, x.out⟩ :=
  h.write ⟨h.cur.valid.mono (by simp; omega), h.cur.base, h.cur.cmt.mono (by simp; omega)⟩ (DkLe.same rfl (by simp; omega) (fun e => by simp at e; omega)) (fun e => by omega) (fun e => by omega) h.com h.com2 (h.com3.mono (by simp; omega))
theorem NdOk.votes (h : NdOk tm g n x) {v : Int} (hv : x.cur.vote < 0) : NdOk tm g n ⟨x.old ++ [x.cur], { x.cur with vote := v }, x.role, x.votes, x.mt, x.commit, x.out⟩ :=
  h.write ⟨h.cur.valid, h.cur.base, h.cur.cmt⟩ (DkLe.same rfl (by simp) (fun _ e => by omega)) (fun e => by have := (h.stands e).1; omega) (fun e => h.leads e) h.com h.com2 h.com3
theorem NdOk.trim (h : NdOk tm g n x) : NdOk tm g n ⟨x.old ++ [x.cur], { x.cur with base := x.commit }, x.role, x.votes, x.mt, x.commit, x.out⟩ :=
  h.write ⟨h.cur.valid, h.com, h.com3⟩ (DkLe.same rfl (by simp) (fun _ _ => rfl)) (fun e => h.stands e) (fun e => h.leads e) h.com (Nat.le_refl _) h.com3
theorem same_up {F : List I} {t T : Int} (hF : Valid tm g F t) (hL : Valid tm g (g.LL T) T) {i : Nat} {a b : I} (ha : F[i]? = some a) (hb : (g.LL T)[i]? = some b) (e : tm a = tm b) : F.take (i + 1) = (g.LL T).take (i + 1) := by
  obtain ⟨_, _, _, h4⟩ := hF i a ha
  obtain ⟨_, _, _, g4⟩ := hL i b hb
  rw [e] at h4
  have hi := (List.getElem?_eq_some_iff.1 ha).1
  have hi' := (List.getElem?_eq_some_iff.1 hb).1
  have e1 := List.prefix_iff_eq_take.1 h4
  have e2 := List.prefix_iff_eq_take.1 g4
  rw [List.length_take, Nat.min_eq_left (by omega)] at e1 e2
  rw [e1, e2]
theorem DkLe.adopt (hg : GhOk tm g) {d d' : Dk I} (hd : Valid tm g d.F d.term) (hT : g.led d.term ≠ none) {j : Nat} (hj : 1 ≤ j) (hjl : j ≤ (g.LL d.term).length) (hc : ∀ a b, d.F[j - 1]? = some a → (g.LL d.term)[j - 1]? = some b → tm a ≠ tm b)
    (e1 : d'.term = d.term) (e2 : d'.vote = d.vote) (e3 : d'.F = (g.LL d.term).take j) : DkLe g d d' := by
  refine ⟨by omega, fun _ _ => e2, fun T q h1 h2 h3 hk => ?_⟩
  rw [e1, e3]
  rcases hk with hk | hk
  · by_cases hp : (g.LL T).take q <+: g.LL d.term
    · by_cases hq : q ≤ j
      · refine .inl (List.prefix_of_prefix_length_le hp (List.take_prefix _ _) ?_)
        rw [List.length_take, List.length_take]; omega
      · exfalso
        have hlt : j - 1 < ((g.LL T).take q).length := by rw [List.length_take]; omega
        obtain ⟨a, ha⟩ : ∃ a, ((g.LL T).take q)[j - 1]? = some a := ⟨_, List.getElem?_eq_getElem hlt⟩
        exact hc a a (prefix_get hk ha) (prefix_get hp ha) rfl
    · rcases Int.lt_or_eq_of_le h3 with h4 | h4
      · exact .inr ⟨d.term, h4, Int.le_refl _, hT, hp⟩
      · subst h4; exact absurd (List.take_prefix _ _) hp
  · exact .inr hk
theorem Inv.cmtIn {nd : Nat → Nd I} (h : Inv tm g nd) {b : Int} {G : List I} (hc : Cmt tm g b G) {T : Int} (hb : b ≤ T) (hT : g.led T ≠ none) : G <+: g.LL T := by
  rcases hc with rfl | ⟨T0, p, h1, h2, h3⟩
  · exact List.nil_prefix
  · exact h3.trans (h.lc h2 (by omega) hT)
theorem NdOk.adopt {nd : Nat → Nd I} (hi : Inv tm g nd) (h : NdOk tm g n x) (hT : g.led x.cur.term ≠ none) (hT' : g.led x.cur.term ≠ some n) {j : Nat} (hj : 1 ≤ j) (hjl : j ≤ (g.LL x.cur.term).length)
    (hc : ∀ a b, x.cur.F[j - 1]? = some a → (g.LL x.cur.term)[j - 1]? = some b → tm a ≠ tm b) (hr : x.role ≠ 2) : x.commit < j ∧ NdOk tm g n ⟨x.old ++ [x.cur], { x.cur with F := (g.LL x.cur.term).take j }, x.role, x.votes, x.mt, x.commit, x.out⟩ := by
  have hin := hi.cmtIn h.com3 (Int.le_refl _) hT
  have hlt : x.commit < j := by
    apply Nat.lt_of_not_le
    intro hle
    have hl : j - 1 < (x.cur.F.take x.commit).length := by rw [List.length_take]; have := h.com; omega
    obtain ⟨a, ha⟩ : ∃ a, (x.cur.F.take x.commit)[j - 1]? = some a := ⟨_, List.getElem?_eq_getElem hl⟩
    exact hc a a (prefix_get (List.take_prefix _ _) ha) (prefix_get hin ha) rfl
  have he : ((g.LL x.cur.term).take j).take x.commit = x.cur.F.take x.commit := by
    rw [List.take_take, Nat.min_eq_left (by omega)]
    have := List.prefix_iff_eq_take.1 hin
    rw [List.length_take, Nat.min_eq_left h.com] at this
    exact this.symm
  have hb : ((g.LL x.cur.term).take j).take x.cur.base = x.cur.F.take x.cur.base := by
    have h1 : ∀ L : List I, L.take x.cur.base = (L.take x.commit).take x.cur.base := fun L => by rw [List.take_take, Nat.min_eq_left h.com2]
    rw [h1, he, ← h1]
  refine ⟨hlt, h.write ⟨?_, ?_, ?_⟩ (DkLe.adopt hi.gh h.cur.valid hT hj hjl hc rfl rfl rfl) (fun e => absurd e hr) (fun e => absurd (h.leads e).1 hT') ?_ h.com2 ?_⟩
  · exact (hi.gh.valid _ hT).pre (List.take_prefix _ _)
  · show x.cur.base ≤ _; rw [List.length_take]; have := h.com2; omega
  · show Cmt tm g _ _; rw [hb]; exact h.cur.cmt
  · show x.commit ≤ _; rw [List.length_take]; omega
  · show Cmt tm g _ _; rw [he]; exact h.com3
theorem NdOk.load (h : NdOk tm g n x) {j : Nat} (hjl : j ≤ x.cur.F.length) (hj : x.commit ≤ j) (hc : Cmt tm g x.cur.term (x.cur.F.take j)) : NdOk tm g n ⟨x.old ++ [x.cur], { x.cur with base := j }, x.role, x.votes, x.mt, j, x.out⟩ :=
  h.write ⟨h.cur.valid, hjl, hc⟩ (DkLe.same rfl (by simp) (fun _ _ => rfl)) (fun e => h.stands e) (fun e => h.leads e) hjl (Nat.le_refl _) hc
theorem NdOk.loadNew {nd : Nat → Nd I} (hi : Inv tm g nd) (h : NdOk tm g n x) (hT : g.led x.cur.term ≠ none) (hT' : g.led x.cur.term ≠ some n) {j : Nat} (hj : 1 ≤ j) (hjl : j ≤ (g.LL x.cur.term).length)
    (hc : ∀ a b, x.cur.F[j - 1]? = some a → (g.LL x.cur.term)[j - 1]? = some b → tm a ≠ tm b) (hr : x.role ≠ 2) (hcm : Cmt tm g x.cur.term ((g.LL x.cur.term).take j)) :
    NdOk tm g n ⟨x.old ++ [x.cur], { x.cur with F := (g.LL x.cur.term).take j, base := j }, x.role, x.votes, x.mt, j, x.out⟩ := by
  refine h.write ⟨?_, ?_, ?_⟩ (DkLe.adopt hi.gh h.cur.valid hT hj hjl hc rfl rfl rfl) (fun e => absurd e hr) (fun e => absurd (h.leads e).1 hT') ?_ (Nat.le_refl _) ?_
  · exact (hi.gh.valid _ hT).pre (List.take_prefix _ _)
  · show j ≤ _; rw [List.length_take]; omega
  · show Cmt tm g _ _; rw [List.take_take, Nat.min_self]; exact hcm
  · show j ≤ _; rw [List.length_take]; omega
  · show Cmt tm g _ _; rw [List.take_take, Nat.min_self]; exact hcm
theorem NdOk.iss_le (h : NdOk tm g n x) {to : Nat} {m : M I} (hm : Iss g x n to m) : (∀ T last lt, m = .vote T last lt → T ≤ x.cur.term) ∧ (∀ T, m = .voted T → T ≤ x.cur.term) := by
  obtain ⟨_, _, _, h1, h2, _⟩ := h.mw to m hm
  refine ⟨fun T last lt e => ?_, fun T e => ?_⟩
  · rcases h1 T last lt e with h3 | ⟨h3, _⟩ <;> omega
  · rcases h2 T e with h3 | ⟨h3, _⟩ <;> omega
theorem NdOk.push (h : NdOk tm g n x) {to : Nat} {m : M I} (h1 : n ≠ to) (h2 : to < 3) (hw : MW tm g n to m) (hd : DF g n to m x.cur)
    (hep : ∀ T p, ep m = some (T, p) → x.cur.term ≤ T)
    (hca : ∀ T last lt, m = .vote T last lt → ∀ F, g.cl T n = some F → Promise g x n T F)
    (hvo : ∀ T, m = .voted T → g.led T = none → Voter tm g x n to T) (hg : GhOk tm g)
    (hcs : ∀ T, (m = .voted T ∨ ∃ last lt, m = .vote T last lt) → x.cur.term = T ∧ ∀ c, Cast g x n T c → c = x.cur.vote)
    (hcs2 : ∀ T, m = .voted T → x.cur.vote = to) (hcs3 : ∀ T last lt, m = .vote T last lt → x.cur.vote = n) :
    NdOk tm g n { x with out := fun t a => x.out t a ∨ (t = to ∧ a = m) } := by
  have hiss : ∀ {t a}, Iss g { x with out := fun t a => x.out t a ∨ (t = to ∧ a = m) } n t a → Iss g x n t a ∨ (t = to ∧ a = m) := by
    rintro t a (h3 | h3 | h3)
    · exact .inl (.inl h3)
    · exact .inl (.inr h3)
    · exact .inr h3
  have hpro : ∀ {T : Int} {F : List I}, T ≤ x.cur.term → Promise g x n T F → Promise g { x with out := fun t a => x.out t a ∨ (t = to ∧ a = m) } n T F := by
    intro T F hT hp T0 q hlt ⟨t, a, p', hm, he, hq⟩
    rcases hiss hm with hm | ⟨_, rfl⟩
    · exact hp T0 q hlt ⟨t, a, p', hm, he, hq⟩
    · have := hep _ _ he; omega
  have hself : ∀ T, (m = .voted T ∨ ∃ last lt, m = .vote T last lt) → T ≤ x.cur.term := fun T e => by have := (hcs T e).1; omega
  refine ⟨h.cur, h.old, fun t a hm => ?_, h.df, fun t T last lt hm F hF => ?_, fun t T hm hn => ?_, fun T c e1 e2 => ?_, fun T c c' hc hc' => ?_, fun hr => ?_, h.leads, h.com, h.com2, h.com3⟩
  · rcases hiss hm with hm | ⟨rfl, rfl⟩
    · exact h.mw t a hm
    · exact ⟨h1, h2, hw, hd⟩
  · rcases hiss hm with hm | ⟨rfl, e⟩
    · exact hpro ((h.iss_le hm).1 _ _ _ rfl) (h.cand t T last lt hm F hF)
    · exact hpro (hself T (.inr ⟨last, lt, e.symm⟩)) (hca T last lt e.symm F hF)
  · rcases hiss hm with hm | ⟨rfl, e⟩
    · obtain ⟨F, last, lt, dst, a, b, c, d⟩ := h.voter t T hm hn
      exact ⟨F, last, lt, dst, a, b, c, hpro ((h.iss_le hm).2 _ rfl) d⟩
    · obtain ⟨F, last, lt, dst, a, b, c, d⟩ := hvo T e.symm hn
      exact ⟨F, last, lt, dst, a, b, c, hpro (hself T (.inl e.symm)) d⟩
  · obtain ⟨F, last, lt, dst, a, b, c', d⟩ := h.elect T c e1 e2
    exact ⟨F, last, lt, dst, a, b, c', hpro ((h.iss_le (.inl (e2 ▸ (hg.vote T c e1).2.2.2))).2 _ rfl) d⟩
  · have key : ∀ c, Cast g { x with out := fun t a => x.out t a ∨ (t = to ∧ a = m) } n T c → Cast g x n T c ∨ ((m = .voted T ∨ ∃ last lt, m = .vote T last lt) ∧ (c : Int) = x.cur.vote) := by
      rintro c (hm | ⟨rfl, t, last, lt, hm⟩)
      · rcases hiss hm with hm | ⟨rfl, e⟩
        · exact .inl (.inl hm)
        · exact .inr ⟨.inl e.symm, (hcs2 T e.symm).symm⟩
      · rcases hiss hm with hm | ⟨rfl, e⟩
        · exact .inl (.inr ⟨rfl, t, last, lt, hm⟩)
        · exact .inr ⟨.inr ⟨last, lt, e.symm⟩, (hcs3 T last lt e.symm).symm⟩
    rcases key c hc with k1 | ⟨k1, e1⟩ <;> rcases key c' hc' with k2 | ⟨k2, e2⟩
    · exact h.cast T c c' k1 k2
    · have := (hcs T k2).2 c k1; omega
    · have := (hcs T k1).2 c' k2; omega
    · omega
  · obtain ⟨a, b, c, d, e, f⟩ := h.stands hr
    exact ⟨a, b, c, hpro (Int.le_refl _) d, e, f⟩
theorem DF.none {to : Nat} {m : M I} {d : Dk I} (h1 : ∀ T last lt, m ≠ .vote T last lt) (h2 : ∀ T, m ≠ .voted T) (h3 : ∀ T p, ep m = some (T, p) → T ≤ d.term ∧ ∀ q, q ≤ p → Kp g T q d.F d.term) : DF g n to m d :=
  ⟨fun T last lt e => absurd e (h1 T last lt), fun T e => absurd e (h2 T), h3⟩
theorem NdOk.pushOther (h : NdOk tm g n x) (hg : GhOk tm g) {to : Nat} (h1 : n ≠ to) (h2 : to < 3) : NdOk tm g n { x with out := fun t a => x.out t a ∨ (t = to ∧ a = .other) } :=
  h.push h1 h2 trivial (DF.none (by simp) (by simp) (by simp [ep])) (by simp [ep]) (by simp) (by simp) hg (by simp) (by simp) (by simp)
theorem take_pre_of {F L : List I} {p q : Nat} (h : L.take p <+: F) (hq : q ≤ p) : L.take q <+: F := (take_pre hq).trans h
theorem NdOk.pushClaim (h : NdOk tm g n x) (hg : GhOk tm g) {to : Nat} {m : M I} {p : Nat} (h1 : n ≠ to) (h2 : to < 3) (hw : MW tm g n to m) (he : ep m = some (x.cur.term, p)) (hp : (g.LL x.cur.term).take p <+: x.cur.F) : NdOk tm g n { x with out := fun t a => x.out t a ∨ (t = to ∧ a = m) } := by
  have a1 : ∀ T last lt, m ≠ .vote T last lt := by rintro T last lt rfl; cases he
  have a2 : ∀ T, m ≠ .voted T := by rintro T rfl; cases he
  refine h.push h1 h2 hw (DF.none a1 a2 fun T q e => ?_) (fun T q e => ?_) (fun T last lt e => absurd e (a1 T last lt)) (fun T e => absurd e (a2 T)) hg ?_ (fun T e => absurd e (a2 T)) (fun T last lt e => absurd e (a1 T last lt))
  · rw [he] at e; cases e
    exact ⟨Int.le_refl _, fun q hq => .inl (take_pre_of hp hq)⟩
  · rw [he] at e; cases e; exact Int.le_refl _
  · rintro T (e | ⟨last, lt, e⟩)
    · exact absurd e (a2 T)
    · exact absurd e (a1 T last lt)
theorem NdOk.cast_cur (h : NdOk tm g n x) {c : Nat} (hc : Cast g x n x.cur.term c) : (c : Int) = x.cur.vote := by
  rcases hc with hm | ⟨rfl, t, last, lt, hm⟩
  · obtain ⟨_, _, _, _, h2, _⟩ := h.mw _ _ hm
    rcases h2 _ rfl with h3 | h3
    · omega
    · exact h3.2.symm
  · obtain ⟨_, _, _, h1, _, _⟩ := h.mw _ _ hm
    rcases h1 _ _ _ rfl with h3 | h3
    · omega
    · exact h3.2.symm
theorem NdOk.pushVote (h : NdOk tm g n x) (hg : GhOk tm g) (hr : x.role = 2) {to : Nat} (h1 : n ≠ to) (h2 : to < 3) : NdOk tm g n { x with out := fun t a => x.out t a ∨ (t = to ∧ a = .vote x.cur.term x.cur.F.length (lastT tm x.cur.F)) } := by
  obtain ⟨e1, e2, e3, e4, e5, e6⟩ := h.stands hr
  refine h.push h1 h2 ⟨_, e2, rfl, rfl⟩ ⟨?_, by simp, by simp [ep]⟩ (by simp [ep]) ?_ (by simp) hg ?_ (by simp) ?_
  · rintro T last lt e; cases e; exact .inr ⟨rfl, e1⟩
  · rintro T last lt e F hF; cases e
    rw [e2] at hF; cases hF; exact e4
  · rintro T (e | ⟨last, lt, e⟩)
    · cases e
    · cases e; exact ⟨rfl, fun c hc => h.cast_cur hc⟩
  · rintro T last lt e; exact e1
theorem NdOk.pushVoted (h : NdOk tm g n x) (hg : GhOk tm g) {to dst last : Nat} {lt : Int} (h1 : n ≠ to) (h2 : to < 3) (hs : g.sent to dst (.vote x.cur.term last lt)) (hv : x.cur.vote = to) (hn : newer tm x.cur.F last lt) : NdOk tm g n { x with out := fun t a => x.out t a ∨ (t = to ∧ a = .voted x.cur.term) } := by
  refine h.push h1 h2 ⟨_, _, _, hs⟩ ⟨by simp, ?_, by simp [ep]⟩ (by simp [ep]) (by simp) ?_ hg ?_ ?_ (by simp)
  · rintro T e; cases e; exact .inr ⟨rfl, hv⟩
  · rintro T e hT; cases e
    refine ⟨_, _, _, _, h.cur.valid, hs, hn, ?_⟩
    rintro T0 q hlt ⟨t, a, p', hm, he, hq⟩
    rcases ((h.mw t a hm).2.2.2.2.2 _ _ he).2 q hq with h3 | ⟨T1, h3, h4, h5⟩
    · exact .inl h3
    · refine .inr ⟨T1, h3, ?_, h5⟩
      have : T1 ≠ x.cur.term := by rintro rfl; exact h5.1 hT
      omega
  · rintro T (e | ⟨last, lt, e⟩)
    · cases e; exact ⟨rfl, fun c hc => h.cast_cur hc⟩
    · cases e
  · rintro T e; exact hv
theorem NdOk.pushHeap (h : NdOk tm g n x) (hg : GhOk tm g) (hr : x.role = 3) {to last : Nat} {items : List I} (h1 : n ≠ to) (h2 : to < 3) (hl : last ≤ x.cur.F.length) (hi : items = (x.cur.F.drop last).take items.length) {commit : Nat} (hc : commit ≤ x.commit) :
    NdOk tm g n { x with out := fun t a => x.out t a ∨ (t = to ∧ a = .heap x.cur.term last (lastT tm (x.cur.F.take last)) items commit) } := by
  obtain ⟨e1, e2, _⟩ := h.leads hr
  have hlen : last + items.length ≤ x.cur.F.length := by
    have := congrArg List.length hi
    rw [List.length_take, List.length_drop] at this; omega
  refine h.pushClaim hg h1 h2 (p := last + items.length) ?_ rfl (by rw [e2]; exact List.take_prefix _ _)
  refine ⟨e1, by rw [e2]; exact hlen, by rw [e2]; exact hi, by rw [e2], by rw [e2]; have := h.com; omega, ?_⟩
  rw [e2]
  exact h.com3.pre (take_pre hc)
theorem NdOk.pushShip (h : NdOk tm g n x) (hg : GhOk tm g) (hr : x.role = 3) {to : Nat} (h1 : n ≠ to) (h2 : to < 3) (hb : 1 ≤ x.cur.base) :
    NdOk tm g n { x with out := fun t a => x.out t a ∨ (t = to ∧ a = .ship x.cur.term x.cur.base (lastT tm (x.cur.F.take x.cur.base))) } := by
  obtain ⟨e1, e2, _⟩ := h.leads hr
  refine h.pushClaim hg h1 h2 (p := x.cur.base) ⟨e1, hb, by rw [e2]; exact h.cur.base, by rw [e2], ?_⟩ rfl (by rw [e2]; exact List.take_prefix _ _)
  rw [e2]; exact h.cur.cmt
theorem NdOk.pushAck (h : NdOk tm g n x) (hg : GhOk tm g) {to p : Nat} (h1 : n ≠ to) (h2 : to < 3) (hl : g.led x.cur.term = some to) (hc : SClaim g to x.cur.term p) (hp : p ≤ (g.LL x.cur.term).length) (hF : (g.LL x.cur.term).take p <+: x.cur.F) :
    NdOk tm g n { x with out := fun t a => x.out t a ∨ (t = to ∧ a = .ack x.cur.term p) } :=
  h.pushClaim hg h1 h2 (p := p) ⟨hl, hc, hp⟩ rfl hF
theorem NdOk.voteCame (h : NdOk tm g n x) {v : Nat} (hs : g.sent v n (.voted x.cur.term)) : NdOk tm g n { x with votes := upd x.votes v true } :=
  h.keep (fun hr => let ⟨a, b, c, d, e, f⟩ := h.stands hr; ⟨a, b, c, d, e, fun u hu => by
    by_cases e : u = v
    · subst e; exact .inr hs
    · rw [upd_ne _ _ _ e] at hu; exact f u hu⟩) h.leads h.com h.com2 h.com3
theorem NdOk.ackCame (h : NdOk tm g n x) {v p : Nat} (hv : v < 3) (hne : v ≠ n) (hs : g.sent v n (.ack x.cur.term p)) (hc : SClaim g n x.cur.term p) {q : Nat} (hq : q ≤ p) : NdOk tm g n { x with mt := upd x.mt v q } :=
  h.keep h.stands (fun hr => let ⟨a, b, c⟩ := h.leads hr; ⟨a, b, fun u => by
    by_cases e : u = v
    · subst e; rw [upd_same]
      exact .inr ⟨hv, ⟨_, _, p, hs, rfl, hq⟩, hne, hc.le hq⟩
    · rw [upd_ne _ _ _ e]; exact c u⟩) h.com h.com2 h.com3
theorem NdOk.done (h : NdOk tm g n x) {p : Nat} (h1 : x.commit ≤ p) (h2 : p ≤ x.cur.F.length) (h3 : Cmt tm g x.cur.term (x.cur.F.take p)) : NdOk tm g n { x with commit := p } :=
  h.keep h.stands h.leads h2 (Nat.le_trans h.com2 h1) h3
theorem NdOk.agreed (h : NdOk tm g n x) (hn : n < 3) (hr : x.role = 3) {v p : Nat} (hp : 1 ≤ p) (hm : p ≤ x.mt v) {a : I} (ha : x.cur.F[p - 1]? = some a) (ht : tm a = x.cur.term) : Cmt tm g x.cur.term (x.cur.F.take p) := by
  obtain ⟨e1, e2, e3⟩ := h.leads hr
  rcases e3 v with e | ⟨a1, a2, a3, a4⟩
  · omega
  · refine .inr ⟨x.cur.term, p, Int.le_refl _, ⟨n, v, hn, a1, fun e => a3 e.symm, by rw [e1]; simp, a4.le hm, a2.le hm, a, by rw [e2]; exact ha, ht, hp⟩, by rw [e2]; exact List.prefix_refl _⟩
theorem NdOk.crash (h : NdOk tm g n x) {d : Dk I} (hd : d = x.cur ∨ d ∈ x.old) {role : Nat} (hr : role < 2) {votes : Nat → Bool} {mt : Nat → Nat} : NdOk tm g n ⟨[], d, role, votes, mt, d.base, fun _ _ => False⟩ := by
  have hiss : ∀ {to m}, Iss g (⟨[], d, role, votes, mt, d.base, fun _ _ => False⟩ : Nd I) n to m → g.sent n to m := fun hm => hm.resolve_right id
  have hpro : ∀ {T F}, Promise g x n T F → Promise g (⟨[], d, role, votes, mt, d.base, fun _ _ => False⟩ : Nd I) n T F := by
    rintro T F hp T0 q hlt ⟨t, a, p', hm, he, hq⟩
    exact hp T0 q hlt ⟨t, a, p', .inl (hiss hm), he, hq⟩
  have hvo : ∀ {c T}, Voter tm g x n c T → Voter tm g (⟨[], d, role, votes, mt, d.base, fun _ _ => False⟩ : Nd I) n c T := by
    rintro c T ⟨F, last, lt, dst, a, b, c', e⟩
    exact ⟨F, last, lt, dst, a, b, c', hpro e⟩
  have hdk : DkOk tm g d := by rcases hd with rfl | hd; exact h.cur; exact h.old d hd
  refine ⟨hdk, fun _ he => by simp at he, fun to m hm => ?_, fun _ _ _ _ he => by simp at he, fun to T last lt hm F hF => hpro (h.cand to T last lt (.inl (hiss hm)) F hF), fun to T hm hn => hvo (h.voter to T (.inl (hiss hm)) hn), fun T c h1 h2 => hvo (h.elect T c h1 h2), fun T c c' h1 h2 => ?_, fun e => by simp only at e; omega, fun e => by simp only at e; omega, hdk.base, Nat.le_refl _, hdk.cmt⟩
  · obtain ⟨a, b, c, e⟩ := h.mw to m (.inl (hiss hm))
    refine ⟨a, b, c, ?_⟩
    rcases hd with rfl | hd
    · exact e
    · exact h.df to m (hiss hm) d hd
  · have hc : ∀ c, Cast g (⟨[], d, role, votes, mt, d.base, fun _ _ => False⟩ : Nd I) n T c → Cast g x n T c := fun c hc => hc.elim (fun x => .inl (.inl (hiss x))) fun ⟨e, to, l, t, x⟩ => .inr ⟨e, to, l, t, .inl (hiss x)⟩
    exact h.cast T c c' (hc _ h1) (hc _ h2)
end
theorem Inv.sync {g : Gh I} {nd : Nat → Nd I} (h : Inv tm g nd) (n : Nat) :
    Inv tm { g with sent := fun a b m => g.sent a b m ∨ (a = n ∧ (nd n).out b m) } (upd nd n { nd n with old := [], out := fun _ _ => False }) := by
  have hle : GhLe tm g { g with sent := fun a b m => g.sent a b m ∨ (a = n ∧ (nd n).out b m) } := ⟨fun _ _ _ h => .inl h, fun _ _ h => h, fun _ _ => ⟨[], by simp, by simp⟩⟩
  refine h.step n hle (fun j hj to m hm => hm.resolve_right fun e => hj e.1) (fun _ _ _ => rfl) (fun _ _ _ h => h) (fun _ _ _ _ => rfl) (fun _ _ _ _ h1 h2 => .inl ⟨h1, h2⟩) ?_ fun hn => ?_
  · refine ⟨fun t ht => (h.gh.valid t ht).le hle, fun t c hc => ?_, h.gh.cand, fun t c F hF => (h.gh.cl t c F hF).le hle⟩
    obtain ⟨a, b, c', d⟩ := h.gh.vote t c hc
    exact ⟨a, b, c', .inl d⟩
  · have ho := h.nd n hn
    have hiss : ∀ {to m}, Iss { g with sent := fun a b m => g.sent a b m ∨ (a = n ∧ (nd n).out b m) } { nd n with old := [], out := fun _ _ => False } n to m → Iss g (nd n) n to m := by
      rintro to m ((h1 | h1) | h1)
      · exact .inl h1
      · exact .inr h1.2
      · exact h1.elim
    have hmw : ∀ to m, Iss g (nd n) n to m → MW tm g n to m := fun to m hm => (ho.mw to m hm).2.2.1
    have hpro : ∀ {T F}, Promise g (nd n) n T F → Promise { g with sent := fun a b m => g.sent a b m ∨ (a = n ∧ (nd n).out b m) } { nd n with old := [], out := fun _ _ => False } n T F := fun hp =>
      hp.le hle h.gh hmw fun T0 q _ ⟨t, a, p', hm, he, hq⟩ => ⟨t, a, p', hiss hm, he, hq⟩
    have hvo : ∀ {c T}, Voter tm g (nd n) n c T → Voter tm { g with sent := fun a b m => g.sent a b m ∨ (a = n ∧ (nd n).out b m) } { nd n with old := [], out := fun _ _ => False } n c T := by
      rintro c T ⟨F, last, lt, dst, a, b, c', e⟩
      exact ⟨F, last, lt, dst, a.le hle, .inl b, c', hpro e⟩
    refine ⟨ho.cur.le hle, fun _ he => by simp at he, fun to m hm => ?_, fun _ _ _ _ he => by simp at he, fun to T last lt hm F hF => hpro (ho.cand to T last lt (hiss hm) F hF), fun to T hm hn => hvo (ho.voter to T (hiss hm) hn), fun T c h1 h2 => hvo (ho.elect T c h1 h2), fun T c c' h1 h2 => ?_, fun hr => ?_, fun hr => ?_, ho.com, ho.com2, ho.com3.le hle⟩
    · obtain ⟨a, b, c, e⟩ := ho.mw to m (hiss hm)
      exact ⟨a, b, c.le hle fun _ _ _ _ => rfl, e.le hle h.gh c⟩
    · have hc : ∀ c, Cast { g with sent := fun a b m => g.sent a b m ∨ (a = n ∧ (nd n).out b m) } { nd n with old := [], out := fun _ _ => False } n T c → Cast g (nd n) n T c := fun c hc => hc.elim (fun x => .inl (hiss x)) fun ⟨e, to, l, t, x⟩ => .inr ⟨e, to, l, t, hiss x⟩
      exact ho.cast T c c' (hc _ h1) (hc _ h2)
    · obtain ⟨a, b, c, d, e, f⟩ := ho.stands hr
      exact ⟨a, b, c, hpro d, e, fun v hv => (f v hv).imp_right .inl⟩
    · obtain ⟨a, b, c⟩ := ho.leads hr
      exact ⟨a, b, fun v => (c v).imp_right fun ⟨p, q, r, t⟩ => ⟨p, q.up hle, r, t.up hle⟩⟩
def Gh.stand (g : Gh I) (T : Int) (n : Nat) (F : List I) : Gh I := { g with cl := fun t c => if t = T ∧ c = n then some F else g.cl t c }
theorem Inv.stand {g : Gh I} {nd : Nat → Nd I} (h : Inv tm g nd) {n : Nat} (hn : n < 3) {votes : Nat → Bool} (hv : ∀ v, votes v = true → v = n) :
    Inv tm (g.stand ((nd n).cur.term + 1) n (nd n).cur.F) (upd nd n ⟨(nd n).old ++ [(nd n).cur], { (nd n).cur with term := (nd n).cur.term + 1, vote := n }, 2, votes, (nd n).mt, (nd n).commit, (nd n).out⟩) := by
  obtain ⟨x, hx⟩ : ∃ x, nd n = x := ⟨_, rfl⟩
  have ho := h.nd n hn
  rw [hx] at ho ⊢
  have hle : GhLe tm g (g.stand (x.cur.term + 1) n x.cur.F) := ⟨fun _ _ _ h => h, fun _ _ h => h, fun _ _ => ⟨[], by simp [Gh.stand], by simp⟩⟩
  have hnone : g.led (x.cur.term + 1) ≠ some n := by
    intro hl
    obtain ⟨a, b, c, d⟩ := h.gh.vote _ _ hl
    obtain ⟨dst, last, lt, hs⟩ := ((h.nd _ b).mw _ _ (.inl d)).2.2.1
    have := (ho.iss_le (.inl hs)).1 _ _ _ rfl
    omega
  have hcn : ∀ t c, g.led t = some c → (g.stand (x.cur.term + 1) n x.cur.F).cl t c = g.cl t c := fun t c hl => by
    show (if _ then _ else _) = _
    rw [if_neg]
    rintro ⟨rfl, rfl⟩; exact hnone hl
  refine h.step n hle (fun _ _ _ _ h => h) (fun j hj t => ?_) (fun _ _ _ h => h) (fun _ _ _ _ => rfl) (fun _ _ _ _ h1 h2 => .inl ⟨h1, h2⟩) ?_ fun _ => ?_
  · show (if _ then _ else _) = _
    rw [if_neg fun e => hj e.2]
  · refine ⟨fun t ht => (h.gh.valid t ht).le hle, h.gh.vote, fun t c hc => ?_, fun t c F hF => ?_⟩
    · rw [hcn t c hc]; exact h.gh.cand t c hc
    · by_cases e : t = x.cur.term + 1 ∧ c = n
      · obtain ⟨rfl, rfl⟩ := e
        have : (g.stand (x.cur.term + 1) c x.cur.F).cl (x.cur.term + 1) c = some x.cur.F := if_pos ⟨rfl, rfl⟩
        rw [this] at hF; cases hF
        exact (ho.cur.valid.mono (by omega)).le hle
      · have : (g.stand (x.cur.term + 1) n x.cur.F).cl t c = g.cl t c := if_neg e
        rw [this] at hF
        exact (h.gh.cl t c F hF).le hle
  · have ho0 := ho.follow (role := 0) (by omega) (votes := x.votes) (mt := x.mt)
    have ho1 : NdOk tm (g.stand (x.cur.term + 1) n x.cur.F) n ⟨x.old, x.cur, 0, x.votes, x.mt, x.commit, x.out⟩ := by
      refine ho0.le hle h.gh (fun _ _ h => h) (fun t => ?_) (fun e => by simp at e) (fun e => by simp at e) (fun _ _ h1 h2 => .inl ⟨h1, h2⟩)
      by_cases e : t = x.cur.term + 1
      · subst e; exact .inr ⟨by simp; omega, by simp⟩
      · exact .inl (if_neg fun e' => e e'.1)
    refine ho1.write ⟨ho1.cur.valid.mono (by simp; omega), ho1.cur.base, ho1.cur.cmt.mono (by simp; omega)⟩ (DkLe.same rfl (by simp; omega) (fun e => by simp at e; omega)) (fun _ => ⟨rfl, if_pos ⟨rfl, rfl⟩, hnone, ?_, ?_, fun v hv' => .inl (hv v hv')⟩) (fun e => by simp at e) ho1.com ho1.com2 (ho1.com3.mono (by simp; omega))
    · rintro T0 q hlt ⟨t, a, p', hm, he, hq⟩
      have := ((ho1.mw t a hm).2.2.2.2.2 _ _ he).2 q hq
      exact this.mono (by simp)
    · intro y hy
      obtain ⟨i, hi⟩ := List.getElem?_of_mem hy
      have := (ho.cur.valid i y hi).2.1
      simp only; omega
def Gh.lead (g : Gh I) (T : Int) (n v : Nat) (F : List I) : Gh I := { g with led := fun t => if t = T then some n else g.led t, LL := fun t => if t = T then F else g.LL t, elv := fun t => if t = T then v else g.elv t }
theorem Inv.lead {g : Gh I} {nd : Nat → Nd I} (h : Inv tm g nd) {n : Nat} (hn : n < 3) (hr : (nd n).role = 2) {v : Nat} (hv3 : v < 3) (hvn : v ≠ n) (hv : (nd n).votes v = true) :
    g.led (nd n).cur.term = none ∧ Inv tm (g.lead (nd n).cur.term n v (nd n).cur.F) (upd nd n ⟨(nd n).old, (nd n).cur, 3, (nd n).votes, fun _ => 0, (nd n).commit, (nd n).out⟩) := by
  obtain ⟨x, hx⟩ : ∃ x, nd n = x := ⟨_, rfl⟩
  have ho := h.nd n hn
  rw [hx] at ho hr hv ⊢
  obtain ⟨e1, e2, e3, e4, e5, e6⟩ := ho.stands hr
  have hs := (e6 v hv).resolve_left hvn
  obtain ⟨dst, last, lt, hsv⟩ := ((h.nd v hv3).mw _ _ (.inl hs)).2.2.1
  have hnone : g.led x.cur.term = none := by
    cases hq : g.led x.cur.term with
    | none => rfl
    | some c =>
      exfalso
      obtain ⟨a, b, c3, d⟩ := h.gh.vote _ _ hq
      obtain ⟨dst', last', lt', hsc⟩ := ((h.nd _ b).mw _ _ (.inl d)).2.2.1
      have k1 : Cast g (nd n) n x.cur.term n := .inr ⟨rfl, dst, last, lt, .inl hsv⟩
      have k2 : Cast g (nd v) v x.cur.term n := .inl (.inl hs)
      have k3 : Cast g (nd c) c x.cur.term c := .inr ⟨rfl, dst', last', lt', .inl hsc⟩
      have k4 : Cast g (nd (g.elv x.cur.term)) (g.elv x.cur.term) x.cur.term c := .inl (.inl d)
      have hnc : n ≠ c := by rintro rfl; exact e3 hq
      obtain ⟨w, hw⟩ : ∃ w, g.elv x.cur.term = w := ⟨_, rfl⟩
      rw [hw] at a b k4
      have u1 : v ≠ c := by rintro rfl; exact hnc ((h.nd v hv3).cast _ _ _ k2 k3)
      have u2 : w ≠ n := by rintro rfl; exact hnc ((h.nd w b).cast _ _ _ k1 k4)
      have u3 : w ≠ v := by rintro rfl; exact hnc ((h.nd w b).cast _ _ _ k2 k4)
      omega
  have hne : ∀ t, g.led t ≠ none → t ≠ x.cur.term := by rintro t ht rfl; exact ht hnone
  have hle : GhLe tm g (g.lead x.cur.term n v x.cur.F) := ⟨fun _ _ _ h => h, fun t c hc => by
    show (if _ then _ else _) = _
    rw [if_neg (hne t (by rw [hc]; simp))]; exact hc, fun t ht => ⟨[], by
    show (if _ then _ else _) = _
    rw [if_neg (hne t ht)]; simp, by simp⟩⟩
  have hel : ∀ T c, (g.lead x.cur.term n v x.cur.F).led T = some c → (T = x.cur.term ∧ c = n ∧ (g.lead x.cur.term n v x.cur.F).elv T = v ∧ (g.lead x.cur.term n v x.cur.F).LL T = x.cur.F) ∨ (T ≠ x.cur.term ∧ g.led T = some c ∧ (g.lead x.cur.term n v x.cur.F).elv T = g.elv T ∧ (g.lead x.cur.term n v x.cur.F).LL T = g.LL T) := by
    intro T c hc
    by_cases e : T = x.cur.term
    · subst e
      have : (g.lead x.cur.term n v x.cur.F).led x.cur.term = some n := if_pos rfl
      rw [this] at hc; cases hc
      exact .inl ⟨rfl, rfl, if_pos rfl, if_pos rfl⟩
    · have : (g.lead x.cur.term n v x.cur.F).led T = g.led T := if_neg e
      rw [this] at hc
      exact .inr ⟨e, hc, if_neg e, if_neg e⟩
  refine ⟨hnone, h.step n hle (fun _ _ _ _ h => h) (fun _ _ _ => rfl) (fun j hj t ht => ?_) (fun j hj t ht => if_neg (hne t (by rw [ht]; simp))) (fun j hj T c h1 h2 => ?_) ?_ fun _ => ?_⟩
  · rcases hel t j ht with ⟨_, h2, _⟩ | ⟨_, h2, _⟩
    · exact absurd h2 hj
    · exact h2
  · rcases hel T c h1 with ⟨rfl, rfl, e, _⟩ | ⟨_, h3, e, _⟩
    · rw [e] at h2; subst h2
      exact .inr ⟨hnone, hs⟩
    · exact .inl ⟨h3, by rw [← e]; exact h2⟩
  · refine ⟨fun t ht => ?_, fun t c hc => ?_, fun t c hc => ?_, fun t c F hF => (h.gh.cl t c F hF).le hle⟩
    · obtain ⟨c, hc⟩ : ∃ c, (g.lead x.cur.term n v x.cur.F).led t = some c := by
        cases hq : (g.lead x.cur.term n v x.cur.F).led t with
        | none => exact absurd hq ht
        | some c => exact ⟨c, rfl⟩
      rcases hel t c hc with ⟨rfl, _, _, e⟩ | ⟨_, h3, _, e⟩
      · rw [e]; exact ho.cur.valid.le hle
      · rw [e]; exact (h.gh.valid t (by rw [h3]; simp)).le hle
    · rcases hel t c hc with ⟨rfl, rfl, e, _⟩ | ⟨_, h3, e, _⟩
      · rw [e]; exact ⟨hvn, hv3, hn, hs⟩
      · rw [e]; exact h.gh.vote t c h3
    · rcases hel t c hc with ⟨rfl, rfl, _, e⟩ | ⟨_, h3, _, e⟩
      · rw [e]; exact ⟨_, e2, List.prefix_refl _, fun i y hy hi => by have := (List.getElem?_eq_some_iff.1 hy).1; omega⟩
      · rw [e]; exact h.gh.cand t c h3
  · have ho0 := ho.follow (role := 0) (by omega) (votes := x.votes) (mt := fun _ => 0)
    have ho1 : NdOk tm (g.lead x.cur.term n v x.cur.F) n ⟨x.old, x.cur, 0, x.votes, fun _ => 0, x.commit, x.out⟩ := by
      refine ho0.le hle h.gh (fun _ _ h => h) (fun t => .inl rfl) (fun e => by simp at e) (fun e => by simp at e) (fun T c h1 h2 => ?_)
      rcases hel T c h1 with ⟨rfl, rfl, e, _⟩ | ⟨_, h3, e, _⟩
      · rw [e] at h2; exact absurd h2 hvn
      · exact .inl ⟨h3, by rw [← e]; exact h2⟩
    exact ho1.keep (fun e => by simp at e) (fun _ => ⟨if_pos rfl, if_pos rfl, fun _ => .inl rfl⟩) ho1.com ho1.com2 ho1.com3
def Gh.app (g : Gh I) (T : Int) (F : List I) : Gh I := { g with LL := fun t => if t = T then F else g.LL t }
theorem Inv.append {g : Gh I} {nd : Nat → Nd I} (h : Inv tm g nd) {n : Nat} (hn : n < 3) (hr : (nd n).role = 3) {a : I} (ha : tm a = (nd n).cur.term) (ha1 : 1 ≤ tm a) :
    Inv tm (g.app (nd n).cur.term ((nd n).cur.F ++ [a])) (upd nd n ⟨(nd n).old ++ [(nd n).cur], { (nd n).cur with F := (nd n).cur.F ++ [a] }, 3, (nd n).votes, (nd n).mt, (nd n).commit, (nd n).out⟩) := by
  obtain ⟨x, hx⟩ : ∃ x, nd n = x := ⟨_, rfl⟩
  have ho := h.nd n hn
  rw [hx] at ho hr ha ⊢
  obtain ⟨e1, e2, e3⟩ := ho.leads hr
  have hLT : (g.app x.cur.term (x.cur.F ++ [a])).LL x.cur.term = x.cur.F ++ [a] := if_pos rfl
  have hLn : ∀ {t}, t ≠ x.cur.term → (g.app x.cur.term (x.cur.F ++ [a])).LL t = g.LL t := fun e => if_neg e
  have hle : GhLe tm g (g.app x.cur.term (x.cur.F ++ [a])) := ⟨fun _ _ _ h => h, fun _ _ h => h, fun t ht => by
    by_cases e : t = x.cur.term
    · subst e; exact ⟨[a], by rw [hLT, e2], by simp [ha]⟩
    · exact ⟨[], by rw [hLn e]; simp, by simp⟩⟩
  have hval : Valid tm (g.app x.cur.term (x.cur.F ++ [a])) (x.cur.F ++ [a]) x.cur.term := by
    intro i y hy
    by_cases hi : i < x.cur.F.length
    · have hy' := hy
      rw [List.getElem?_append_left hi] at hy'
      obtain ⟨a1, a2, a3, a4⟩ := (ho.cur.valid.le hle) i y hy'
      exact ⟨a1, a2, a3, by rw [List.take_append_of_le_length (by omega)]; exact a4⟩
    · have hl := (List.getElem?_eq_some_iff.1 hy).1
      rw [List.length_append, List.length_singleton] at hl
      have : i = x.cur.F.length := by omega
      subst this
      rw [List.getElem?_append_right (Nat.le_refl _)] at hy
      simp at hy; subst hy
      refine ⟨ha1, by omega, by rw [ha]; show g.led _ ≠ none; rw [e1]; simp, ?_⟩
      rw [ha, hLT, List.take_of_length_le (by simp)]
      exact List.prefix_refl _
  refine h.step n hle (fun _ _ _ _ h => h) (fun _ _ _ => rfl) (fun _ _ _ h => h) (fun j hj t ht => hLn ?_) (fun _ _ _ _ h1 h2 => .inl ⟨h1, h2⟩) ?_ fun _ => ?_
  · rintro rfl; rw [e1] at ht; cases ht; exact hj rfl
  · refine ⟨fun t ht => ?_, h.gh.vote, fun t c hc => ?_, fun t c F hF => (h.gh.cl t c F hF).le hle⟩
    · by_cases e : t = x.cur.term
      · subst e; rw [hLT]; exact hval
      · rw [hLn e]; exact (h.gh.valid t ht).le hle
    · obtain ⟨F, h1, h2, h3⟩ := h.gh.cand t c hc
      by_cases e : t = x.cur.term
      · subst e
        rw [e2] at h2 h3
        refine ⟨F, h1, by rw [hLT]; exact h2.trans (List.prefix_append _ _), fun i y hy hi => ?_⟩
        rw [hLT] at hy
        by_cases hi' : i < x.cur.F.length
        · rw [List.getElem?_append_left hi'] at hy; exact h3 i y hy hi
        · rw [List.getElem?_append_right (by omega)] at hy
          have := List.mem_of_getElem? hy
          rw [List.mem_singleton] at this; subst this; exact ha
      · rw [hLn e]; exact ⟨F, h1, h2, h3⟩
  · have ho0 := ho.follow (role := 0) (by omega) (votes := x.votes) (mt := x.mt)
    have ho1 : NdOk tm (g.app x.cur.term (x.cur.F ++ [a])) n ⟨x.old, x.cur, 0, x.votes, x.mt, x.commit, x.out⟩ :=
      ho0.le hle h.gh (fun _ _ h => h) (fun t => .inl rfl) (fun e => by simp at e) (fun e => by simp at e) (fun _ _ h1 h2 => .inl ⟨h1, h2⟩)
    have hb := ho1.cur.base
    have hc := ho1.com
    simp only at hb hc
    refine ho1.write ⟨hval, by simp; omega, ?_⟩ ⟨by simp, fun _ _ => rfl, fun T q _ _ _ hk => ?_⟩ (fun e => by simp at e) (fun _ => ⟨e1, hLT, fun u => (e3 u).imp_right fun ⟨p, q, r, t⟩ => ⟨p, q.up hle, r, t.up hle⟩⟩) (by simp; omega) ho1.com2 ?_
    · show Cmt tm _ _ _; rw [List.take_append_of_le_length (by simpa using hb)]; exact ho1.cur.cmt
    · rcases hk with hk | hk
      · exact .inl (hk.trans (List.prefix_append _ _))
      · exact .inr hk
    · show Cmt tm _ _ _; rw [List.take_append_of_le_length (by simpa using hc)]; exact ho1.com3
end Go.Proofs.YtkkleopmambcnaaGreatDoor.Raft
set_option linter.unusedVariables false
set_option linter.unusedSimpArgs false
set_option maxRecDepth 100000
set_option maxHeartbeats 8000000
namespace Go.Proofs.YtkkleopmambcnaaGreatDoor
open Go Go.RowKit Go.Proofs.AE
abbrev tmI : Item → Int := Item.term
abbrev RNd := Raft.Nd Item
abbrev RGh := Raft.Gh Item
abbrev RDk := Raft.Dk Item
def mStep (m : Mach) (x : Item) : Mach := if x.nop then m else (DoM m x.time x.cal).1
def machF (F : List Item) : Mach := F.foldl mStep newM
theorem machF_snoc (F : List Item) (x : Item) : machF (F ++ [x]) = mStep (machF F) x := by simp [machF]
def absM (m : Msg) : Raft.M Item :=
  if m.kind = 3 then .vote m.term m.last.toNat m.lt
  else if m.kind = 4 then .voted m.term
  else if m.kind = 5 then .heap m.term m.last.toNat m.lt m.items m.commit.toNat
  else if m.kind = 7 then .ship m.term m.sidx.toNat m.sterm
  else if m.kind = 6 ∧ m.yes = true then .ack m.term m.last.toNat
  else .other
structure MOk (g : RGh) (m : Msg) : Prop where
  fr : 0 ≤ m.fr ∧ m.fr < 3
  to : 0 ≤ m.to ∧ m.to < 3
  ne : m.fr ≠ m.to
  term : 0 ≤ m.term ∧ m.term ≤ 1048576
  last : 0 ≤ m.last ∧ m.last ≤ 1048576
  com : 0 ≤ m.commit
  len : m.items.length ≤ 8
  six : 0 ≤ m.sidx
  ack : m.kind = 6 → g.led m.term ≠ none ∧ m.last.toNat ≤ (g.LL m.term).length
  ship : m.kind = 7 → g.led m.term ≠ none ∧ m.sidx.toNat ≤ (g.LL m.term).length ∧ m.mach = machF ((g.LL m.term).take m.sidx.toNat)
structure GI (g : RGh) : Prop where
  itm : ∀ t, g.led t ≠ none → ∀ x ∈ g.LL t, x.check = 0
  len : ∀ t, g.led t ≠ none → (g.LL t).length ≤ 1048576
structure LR (g : Lg) (d : RDk) : Prop where
  base : g.base = d.base
  bt : g.bt = Raft.lastT tmI (d.F.take d.base)
  items : g.items = d.F.drop d.base
  le : d.base ≤ d.F.length
structure DR (d : Dsk) (k : RDk) : Prop where
  term : d.term = k.term
  fr : d.fr = k.vote
  log : LR d.log k
  chk : d.log.check = 0
  sidx : d.sidx = d.log.base
  sterm : d.sterm = d.log.bt
  mach : d.mach = machF (k.F.take k.base)
  t0 : 0 ≤ d.term ∧ d.term ≤ 1048576
  f0 : -1 ≤ d.fr ∧ d.fr < 3
def Nd.dsk (n : Nd) : Dsk := ⟨n.term, n.vote, n.sidx, n.sterm, n.smach, n.log⟩
def TR (n : Nd) (x : RNd) : Prop :=
  ∃ (rs : List Rcd) (k : Nat), (∀ r ∈ rs, checkRc r = 0) ∧ k ≤ rs.length ∧ n.td = tapeB rs ∧ n.ts = ((tapeB (rs.take k)).length : Nat) ∧ foldD rs = (n.dsk, 0) ∧
    ∀ j, k ≤ j → j < rs.length → ∃ d dk, foldD (rs.take j) = (d, 0) ∧ dk ∈ x.old ∧ DR d dk
structure NR (g : RGh) (K : Nat) (n : Nd) (x : RNd) : Prop where
  me : n.me = K
  dr : DR n.dsk x.cur
  role : n.role = x.role
  v0 : x.votes 0 = n.v0
  v1 : x.votes 1 = n.v1
  v2 : x.votes 2 = n.v2
  mt : n.role = 3 → (n.m0 = x.mt 0 ∧ n.m1 = x.mt 1 ∧ n.m2 = x.mt 2) ∧ x.mt 0 ≤ x.cur.F.length ∧ x.mt 1 ≤ x.cur.F.length ∧ x.mt 2 ≤ x.cur.F.length
  nx : n.role = 3 → (1 ≤ n.x0 ∧ n.x0 ≤ x.cur.F.length + 1) ∧ (1 ≤ n.x1 ∧ n.x1 ≤ x.cur.F.length + 1) ∧ (1 ≤ n.x2 ∧ n.x2 ≤ x.cur.F.length + 1)
  commit : n.commit = x.commit
  mach : n.mach = machF (x.cur.F.take x.commit)
  out : ∀ m ∈ n.out, MOk g m ∧ m.fr = K ∧ x.out m.to.toNat (absM m)
  outl : n.out.length ≤ 300
  tdl : n.td.length ≤ 400000
  tape : TR n x
section
variable {g : Lg} {d : RDk}
theorem LR.len (h : LR g d) : g.base + g.items.length = (d.F.length : Nat) := by
  have := h.le
  rw [h.base, h.items, List.length_drop]; omega
theorem lastT_take {F : List Item} {p : Nat} (h1 : 1 ≤ p) (h2 : p ≤ F.length) : ∃ y, F[p - 1]? = some y ∧ Raft.lastT tmI (F.take p) = y.term := by
  obtain ⟨y, hy, e⟩ := Raft.lastT_get (tm := tmI) (F := F.take p) (by intro e; have := congrArg List.length e; rw [List.length_take, List.length_nil] at this; omega)
  rw [List.length_take, Nat.min_eq_left h2, List.getElem?_take, if_pos (by omega)] at hy
  exact ⟨y, hy, e⟩
theorem LR.termAt (h : LR g d) {p : Nat} (h1 : d.base ≤ p) (h2 : p ≤ d.F.length) : termAt g.base g.bt g.items p = Raft.lastT tmI (d.F.take p) := by
  have hb := h.base
  unfold Go.Proofs.YtkkleopmambcnaaGreatDoor.termAt
  rw [if_neg (by omega)]
  by_cases e : p = d.base
  · rw [if_pos (by omega), h.bt, e]
  · rw [if_neg (by omega), h.items, List.length_drop, if_neg (by omega)]
    obtain ⟨y, hy, e2⟩ := lastT_take (F := d.F) (p := p) (by omega) h2
    rw [e2, List.getElem?_drop, show d.base + ((p : Int) - g.base - 1).toNat = p - 1 by omega, hy]
theorem LR.termErr (h : LR g d) {p : Nat} (h1 : d.base ≤ p) (h2 : p ≤ d.F.length) : termErr g.base g.items.length p = 0 := by
  refine termErr_ok ?_
  have := h.len; have := h.base; omega
theorem LR.lastP (h : LR g d) (n : Nd) (hn : n.log = g) : n.lastP = (d.F.length : Nat) := by
  unfold Nd.lastP; rw [hn]; exact h.len
theorem LR.lastT (h : LR g d) (n : Nd) (hn : n.log = g) : n.lastT = Raft.lastT tmI d.F := by
  unfold Nd.lastT lastTerm
  rw [hn, h.items, List.length_drop, List.getElem?_drop]
  by_cases e : d.base = d.F.length
  · rw [show d.F[d.base + (d.F.length - d.base - 1)]? = none from List.getElem?_eq_none (by omega), h.bt, e, List.take_length]
  · have hle := h.le
    obtain ⟨y, hy, e2⟩ := lastT_take (F := d.F) (p := d.F.length) (by omega) (Nat.le_refl _)
    rw [List.take_length] at e2
    rw [e2, show d.base + (d.F.length - d.base - 1) = d.F.length - 1 by omega, hy]
theorem LR.get (h : LR g d) {p : Nat} (h1 : d.base ≤ p) : g.items[p - d.base]? = d.F[p]? := by
  rw [h.items, List.getElem?_drop, show d.base + (p - d.base) = p by omega]
end
theorem item_cal {x : Item} (h : x.check = 0) (hn : x.nop = false) : checkCl x.cal = 0 ∧ 0 ≤ x.time ∧ x.time ≤ 1073741824 := by
  have h2 := item_ok h
  refine ⟨?_, h2.2.2.1, h2.2.2.2.1⟩
  unfold Item.check checkItem at h
  repeat' split at h
  all_goals first | omega | skip
  all_goals simp_all [checkCl, Item.cal]
theorem mStep_ok {m : Mach} (h : OkM m) {x : Item} (hx : x.check = 0) : OkM (mStep m x) := by
  unfold mStep
  cases hn : x.nop with
  | true => exact h
  | false =>
    obtain ⟨h1, h2, h3⟩ := item_cal hx hn
    exact (do_ok h h2 h3 h1).2.2.1
theorem machF_ok : ∀ (F : List Item), (∀ x ∈ F, x.check = 0) → OkM (machF F) := by
  intro F
  suffices ∀ (F : List Item) (m : Mach), OkM m → (∀ x ∈ F, x.check = 0) → OkM (F.foldl mStep m) from fun h => this F newM newM_ok h
  intro F
  induction F with
  | nil => intro m h _; exact h
  | cons x F ih => intro m h hx; exact ih _ (mStep_ok h (hx x (List.mem_cons_self ..))) fun y hy => hx y (List.mem_cons_of_mem _ hy)
theorem Raft.Valid.items {g : RGh} {F : List Item} {t : Int} (h : Raft.Valid tmI g F t) (hg : GI g) : ∀ x ∈ F, x.check = 0 := by
  intro x hx
  obtain ⟨i, hi⟩ := List.getElem?_of_mem hx
  obtain ⟨_, _, h3, h4⟩ := h i x hi
  refine hg.itm _ h3 x (List.mem_of_getElem? (i := i) (Raft.prefix_get h4 ?_))
  rw [List.getElem?_take, if_pos (by omega)]; exact hi
theorem machF_take {F : List Item} {p : Nat} {x : Item} (h : F[p]? = some x) : machF (F.take (p + 1)) = mStep (machF (F.take p)) x := by
  rw [List.take_add_one, h, Option.toList_some, machF_snoc]
section
variable {g g' : RGh}
theorem MOk.le (h : Raft.GhLe tmI g g') {m : Msg} (hm : MOk g m) : MOk g' m := by
  refine ⟨hm.fr, hm.to, hm.ne, hm.term, hm.last, hm.com, hm.len, hm.six, fun e => ?_, fun e => ?_⟩
  · obtain ⟨h1, h2⟩ := hm.ack e
    exact ⟨h.ne h1, Nat.le_trans h2 (h.pre h1).length_le⟩
  · obtain ⟨h1, h2, h3⟩ := hm.ship e
    exact ⟨h.ne h1, Nat.le_trans h2 (h.pre h1).length_le, by rw [h.take h1 h2]; exact h3⟩
theorem NR.le (h : Raft.GhLe tmI g g') {K : Nat} {n : Nd} {x : RNd} (hr : NR g K n x) : NR g' K n x :=
  { hr with out := fun m hm => let ⟨a, b, c⟩ := hr.out m hm; ⟨a.le h, b, c⟩ }
end
theorem frame_room {n : Nd} {r : Rcd} (h : (n.write r).2 = true) : checkRc r = 0 ∧ n.td.length + (frameB r).length ≤ 400000 ∧ (n.write r).1 = { n with td := n.td ++ frameB r } := by
  unfold Nd.write at h ⊢
  split at h
  · cases h
  · rename_i h1
    rw [if_neg h1]
    simp only [not_or, Classical.not_not] at h1
    rw [frame_len]
    exact ⟨h1.1, by omega, rfl⟩
theorem foldD_snoc {rs : List Rcd} {d d' : Dsk} {r : Rcd} (h : foldD rs = (d, 0)) (hs : foldStep d r = (d', 0)) : foldD (rs ++ [r]) = (d', 0) := by
  unfold foldD at h ⊢
  rw [foldGo_app _ _ _ (by rw [h]), h, foldGo_one, hs]
theorem TR.write {n : Nd} {x : RNd} (h : TR n x) (hd : DR n.dsk x.cur) {r : Rcd} {d' : Dsk} (hc : checkRc r = 0) (hs : foldStep n.dsk r = (d', 0)) {n' : Nd} {x' : RNd} (e1 : n'.td = n.td ++ frameB r) (e2 : n'.ts = n.ts) (e3 : n'.dsk = d') (e4 : x'.old = x.old ++ [x.cur]) : TR n' x' := by
  obtain ⟨rs, k, h1, h2, h3, h4, h5, h6⟩ := h
  refine ⟨rs ++ [r], k, ?_, ?_, ?_, ?_, ?_, ?_⟩
  · intro y hy
    rcases List.mem_append.1 hy with hy | hy
    · exact h1 y hy
    · rw [List.mem_singleton] at hy; subst hy; exact hc
  · rw [List.length_append]; omega
  · rw [e1, h3, tape_app]; simp [tapeB]
  · rw [e2, h4, List.take_append_of_le_length h2]
  · rw [e3]; exact foldD_snoc h5 hs
  · intro j hj hl
    rw [List.length_append, List.length_singleton] at hl
    by_cases e : j = rs.length
    · subst e
      exact ⟨n.dsk, x.cur, by rw [List.take_left' rfl]; exact h5, by rw [e4]; simp, hd⟩
    · obtain ⟨d, dk, a, b, c⟩ := h6 j hj (by omega)
      exact ⟨d, dk, by rw [List.take_append_of_le_length (by omega)]; exact a, by rw [e4]; exact List.mem_append_left _ b, c⟩
theorem TR.keep {n n' : Nd} {x x' : RNd} (h : TR n x) (e1 : n'.td = n.td) (e2 : n'.ts = n.ts) (e3 : n'.dsk = n.dsk) (e4 : x'.old = x.old) : TR n' x' := by
  obtain ⟨rs, k, h1, h2, h3, h4, h5, h6⟩ := h
  exact ⟨rs, k, h1, h2, by rw [e1]; exact h3, by rw [e2]; exact h4, by rw [e3]; exact h5, by rw [e4]; exact h6⟩
theorem TR.sync {n n' : Nd} {x x' : RNd} (h : TR n x) (e1 : n'.td = n.td) (e2 : n'.ts = n.td.length) (e3 : n'.dsk = n.dsk) : TR n' x' := by
  obtain ⟨rs, k, h1, h2, h3, h4, h5, h6⟩ := h
  exact ⟨rs, rs.length, h1, Nat.le_refl _, by rw [e1]; exact h3, by rw [e2, List.take_length, h3], by rw [e3]; exact h5, fun j a b => by omega⟩
theorem tape_mono' (l : List Rcd) {i j : Nat} (h : i ≤ j) : (tapeB (l.take i)).length ≤ (tapeB (l.take j)).length := by
  have e : l.take j = l.take i ++ (l.take j).drop i := by
    conv => lhs; rw [← List.take_append_drop i (l.take j)]
    rw [List.take_take, Nat.min_eq_left h]
  rw [e, tape_app, List.length_append]; omega
theorem TR.crash {n : Nd} {x : RNd} (h : TR n x) (hd : DR n.dsk x.cur) {k : Nat} (hk : n.ts ≤ k) : ∃ rs, (∀ r ∈ rs, checkRc r = 0) ∧ recB (n.td.take k) = (rs, (tapeB rs).length) ∧ (tapeB rs).length ≤ k ∧ (n.td.take k).take (tapeB rs).length = tapeB rs ∧ (tapeB rs).length ≤ n.td.length ∧
    ∃ d dk, foldD rs = (d, 0) ∧ (dk = x.cur ∨ dk ∈ x.old) ∧ DR d dk := by
  obtain ⟨rs, s, h1, h2, h3, h4, h5, h6⟩ := h
  obtain ⟨j, a1, a2, a3, a4, a5⟩ := recB_take h1 k
  have hs : s ≤ j := recB_mono (n := 0) h2 (by omega) a1 a4
  refine ⟨rs.take j, fun r hr => h1 r (List.mem_of_mem_take hr), by rw [h3]; exact a2, a3, ?_, ?_, ?_⟩
  · rw [h3, List.take_take, Nat.min_eq_left a3]; exact a5
  · rw [h3]; have := tape_mono' rs a1; rwa [List.take_length] at this
  · by_cases e : j = rs.length
    · subst e; rw [List.take_length]; exact ⟨_, _, h5, .inl rfl, hd⟩
    · obtain ⟨d, dk, b1, b2, b3⟩ := h6 j hs (by omega)
      exact ⟨d, dk, b1, .inr b2, b3⟩
theorem NR.tok {g : RGh} {K : Nat} {n : Nd} {x : RNd} (h : NR g K n x) : TOk n.td n.ts := by
  obtain ⟨rs, s, h1, h2, h3, h4, h5, h6⟩ := h.tape
  have := tape_mono' rs h2
  rw [List.take_length] at this
  exact ⟨by omega, by rw [h4, h3]; omega, h.tdl⟩
end Go.Proofs.YtkkleopmambcnaaGreatDoor
set_option linter.unusedVariables false
set_option linter.unusedSimpArgs false
set_option maxRecDepth 100000
set_option maxHeartbeats 8000000
namespace Go.Proofs.YtkkleopmambcnaaGreatDoor
open Go Go.RowKit Go.Proofs.AE
structure St (g : RGh) (nd : Nat → RNd) (K : Nat) (n : Nd) (x : RNd) : Prop where
  inv : Raft.Inv tmI g nd
  ok : Raft.NdOk tmI g K x
  gi : GI g
  k3 : K < 3
  nr : NR g K n x
section
variable {g : RGh} {nd : Nat → RNd} {K : Nat} {n : Nd} {x : RNd}
theorem St.lr (h : St g nd K n x) : LR n.log x.cur := h.nr.dr.log
theorem St.base_le (h : St g nd K n x) : x.cur.base ≤ x.commit := h.ok.com2
theorem St.len200 (h : St g nd K n x) : n.log.items.length ≤ 200 ∧ x.cur.F.length ≤ 1048576 := by
  have hc := h.nr.dr.chk
  have h1 := last_c' _ _ _ hc
  have h2 := last_room _ _ _ hc
  have h3 := h.lr.len
  have e : n.dsk.log = n.log := rfl
  rw [e] at h1 h2
  omega
theorem St.items (h : St g nd K n x) : ∀ y ∈ x.cur.F, y.check = 0 := h.ok.cur.valid.items h.gi
theorem St.upd (h : St g nd K n x) : Raft.Inv tmI g (Raft.upd nd K x) := h.inv.step0 K fun _ => h.ok
theorem St.send (h : St g nd K n x) {to : Int} {m : Msg} (hm : MOk g { m with fr := n.me, to := to }) (hp : Raft.NdOk tmI g K { x with out := fun t a => x.out t a ∨ (t = to.toNat ∧ a = absM { m with fr := n.me, to := to }) }) : ∃ o, St g nd K (n.send to m) { x with out := o } := by
  unfold Nd.send
  split
  · rename_i hl
    refine ⟨_, h.inv, hp, h.gi, h.k3, ?_⟩
    refine { h.nr with out := fun q hq => ?_, outl := ?_, tape := h.nr.tape.keep rfl rfl rfl rfl }
    · rcases List.mem_append.1 hq with hq | hq
      · obtain ⟨a, b, c⟩ := h.nr.out q hq
        exact ⟨a, b, .inl c⟩
      · rw [List.mem_singleton] at hq; subst hq
        exact ⟨hm, h.nr.me, .inr ⟨rfl, rfl⟩⟩
    · show (n.out ++ _).length ≤ 300
      rw [List.length_append, List.length_singleton]; omega
  · exact ⟨x.out, h⟩
theorem St.sendOther (h : St g nd K n x) {to : Int} {m : Msg} (hm : MOk g { m with fr := n.me, to := to }) (ha : absM { m with fr := n.me, to := to } = .other) : ∃ o, St g nd K (n.send to m) { x with out := o } := by
  refine h.send hm ?_
  rw [ha]
  have hme := h.nr.me
  have h1 := hm.ne; have h2 := hm.to
  simp only at h1 h2
  exact h.ok.pushOther h.inv.gh (by omega) (by omega)
theorem St.refuse (h : St g nd K n x) {to : Int} (ht : 0 ≤ to ∧ to < 3) (hne : to ≠ K) : ∃ o, St g nd K (n.refuse to) { x with out := o } := by
  have hme := h.nr.me; have hk := h.k3; have ht0 := h.nr.dr.t0
  have et : n.dsk.term = n.term := rfl
  rw [et] at ht0
  exact h.sendOther (m := { zMsg with kind := 8, term := n.term }) ⟨by simp only; omega, ht, by simp only; omega, ht0, by simp [zMsg], by simp [zMsg], by simp [zMsg], by simp [zMsg], fun e => by simp at e, fun e => by simp at e⟩ (by simp [absM])
theorem St.tell (h : St g nd K n x) {m : Msg} (hm : ∀ to : Int, 0 ≤ to → to < 3 → to ≠ K → MOk g { m with fr := K, to := to })
    (hp : ∀ (o : Nat → Raft.M Item → Prop) (to : Int), 0 ≤ to → to < 3 → to ≠ K → Raft.NdOk tmI g K { x with out := o } → Raft.NdOk tmI g K { x with out := fun t a => o t a ∨ (t = to.toNat ∧ a = absM { m with fr := K, to := to }) }) : ∃ o, St g nd K (n.tell m) { x with out := o } := by
  have one : ∀ (to : Int), 0 ≤ to → to < 3 → ∀ (n' : Nd) (o : Nat → Raft.M Item → Prop), St g nd K n' { x with out := o } → ∃ o', St g nd K (n'.tellTo m to) { x with out := o' } := by
    intro to h0 h3 n' o hs
    have hme := hs.nr.me
    unfold Nd.tellTo
    split
    · rename_i hne
      rw [hme] at hne
      refine hs.send (by rw [hme]; exact hm to h0 h3 hne) ?_
      rw [hme]
      exact hp o to h0 h3 hne hs.ok
    · exact ⟨o, hs⟩
  unfold Nd.tell
  obtain ⟨o1, h1⟩ := one 0 (by omega) (by omega) n x.out h
  obtain ⟨o2, h2⟩ := one 1 (by omega) (by omega) _ _ h1
  exact one 2 (by omega) (by omega) _ _ h2
theorem markRc_iff {t f : Int} (h : checkRc (markRc t f) = 0) : (1 ≤ t ∧ t ≤ 1048576) ∧ (-1 ≤ f ∧ f < 3) := by
  rcases rc_cases h with ⟨t', f', e, h1, h2, h3⟩ | ⟨i, x, e, _⟩ | ⟨i, t', m, e, _⟩
  · unfold markRc at e
    simp only [Rcd.mk.injEq] at e
    unfold okNumber at h1; simp at h1
    omega
  · unfold markRc at e
    simp only [Rcd.mk.injEq] at e
    omega
  · unfold markRc at e
    simp only [Rcd.mk.injEq] at e
    omega
theorem mark_room {n : Nd} {T v : Int} (h : (n.mark T v).2 = true) : checkRc (markRc T v) = 0 ∧ n.td.length + (frameB (markRc T v)).length ≤ 400000 ∧ (n.mark T v).1 = { n with td := n.td ++ frameB (markRc T v), term := T, vote := v } := by
  unfold Nd.mark at h ⊢
  cases hw : (n.write (markRc T v)).2 with
  | false => rw [hw] at h; simp at h
  | true =>
    obtain ⟨h1, h2, h3⟩ := frame_room hw
    rw [h3]
    exact ⟨h1, h2, rfl⟩
theorem DR.mark {d : Dsk} {k : RDk} (h : DR d k) {T v : Int} (h1 : 1 ≤ T ∧ T ≤ 1048576) (h2 : -1 ≤ v ∧ v < 3) : DR { d with term := T, fr := v } { k with term := T, vote := v } :=
  ⟨rfl, rfl, ⟨h.log.base, h.log.bt, h.log.items, h.log.le⟩, h.chk, h.sidx, h.sterm, h.mach, ⟨by show 0 ≤ T; omega, h1.2⟩, h2⟩
theorem St.later (h : St g nd K n x) {T v : Int} (hT : n.term < T) (hw : (n.mark T v).2 = true) : St g nd K (n.mark T v).1.follow ⟨x.old ++ [x.cur], { x.cur with term := T, vote := v }, 0, x.votes, x.mt, x.commit, x.out⟩ := by
  obtain ⟨h1, h2, h3⟩ := mark_room hw
  obtain ⟨b1, b2⟩ := markRc_iff h1
  have et : n.term = x.cur.term := h.nr.dr.term
  rw [h3]
  refine ⟨h.inv, h.ok.later (by omega) (by omega), h.gi, h.k3, ?_⟩
  exact { me := h.nr.me, dr := h.nr.dr.mark b1 b2, role := rfl, v0 := h.nr.v0, v1 := h.nr.v1, v2 := h.nr.v2, mt := fun e => by simp [Nd.follow] at e, nx := fun e => by simp [Nd.follow] at e, commit := h.nr.commit, mach := h.nr.mach, out := h.nr.out, outl := h.nr.outl,
          tdl := by show (n.td ++ _).length ≤ _; rw [List.length_append]; exact h2
          tape := h.nr.tape.write h.nr.dr h1 (mark_step b1 b2 _) rfl rfl rfl rfl }
theorem St.vote (h : St g nd K n x) {v : Int} (hv : n.vote < 0) (hw : (n.mark n.term v).2 = true) : St g nd K (n.mark n.term v).1 ⟨x.old ++ [x.cur], { x.cur with vote := v }, x.role, x.votes, x.mt, x.commit, x.out⟩ := by
  obtain ⟨h1, h2, h3⟩ := mark_room hw
  obtain ⟨b1, b2⟩ := markRc_iff h1
  have et : n.term = x.cur.term := h.nr.dr.term
  have ev : n.vote = x.cur.vote := h.nr.dr.fr
  rw [h3]
  refine ⟨h.inv, h.ok.votes (by omega), h.gi, h.k3, ?_⟩
  have hd := h.nr.dr.mark b1 b2
  rw [et] at hd
  exact { me := h.nr.me, dr := by rw [et]; exact hd, role := h.nr.role, v0 := h.nr.v0, v1 := h.nr.v1, v2 := h.nr.v2, mt := h.nr.mt, nx := h.nr.nx, commit := h.nr.commit, mach := h.nr.mach, out := h.nr.out, outl := h.nr.outl,
          tdl := by show (n.td ++ _).length ≤ _; rw [List.length_append]; exact h2
          tape := h.nr.tape.write h.nr.dr h1 (mark_step b1 b2 _) rfl rfl rfl rfl }
theorem St.follow (h : St g nd K n x) : St g nd K n.follow { x with role := 0 } :=
  ⟨h.inv, h.ok.follow (by omega), h.gi, h.k3, { h.nr with role := rfl, mt := fun e => by simp [Nd.follow] at e, nx := fun e => by simp [Nd.follow] at e, tape := h.nr.tape.keep rfl rfl rfl rfl }⟩
theorem St.hear (h : St g nd K n x) : ∃ r, r ≠ 2 ∧ St g nd K n.hear { x with role := r } := by
  unfold Nd.hear
  split
  · exact ⟨0, by omega, h.follow⟩
  · rename_i hr
    refine ⟨x.role, ?_, h⟩
    have := h.nr.role; omega
theorem alone_me (h : St g nd K n x) : n.alone.v0 = decide (K = 0) ∧ n.alone.v1 = decide (K = 1) ∧ n.alone.v2 = decide (K = 2) := by
  have := h.nr.me
  unfold Nd.alone
  simp only
  rw [this]
  refine ⟨?_, ?_, ?_⟩ <;> (rw [Bool.eq_iff_iff]; simp) <;> omega
theorem St.asks (h : St g nd K n x) : St g nd K { n with role := 1 }.alone { x with role := 1, votes := fun v => decide (v = K) } := by
  obtain ⟨a, b, c⟩ := alone_me h
  refine ⟨h.inv, h.ok.follow (by omega), h.gi, h.k3, ?_⟩
  have e0 : ({ n with role := 1 }.alone).v0 = n.alone.v0 := rfl
  have e1 : ({ n with role := 1 }.alone).v1 = n.alone.v1 := rfl
  have e2 : ({ n with role := 1 }.alone).v2 = n.alone.v2 := rfl
  exact { h.nr with role := rfl, v0 := by rw [e0, a]; simp [eq_comm], v1 := by rw [e1, b]; simp [eq_comm], v2 := by rw [e2, c]; simp [eq_comm], mt := fun e => by simp [Nd.alone] at e, nx := fun e => by simp [Nd.alone] at e, tape := h.nr.tape.keep rfl rfl rfl rfl }
theorem St.standAct (h : St g nd K n x) : ∃ x', St g nd K n.standAct x' ∧ x'.cur = x.cur ∧ x'.commit = x.commit := by
  unfold Nd.standAct
  split
  · rename_i hc
    have hs := h.asks
    have ht0 := h.nr.dr.t0
    have et : n.dsk.term = n.term := rfl
    have hl := h.lr.lastP n rfl
    have hl2 := h.len200.2
    have hk := h.k3
    rw [et] at ht0
    obtain ⟨o, ho⟩ := hs.tell (m := { zMsg with kind := 1, term := n.term + 1, last := n.lastP, lt := n.lastT })
      (fun to h0 h3 hne => ⟨by simp only; omega, ⟨h0, h3⟩, by simp only; omega, by simp only; omega, by simp only; omega, by simp [zMsg], by simp [zMsg], by simp [zMsg], fun e => by simp at e, fun e => by simp at e⟩)
      (fun o to h0 h3 hne hok => by
        have := hok.pushOther h.inv.gh (to := to.toNat) (by omega) (by omega)
        simpa [absM] using this)
    exact ⟨_, ho, rfl, rfl⟩
  · exact ⟨x, h, rfl, rfl⟩
theorem St.setV (h : St g nd K n x) {v : Int} (hv : 0 ≤ v ∧ v < 3) (hs : x.role = 2 → g.sent v.toNat K (.voted x.cur.term)) : St g nd K (n.setV v) { x with votes := Raft.upd x.votes v.toNat true } := by
  refine ⟨h.inv, ?_, h.gi, h.k3, ?_⟩
  · by_cases hr : x.role = 2
    · exact h.ok.voteCame (hs hr)
    · exact h.ok.keep (fun e => absurd e hr) h.ok.leads h.ok.com h.ok.com2 h.ok.com3
  · have hc : v = 0 ∨ v = 1 ∨ v = 2 := by omega
    rcases hc with rfl | rfl | rfl
    · exact { h.nr with v0 := rfl, v1 := h.nr.v1, v2 := h.nr.v2, tape := h.nr.tape.keep rfl rfl rfl rfl }
    · exact { h.nr with v0 := h.nr.v0, v1 := rfl, v2 := h.nr.v2, tape := h.nr.tape.keep rfl rfl rfl rfl }
    · exact { h.nr with v0 := h.nr.v0, v1 := h.nr.v1, v2 := rfl, tape := h.nr.tape.keep rfl rfl rfl rfl }
theorem many_other (h : St g nd K n x) (hm : n.many = true) : ∃ v, v < 3 ∧ v ≠ K ∧ x.votes v = true := by
  unfold Nd.many at hm
  simp only [decide_eq_true_eq] at hm
  have h0 := h.nr.v0; have h1 := h.nr.v1; have h2 := h.nr.v2
  rw [← h0, ← h1, ← h2] at hm
  have hk := h.k3
  cases e0 : x.votes 0 <;> cases e1 : x.votes 1 <;> cases e2 : x.votes 2 <;> rw [e0, e1, e2] at hm <;> simp at hm
  · exact if e : K = 1 then ⟨2, by omega, by omega, e2⟩ else ⟨1, by omega, by omega, e1⟩
  · exact if e : K = 0 then ⟨2, by omega, by omega, e2⟩ else ⟨0, by omega, by omega, e0⟩
  · exact if e : K = 0 then ⟨1, by omega, by omega, e1⟩ else ⟨0, by omega, by omega, e0⟩
  · exact if e : K = 0 then ⟨1, by omega, by omega, e1⟩ else ⟨0, by omega, by omega, e0⟩
theorem St.done1 (h : St g nd K n x) (hp : x.commit < x.cur.F.length) (hc : Raft.Cmt tmI g x.cur.term (x.cur.F.take (x.commit + 1))) : St g nd K n.doStep.1 { x with commit := x.commit + 1 } := by
  have hb := h.base_le
  have hg := h.lr.get (p := x.commit) hb
  have e1 : (n.commit + 1 - n.log.base - 1).toNat = x.commit - x.cur.base := by
    have := h.nr.commit; have := h.lr.base; omega
  obtain ⟨y, hy⟩ : ∃ y, x.cur.F[x.commit]? = some y := ⟨_, List.getElem?_eq_getElem hp⟩
  rw [hy] at hg
  have hcm : n.commit + 1 = (x.commit + 1 : Nat) := by have := h.nr.commit; omega
  have hok := h.ok.done (p := x.commit + 1) (by omega) hp hc
  unfold Nd.doStep
  rw [e1, hg]
  simp only
  split
  · rename_i hn
    refine ⟨h.inv, hok, h.gi, h.k3, { h.nr with commit := hcm, mach := ?_, tape := h.nr.tape.keep rfl rfl rfl rfl }⟩
    show n.mach = machF (x.cur.F.take (x.commit + 1))
    rw [machF_take hy, h.nr.mach]; unfold mStep; rw [if_pos hn]
  · rename_i hn
    refine ⟨h.inv, hok, h.gi, h.k3, { h.nr with commit := hcm, mach := ?_, tape := h.nr.tape.keep rfl rfl rfl rfl }⟩
    show (DoM n.mach y.time y.cal).1 = machF (x.cur.F.take (x.commit + 1))
    rw [machF_take hy, h.nr.mach]; unfold mStep; rw [if_neg hn]
theorem St.doGo : ∀ (k : Nat) {n : Nd} {x : RNd}, St g nd K n x → x.commit + k ≤ x.cur.F.length → Raft.Cmt tmI g x.cur.term (x.cur.F.take (x.commit + k)) → St g nd K (Go.Proofs.YtkkleopmambcnaaGreatDoor.doGo k n).1 { x with commit := x.commit + k }
  | 0, n, x, h, _, _ => h
  | k + 1, n, x, h, hp, hc => by
    have h1 := h.done1 (by omega) (hc.pre (Raft.take_pre (by omega)))
    have h2 := St.doGo k h1 (by simp only; omega) (by simp only; rw [show x.commit + 1 + k = x.commit + (k + 1) by omega]; exact hc)
    simp only at h2
    rw [show x.commit + 1 + k = x.commit + (k + 1) by omega] at h2
    exact h2
theorem St.done (h : St g nd K n x) {p : Nat} (hp : p ≤ x.cur.F.length) (hc : x.commit ≤ p → Raft.Cmt tmI g x.cur.term (x.cur.F.take p)) : St g nd K (n.done p).1 { x with commit := max x.commit p } := by
  unfold Nd.done
  have e : ((p : Int) - n.commit).toNat = p - x.commit := by have := h.nr.commit; omega
  rw [e]
  by_cases hle : x.commit ≤ p
  · have h1 := h.doGo (p - x.commit) (by omega) (by rw [show x.commit + (p - x.commit) = p by omega]; exact hc hle)
    rw [show x.commit + (p - x.commit) = p by omega] at h1
    rw [Nat.max_eq_right hle]; exact h1
  · rw [show p - x.commit = 0 by omega, Nat.max_eq_left (by omega)]; exact h
theorem loadRc_iff {i t : Int} {m : Mach} (h : checkRc (loadRc i t m) = 0) : (1 ≤ i ∧ i ≤ 1048576) ∧ (1 ≤ t ∧ t ≤ 1048576) ∧ OkM m := by
  rcases rc_cases h with ⟨t', f', e, h1, h2, h3⟩ | ⟨i', x, e, _⟩ | ⟨i', t', m', e, h1, h2, h3⟩
  · unfold loadRc at e
    simp only [Rcd.mk.injEq] at e
    omega
  · unfold loadRc at e
    simp only [Rcd.mk.injEq] at e
    omega
  · unfold loadRc at e
    simp only [Rcd.mk.injEq] at e
    obtain ⟨_, _, _, _, _, rfl, rfl, rfl⟩ := e
    unfold okNumber at h1 h2; simp at h1 h2
    exact ⟨by omega, by omega, h3⟩
theorem St.trim (h : St g nd K n x) : ∃ x', St g nd K n.trim x' ∧ x'.cur.F = x.cur.F ∧ x'.cur.term = x.cur.term ∧ x'.commit = x.commit ∧ x.cur.base ≤ x'.cur.base := by
  have hb := h.base_le
  have hco := h.ok.com
  have hcm := h.nr.commit
  have hlb := h.lr.base
  unfold Nd.trim
  split
  · exact ⟨x, h, rfl, rfl, rfl, Nat.le_refl _⟩
  · rename_i hne
    split
    · exact ⟨x, h, rfl, rfl, rfl, Nat.le_refl _⟩
    · rename_i hw
      simp only [Bool.not_eq_false] at hw
      obtain ⟨h1, h2, h3⟩ := frame_room hw
      obtain ⟨b1, b2, b3⟩ := loadRc_iff h1
      rw [h3]
      have hta := h.lr.termAt (p := x.commit) hb hco
      have hte := h.lr.termErr (p := x.commit) hb hco
      have hlt : n.dsk.sidx < n.commit := by
        have : n.dsk.sidx = n.log.base := h.nr.dr.sidx
        omega
      have hs := load_step b1 b2 b3 n.dsk
      rw [if_pos hlt] at hs
      have hre : restD n.dsk.log n.commit (termAt n.log.base n.log.bt n.log.items n.commit) = ⟨n.commit, termAt n.log.base n.log.bt n.log.items n.commit, n.log.items.drop (n.commit - n.log.base).toNat⟩ := by
        unfold restD
        rw [if_pos ⟨by rw [hcm]; exact hte, rfl⟩]; rfl
      rw [hre] at hs
      have hlr : LR ⟨n.commit, termAt n.log.base n.log.bt n.log.items n.commit, n.log.items.drop (n.commit - n.log.base).toNat⟩ { x.cur with base := x.commit } := by
        refine ⟨hcm, by rw [hcm]; exact hta, ?_, hco⟩
        show n.log.items.drop _ = x.cur.F.drop x.commit
        rw [h.lr.items, List.drop_drop]
        congr 1; omega
      refine ⟨⟨x.old ++ [x.cur], { x.cur with base := x.commit }, x.role, x.votes, x.mt, x.commit, x.out⟩, ⟨h.inv, h.ok.trim, h.gi, h.k3, ?_⟩, rfl, rfl, rfl, hb⟩
      have hck := restD_ok h.nr.dr.chk b1 b2
      rw [hre] at hck
      exact { h.nr with
        dr := ⟨h.nr.dr.term, h.nr.dr.fr, hlr, hck, rfl, rfl, h.nr.mach, h.nr.dr.t0, h.nr.dr.f0⟩
        tdl := by show (n.td ++ _).length ≤ _; rw [List.length_append]; exact h2
        tape := h.nr.tape.write h.nr.dr h1 hs rfl rfl rfl rfl }
end
end Go.Proofs.YtkkleopmambcnaaGreatDoor
set_option linter.unusedVariables false
set_option linter.unusedSimpArgs false
set_option maxRecDepth 100000
set_option maxHeartbeats 8000000
namespace Go.Proofs.YtkkleopmambcnaaGreatDoor
open Go Go.RowKit Go.Proofs.AE
structure Ev (K : Nat) (g g' : RGh) (nd nd' : Nat → RNd) : Prop where
  le : Raft.GhLe tmI g g'
  oth : ∀ j, j ≠ K → nd' j = nd j
theorem Ev.refl (K : Nat) (g : RGh) (nd : Nat → RNd) : Ev K g g nd nd := ⟨Raft.GhLe.refl g, fun _ _ => rfl⟩
theorem Raft.GhLe.trans {a b c : RGh} (h1 : Raft.GhLe tmI a b) (h2 : Raft.GhLe tmI b c) : Raft.GhLe tmI a c :=
  ⟨fun _ _ _ h => h2.sent _ _ _ (h1.sent _ _ _ h), fun _ _ h => h2.led _ _ (h1.led _ _ h), fun t ht => by
    obtain ⟨E, e1, e2⟩ := h1.LL t ht
    obtain ⟨E', e3, e4⟩ := h2.LL t (h1.ne ht)
    refine ⟨E ++ E', by rw [e3, e1, List.append_assoc], fun x hx => ?_⟩
    rcases List.mem_append.1 hx with hx | hx
    · exact e2 x hx
    · exact e4 x hx⟩
theorem Ev.trans {K : Nat} {a b c : RGh} {p q r : Nat → RNd} (h1 : Ev K a b p q) (h2 : Ev K b c q r) : Ev K a c p r := ⟨h1.le.trans h2.le, fun j hj => (h2.oth j hj).trans (h1.oth j hj)⟩
section
variable {g : RGh} {nd : Nat → RNd} {K : Nat} {n : Nd} {x : RNd}
theorem upd_oth {f : Nat → RNd} {K : Nat} {a b : RNd} : ∀ j, j ≠ K → Raft.upd (Raft.upd f K a) K b j = f j := fun j hj => by rw [Raft.upd_ne _ _ _ hj, Raft.upd_ne _ _ _ hj]
theorem app_le {T : Int} {F : List Item} {a : Item} (hF : g.LL T = F) (ha : a.term = T) : Raft.GhLe tmI g (g.app T (F ++ [a])) := ⟨fun _ _ _ h => h, fun _ _ h => h, fun t ht => by
  by_cases e : t = T
  · subst e; exact ⟨[a], by show (if _ then _ else _) = _; rw [if_pos rfl, hF], by intro y hy; rw [List.mem_singleton] at hy; subst hy; exact ha⟩
  · exact ⟨[], by show (if _ then _ else _) = _; rw [if_neg e]; simp, by simp⟩⟩
theorem lead_le {T : Int} {v : Nat} {F : List Item} (hn : g.led T = none) : Raft.GhLe tmI g (g.lead T K v F) := by
  have hne : ∀ t, g.led t ≠ none → t ≠ T := by rintro t ht rfl; exact ht hn
  exact ⟨fun _ _ _ h => h, fun t c hc => by
    show (if _ then _ else _) = _
    rw [if_neg (hne t (by rw [hc]; simp))]; exact hc, fun t ht => ⟨[], by
    show (if _ then _ else _) = _
    rw [if_neg (hne t ht)]; simp, by simp⟩⟩
theorem stand_le {T : Int} {F : List Item} : Raft.GhLe tmI g (g.stand T K F) := ⟨fun _ _ _ h => h, fun _ _ h => h, fun _ _ => ⟨[], by simp [Raft.Gh.stand], by simp⟩⟩
theorem line_step {d : Dsk} {place : Int} {y : Item} (h1 : d.log.base < place) (h2 : place ≤ d.log.base + d.log.items.length + 1) (hc : checkRc (lineRec place y) = 0) (hk : checkLog d.log.base d.log.bt (d.log.items.take (place - d.log.base - 1).toNat ++ [y]) = 0) :
    foldStep d (lineRec place y) = ({ d with log := ⟨d.log.base, d.log.bt, d.log.items.take (place - d.log.base - 1).toNat ++ [y]⟩ }, 0) := by
  unfold foldStep
  rw [if_neg (by rw [hc]; simp), if_neg (by show ¬ (2 : Int) = 1; omega), if_pos (show (lineRec _ _).kind = 2 from rfl)]
  have hl : lineD d.log (lineRec place y).index (lineRec place y).item = (⟨d.log.base, d.log.bt, d.log.items.take (place - d.log.base - 1).toNat ++ [y]⟩, 0) := by
    unfold lineD lineRec
    simp only
    rw [if_neg (by omega), if_neg (by omega), if_neg (by rw [hk]; simp)]
  rw [hl, if_neg (by simp)]
theorem put_none {n : Nd} {y : Item} (h : (n.put y).2 = false) : (n.put y).1 = n := by
  unfold Nd.put at h ⊢
  split
  · rfl
  · rename_i hc; rw [if_neg hc] at h; cases h
theorem put_some {n : Nd} {d : RDk} (hl : LR n.log d) {y : Item} (h : (n.put y).2 = true) : checkLog n.log.base n.log.bt (n.log.items ++ [y]) = 0 ∧ y.check = 0 ∧ checkRc (lineRec (n.lastP + 1) y) = 0 ∧ n.td.length + (frameB (lineRec (n.lastP + 1) y)).length ≤ 400000 ∧
    (n.put y).1 = { n with td := n.td ++ frameB (lineRec (n.lastP + 1) y), log := ⟨n.log.base, n.log.bt, n.log.items ++ [y]⟩ } := by
  have e1 := hl.lastP n rfl
  have e2 := hl.lastT n rfl
  have ht := hl.termAt (p := d.F.length) hl.le (Nat.le_refl _)
  have he := hl.termErr (p := d.F.length) hl.le (Nat.le_refl _)
  rw [List.take_length, ← e2, ← e1] at ht
  rw [← e1] at he
  have hb : ¬ n.lastP < n.log.base := by unfold Nd.lastP; omega
  have hk : (n.lastP - n.log.base).toNat = n.log.items.length := by unfold Nd.lastP; omega
  have hnone : n.log.items[n.log.items.length]? = none := List.getElem?_eq_none (Nat.le_refl _)
  have hgo : matchD n.log n.lastP n.lastT [y] = if checkLog n.lastP n.lastT [y] ≠ 0 then (zeroLg, false, 0, 10) else if checkLog n.log.base n.log.bt (n.log.items ++ [y]) = 0 then (⟨n.log.base, n.log.bt, n.log.items ++ [y]⟩, true, n.lastP + 1, 0) else (zeroLg, false, 0, 6) := by
    unfold matchD
    split
    · rfl
    · rw [if_neg (by rintro (a | a); exact a he; exact a ht)]
      unfold matchGoD
      rw [hk]
      simp only [firstNew, hnone, Bool.false_eq_true, if_false, Nat.add_zero, List.take_length, List.drop_zero, Int.natCast_zero, Int.add_zero]
  unfold Nd.put at h ⊢
  split at h
  · cases h
  · rename_i hc
    rw [if_neg hc]
    simp only [not_or, Classical.not_not, Bool.not_eq_false] at hc
    obtain ⟨c1, c2, c3, c4⟩ := hc
    obtain ⟨w1, w2, w3⟩ := frame_room c4
    rw [hgo] at c1 ⊢
    split at c1
    · cases c1
    · rename_i k1
      simp only [Classical.not_not] at k1
      split at c1
      · rename_i k2
        rw [if_neg (by rw [k1]; simp), if_pos k2, w3]
        refine ⟨k2, ?_, w1, w2, rfl⟩
        exact (chk_all (checkLog_iff.1 k1).2 y (List.mem_singleton.2 rfl)).1
      · cases c1
theorem St.put (h : St g nd K n x) (hr : x.role = 3) {y : Item} (hy : y.term = n.term) : ∃ g' nd' x', Ev K g g' nd nd' ∧ g'.led = g.led ∧ St g' nd' K (n.put y).1 x' ∧ x'.role = 3 ∧ x'.cur.term = x.cur.term ∧ x'.commit = x.commit ∧ x'.cur.base = x.cur.base := by
  cases hp : (n.put y).2 with
  | false => rw [put_none hp]; exact ⟨g, nd, x, Ev.refl K g nd, rfl, h, hr, rfl, rfl, rfl⟩
  | true =>
    obtain ⟨h1, h2, h3, h4, h5⟩ := put_some h.lr hp
    obtain ⟨l1, l2, l3⟩ := h.ok.leads hr
    have et : n.term = x.cur.term := h.nr.dr.term
    have hyt : y.term = x.cur.term := by rw [hy, et]
    have hi := Raft.Inv.append h.upd h.k3 (a := y) (by rw [Raft.upd_same]; exact hr) (by rw [Raft.upd_same]; exact hyt) (item_ok h2).1
    rw [Raft.upd_same] at hi
    have hok := hi.nd K h.k3
    rw [Raft.upd_same] at hok
    have hle := app_le (g := g) l2 hyt
    have hb := h.lr.base
    have hll := h.lr.le
    have hlen := h.lr.len
    have e1 := h.lr.lastP n rfl
    have hlr : LR ⟨n.log.base, n.log.bt, n.log.items ++ [y]⟩ { x.cur with F := x.cur.F ++ [y] } := by
      refine ⟨hb, ?_, ?_, ?_⟩
      · show n.log.bt = Raft.lastT tmI ((x.cur.F ++ [y]).take x.cur.base)
        rw [List.take_append_of_le_length hll]; exact h.lr.bt
      · show n.log.items ++ [y] = (x.cur.F ++ [y]).drop x.cur.base
        rw [List.drop_append_of_le_length hll, h.lr.items]
      · show x.cur.base ≤ (x.cur.F ++ [y]).length
        rw [List.length_append]; omega
    have hn' : { n with td := n.td ++ frameB (lineRec (n.lastP + 1) y), log := ⟨n.log.base, n.log.bt, n.log.items ++ [y]⟩ } = (n.put y).1 := h5.symm
    have hroom : ((x.cur.F ++ [y]).length : Int) ≤ 1048576 := by
      have := last_room _ _ _ h1
      rw [List.length_append] at this ⊢
      push_cast at this ⊢; omega
    have hgi : GI (g.app x.cur.term (x.cur.F ++ [y])) := by
      refine ⟨fun t ht z hz => ?_, fun t ht => ?_⟩
      · by_cases e : t = x.cur.term
        · subst e
          have : (g.app x.cur.term (x.cur.F ++ [y])).LL x.cur.term = x.cur.F ++ [y] := if_pos rfl
          rw [this] at hz
          rcases List.mem_append.1 hz with hz | hz
          · exact h.items z hz
          · rw [List.mem_singleton] at hz; subst hz; exact h2
        · have : (g.app x.cur.term (x.cur.F ++ [y])).LL t = g.LL t := if_neg e
          rw [this] at hz; exact h.gi.itm t ht z hz
      · by_cases e : t = x.cur.term
        · subst e
          have : (g.app x.cur.term (x.cur.F ++ [y])).LL x.cur.term = x.cur.F ++ [y] := if_pos rfl
          rw [this]; omega
        · have : (g.app x.cur.term (x.cur.F ++ [y])).LL t = g.LL t := if_neg e
          rw [this]; exact h.gi.len t ht
    have htk : ∀ q, q ≤ x.cur.F.length → (x.cur.F ++ [y]).take q = x.cur.F.take q := fun q hq => List.take_append_of_le_length hq
    refine ⟨_, _, _, ⟨hle, upd_oth⟩, rfl, ⟨hi, hok, hgi, h.k3, ?_⟩, rfl, rfl, rfl, rfl⟩
    rw [← hn']
    have hst := line_step (d := n.dsk) (place := n.lastP + 1) (y := y) (by show n.log.base < _; unfold Nd.lastP; omega) (by show _ ≤ n.log.base + n.log.items.length + 1; unfold Nd.lastP; omega) h3 (by
      show checkLog n.log.base n.log.bt (n.log.items.take (n.lastP + 1 - n.log.base - 1).toNat ++ [y]) = 0
      rw [show (n.lastP + 1 - n.log.base - 1).toNat = n.log.items.length by unfold Nd.lastP; omega, List.take_length]; exact h1)
    have hst2 : (n.dsk.log.items.take (n.lastP + 1 - n.dsk.log.base - 1).toNat) = n.log.items := by
      show n.log.items.take (n.lastP + 1 - n.log.base - 1).toNat = _
      rw [show (n.lastP + 1 - n.log.base - 1).toNat = n.log.items.length by unfold Nd.lastP; omega, List.take_length]
    rw [hst2] at hst
    obtain ⟨⟨a1, a2, a3⟩, a4⟩ := h.nr.mt (by have := h.nr.role; omega)
    have a5 := h.nr.nx (by have := h.nr.role; omega)
    have hsm : n.smach = machF (x.cur.F.take x.cur.base) := h.nr.dr.mach
    have hsi : n.sidx = n.log.base := h.nr.dr.sidx
    have hstm : n.sterm = n.log.bt := h.nr.dr.sterm
    exact { me := h.nr.me
            dr := ⟨h.nr.dr.term, h.nr.dr.fr, hlr, h1, hsi, hstm, by show n.smach = machF ((x.cur.F ++ [y]).take x.cur.base); rw [htk _ hll]; exact hsm, h.nr.dr.t0, h.nr.dr.f0⟩
            role := by have := h.nr.role; show n.role = (3 : Nat); omega
            v0 := h.nr.v0, v1 := h.nr.v1, v2 := h.nr.v2
            mt := fun _ => ⟨⟨a1, a2, a3⟩, by simp only [List.length_append]; omega, by simp only [List.length_append]; omega, by simp only [List.length_append]; omega⟩
            nx := fun _ => by simp only [List.length_append, List.length_singleton]; push_cast; omega
            commit := h.nr.commit
            mach := by show n.mach = machF ((x.cur.F ++ [y]).take x.commit); rw [htk _ h.ok.com]; exact h.nr.mach
            out := fun m hm => let ⟨a, b, c⟩ := h.nr.out m hm; ⟨a.le hle, b, c⟩
            outl := h.nr.outl
            tdl := by show (n.td ++ _).length ≤ _; rw [List.length_append]; exact h4
            tape := h.nr.tape.write h.nr.dr h3 hst rfl rfl rfl rfl }
theorem St.heapTo (h : St g nd K n x) (hr : x.role = 3) {to : Int} (h0 : 0 ≤ to) (h3 : to < 3) : ∃ o, St g nd K (n.heapTo to) { x with out := o } := by
  unfold Nd.heapTo
  have hme := h.nr.me
  split
  · exact ⟨x.out, h⟩
  · rename_i hne
    rw [hme] at hne
    obtain ⟨l1, l2, l3⟩ := h.ok.leads hr
    have hr3 : n.role = 3 := by have := h.nr.role; omega
    have hnx : 1 ≤ n.nx to ∧ n.nx to ≤ x.cur.F.length + 1 := by
      have := h.nr.nx hr3
      unfold Nd.nx
      split
      · exact this.1
      · split
        · exact this.2.1
        · exact this.2.2
    have et : n.term = x.cur.term := h.nr.dr.term
    have ht0 : 0 ≤ n.term ∧ n.term ≤ 1048576 := h.nr.dr.t0
    have hb := h.lr.base
    have hlen := h.len200.2
    have hll := h.lr.le
    have hk := h.k3
    unfold Nd.heapMsg
    split
    · rename_i hlt
      have hsi : n.sidx = n.log.base := h.nr.dr.sidx
      have hst : n.sterm = n.log.bt := h.nr.dr.sterm
      have hsm : n.smach = machF (x.cur.F.take x.cur.base) := h.nr.dr.mach
      have hbt := h.lr.bt
      refine h.send ⟨by simp only; omega, ⟨h0, h3⟩, by simp only; omega, ht0, by simp [zMsg], by simp [zMsg], by simp [zMsg], by simp only; omega, fun e => by simp at e, fun _ => ?_⟩ ?_
      · simp only
        have e1 : n.sidx.toNat = x.cur.base := by omega
        rw [et, l2, e1]
        exact ⟨by rw [l1]; simp, hll, hsm⟩
      · have := h.ok.pushShip h.inv.gh hr (to := to.toNat) (by omega) (by omega) (by omega)
        have e1 : n.sidx.toNat = x.cur.base := by omega
        simp only [absM]
        rw [if_neg (by omega), if_neg (by omega), if_neg (by omega), if_pos trivial, e1, hst, hbt, et]
        exact this
    · rename_i hge
      obtain ⟨p, hp⟩ : ∃ p : Nat, (p : Int) = n.nx to - 1 := ⟨(n.nx to - 1).toNat, by omega⟩
      rw [← hp] at hge ⊢
      have hta := h.lr.termAt (p := p) (by omega) (by omega)
      have hte := h.lr.termErr (p := p) (by omega) (by omega)
      rw [if_pos hte, hta]
      have hbe : behind n.log.base n.log.items p 8 = (x.cur.F.drop p).take 8 := by
        unfold behind
        rw [h.lr.items, List.drop_drop]
        congr 2
        omega
      have hcm := h.nr.commit
      rw [hbe]
      refine h.send ⟨by simp only; omega, ⟨h0, h3⟩, by simp only; omega, ht0, by simp only; omega, by simp only; omega, by simp only [List.length_take]; omega, by simp [zMsg], fun e => by simp at e, fun e => by simp at e⟩ ?_
      have := h.ok.pushHeap h.inv.gh hr (to := to.toNat) (last := p) (items := (x.cur.F.drop p).take 8) (by omega) (by omega) (by omega) (by rw [List.length_take]; rcases Nat.le_total 8 (x.cur.F.drop p).length with e | e; rw [Nat.min_eq_left e]; rw [Nat.min_eq_right e, List.take_length, List.take_of_length_le e]) (commit := x.commit) (Nat.le_refl _)
      simp only [absM]
      rw [if_neg (by omega), if_neg (by omega), if_pos trivial, et, hcm, Int.toNat_natCast, Int.toNat_natCast]
      exact this
theorem St.heap (h : St g nd K n x) (hr : x.role = 3) : ∃ o, St g nd K n.heap { x with out := o } := by
  unfold Nd.heap
  obtain ⟨o1, h1⟩ := h.heapTo hr (to := 0) (by omega) (by omega)
  obtain ⟨o2, h2⟩ := h1.heapTo hr (to := 1) (by omega) (by omega)
  exact h2.heapTo hr (to := 2) (by omega) (by omega)
theorem St.stand (h : St g nd K n x) : ∃ g' nd' x', Ev K g g' nd nd' ∧ g'.led = g.led ∧ St g' nd' K n.stand x' ∧ x.cur.term ≤ x'.cur.term ∧ x'.commit = x.commit ∧ x'.cur.base = x.cur.base := by
  unfold Nd.stand
  split
  · exact ⟨g, nd, x, Ev.refl K g nd, rfl, h, Int.le_refl _, rfl, rfl⟩
  · rename_i hc
    simp only [not_or, Bool.not_eq_false] at hc
    obtain ⟨h1, h2, h3⟩ := mark_room hc.2
    obtain ⟨b1, b2⟩ := markRc_iff h1
    have et : n.term = x.cur.term := h.nr.dr.term
    have hme := h.nr.me
    have hk := h.k3
    have hi := Raft.Inv.stand h.upd h.k3 (votes := fun v => decide (v = K)) (fun v hv => of_decide_eq_true hv)
    rw [Raft.upd_same] at hi
    have hok := hi.nd K h.k3
    rw [Raft.upd_same] at hok
    have hle := stand_le (g := g) (K := K) (T := x.cur.term + 1) (F := x.cur.F)
    have hgi : GI (g.stand (x.cur.term + 1) K x.cur.F) := ⟨h.gi.itm, h.gi.len⟩
    rw [h3]
    have hd := h.nr.dr.mark b1 b2
    rw [et, hme] at hd
    have hnr : NR (g.stand (x.cur.term + 1) K x.cur.F) K ({ ({ n with td := n.td ++ frameB (markRc (n.term + 1) n.me), term := n.term + 1, vote := n.me } : Nd) with role := 2 }.alone) ⟨x.old ++ [x.cur], { x.cur with term := x.cur.term + 1, vote := K }, 2, fun v => decide (v = K), x.mt, x.commit, x.out⟩ := by
      obtain ⟨a, b, c⟩ := alone_me h
      exact { me := hme
              dr := by
                show DR ⟨n.term + 1, n.me, n.sidx, n.sterm, n.smach, n.log⟩ _
                rw [et, hme]; exact hd
              role := rfl
              v0 := by show decide (0 = K) = n.alone.v0; rw [a]; simp [eq_comm]
              v1 := by show decide (1 = K) = n.alone.v1; rw [b]; simp [eq_comm]
              v2 := by show decide (2 = K) = n.alone.v2; rw [c]; simp [eq_comm]
              mt := fun e => by simp [Nd.alone] at e
              nx := fun e => by simp [Nd.alone] at e
              commit := h.nr.commit, mach := h.nr.mach
              out := fun m hm => let ⟨p, q, r⟩ := h.nr.out m hm; ⟨p.le hle, q, r⟩
              outl := h.nr.outl
              tdl := by show (n.td ++ _).length ≤ _; rw [List.length_append]; exact h2
              tape := h.nr.tape.write h.nr.dr h1 (mark_step b1 b2 _) rfl rfl rfl rfl }
    have hs := St.mk hi hok hgi h.k3 hnr
    have hlp := hs.lr.lastP _ rfl
    have hlt := hs.lr.lastT _ rfl
    have hl2 := hs.len200.2
    simp only at hlp hlt hl2
    unfold Nd.standB
    have e1 : ({ n with td := n.td ++ frameB (markRc (n.term + 1) n.me), term := n.term + 1, vote := n.me } : Nd).lastP = x.cur.F.length := hlp
    have e2 : ({ n with td := n.td ++ frameB (markRc (n.term + 1) n.me), term := n.term + 1, vote := n.me } : Nd).lastT = Raft.lastT tmI x.cur.F := hlt
    rw [e1, e2]
    obtain ⟨o, ho⟩ := hs.tell (m := { zMsg with kind := 3, term := n.term + 1, last := x.cur.F.length, lt := Raft.lastT tmI x.cur.F })
      (fun to h0 h3 hne => ⟨by simp only; omega, ⟨h0, h3⟩, by simp only; omega, by simp only; omega, by simp only; omega, by simp [zMsg], by simp [zMsg], by simp [zMsg], fun e => by simp at e, fun e => by simp at e⟩)
      (fun o to h0 h3 hne hok => by
        have := hok.pushVote hi.gh rfl (to := to.toNat) (by omega) (by omega)
        simp only [absM]
        rw [if_pos trivial, Int.toNat_natCast, et]
        exact this)
    exact ⟨_, _, _, ⟨hle, upd_oth⟩, rfl, ho, by simp only; omega, rfl, rfl⟩
end
end Go.Proofs.YtkkleopmambcnaaGreatDoor
set_option linter.unusedVariables false
set_option linter.unusedSimpArgs false
set_option maxRecDepth 100000
set_option maxHeartbeats 8000000
namespace Go.Proofs.YtkkleopmambcnaaGreatDoor
open Go Go.RowKit Go.Proofs.AE
section
variable {g : RGh} {nd : Nat → RNd} {K : Nat} {n : Nd} {x : RNd}
theorem St.leadN (h : St g nd K n x) (hr : x.role = 2) (hm : n.many = true) : g.led n.term = none ∧ ∃ g' nd' x', Ev K g g' nd nd' ∧ (∀ t, g'.led t = if t = n.term then some K else g.led t) ∧ St g' nd' K n.leadN x' ∧ x'.role = 3 ∧ x'.cur = x.cur ∧ x'.commit = x.commit := by
  obtain ⟨v, hv3, hvn, hv⟩ := many_other h hm
  have et : n.term = x.cur.term := h.nr.dr.term
  obtain ⟨hno, hi⟩ := Raft.Inv.lead h.upd h.k3 (by rw [Raft.upd_same]; exact hr) hv3 hvn (by rw [Raft.upd_same]; exact hv)
  rw [Raft.upd_same] at hno hi
  have hok := hi.nd K h.k3
  rw [Raft.upd_same] at hok
  have hle := lead_le (K := K) (v := v) (F := x.cur.F) hno
  have hgi : GI (g.lead x.cur.term K v x.cur.F) := by
    refine ⟨fun t ht z hz => ?_, fun t ht => ?_⟩
    · by_cases e : t = x.cur.term
      · subst e
        have : (g.lead x.cur.term K v x.cur.F).LL x.cur.term = x.cur.F := if_pos rfl
        rw [this] at hz; exact h.items z hz
      · have e1 : (g.lead x.cur.term K v x.cur.F).LL t = g.LL t := if_neg e
        have e2 : (g.lead x.cur.term K v x.cur.F).led t = g.led t := if_neg e
        rw [e1] at hz; rw [e2] at ht; exact h.gi.itm t ht z hz
    · by_cases e : t = x.cur.term
      · subst e
        have : (g.lead x.cur.term K v x.cur.F).LL x.cur.term = x.cur.F := if_pos rfl
        rw [this]; exact h.len200.2
      · have e1 : (g.lead x.cur.term K v x.cur.F).LL t = g.LL t := if_neg e
        have e2 : (g.lead x.cur.term K v x.cur.F).led t = g.led t := if_neg e
        rw [e1]; rw [e2] at ht; exact h.gi.len t ht
  have e1 := h.lr.lastP n rfl
  refine ⟨by rw [et]; exact hno, _, _, _, ⟨hle, upd_oth⟩, fun t => by rw [et]; rfl, ⟨hi, hok, hgi, h.k3, ?_⟩, rfl, rfl, rfl⟩
  exact { me := h.nr.me, dr := h.nr.dr, role := rfl, v0 := h.nr.v0, v1 := h.nr.v1, v2 := h.nr.v2
          mt := fun _ => ⟨⟨rfl, rfl, rfl⟩, Nat.zero_le _, Nat.zero_le _, Nat.zero_le _⟩
          nx := fun _ => by show (1 ≤ n.lastP + 1 ∧ n.lastP + 1 ≤ (x.cur.F.length : Int) + 1) ∧ (1 ≤ n.lastP + 1 ∧ n.lastP + 1 ≤ (x.cur.F.length : Int) + 1) ∧ (1 ≤ n.lastP + 1 ∧ n.lastP + 1 ≤ (x.cur.F.length : Int) + 1); omega
          commit := h.nr.commit, mach := h.nr.mach
          out := fun m hm => let ⟨p, q, r⟩ := h.nr.out m hm; ⟨p.le hle, q, r⟩
          outl := h.nr.outl, tdl := h.nr.tdl
          tape := h.nr.tape.keep rfl rfl rfl rfl }
theorem St.leadP (h : St g nd K n x) (hr : x.role = 2) (hm : n.many = true) : g.led n.term = none ∧ ∃ g' nd' x', Ev K g g' nd nd' ∧ (∀ t, g'.led t = if t = n.term then some K else g.led t) ∧ St g' nd' K n.leadP x' ∧ x'.cur.term = x.cur.term ∧ x'.commit = x.commit ∧ x'.cur.base = x.cur.base := by
  obtain ⟨h0, g1, nd1, x1, e1, l1, s1, r1, c1, m1⟩ := h.leadN hr hm
  obtain ⟨g2, nd2, x2, e2, l2, s2, r2, c2, m2, b2⟩ := s1.put r1 (y := nopItem n.term n.leadN.time) rfl
  obtain ⟨o, s3⟩ := s2.heap r2
  refine ⟨h0, g2, nd2, _, e1.trans e2, fun t => by rw [l2]; exact l1 t, s3, ?_, ?_, ?_⟩
  · rw [c2, c1]
  · show x2.commit = _; rw [m2, m1]
  · show x2.cur.base = _; rw [b2, c1]
theorem newer_of (h : St g nd K n x) {last lt : Int} (h0 : 0 ≤ last) (hn : n.newer last lt = true) : Raft.newer tmI x.cur.F last.toNat lt := by
  have e1 := h.lr.lastP n rfl
  have e2 := h.lr.lastT n rfl
  unfold Nd.newer at hn
  simp only [Bool.or_eq_true, Bool.and_eq_true, decide_eq_true_eq, beq_iff_eq] at hn
  unfold Raft.newer
  rw [← e2]
  rcases hn with hn | ⟨hn, hm⟩
  · exact .inl hn
  · exact .inr ⟨hn.symm, by omega⟩
theorem St.pre (h : St g nd K n x) {m : Msg} (hm : MOk g m) (hto : m.to = K) : ∃ o, St g nd K (n.pre m) { x with out := o } := by
  have hne := hm.ne
  have hk := h.k3; have hme := h.nr.me
  unfold Nd.pre
  split
  · exact h.sendOther ⟨by simp only; omega, hm.fr, by simp only; omega, hm.term, by simp [zMsg], by simp [zMsg], by simp [zMsg], by simp [zMsg], fun e => by simp at e, fun e => by simp at e⟩ (by simp [absM])
  · exact h.refuse hm.fr (by omega)
theorem St.voteB (h : St g nd K n x) {m : Msg} (hm : MOk g m) (hto : m.to = K) {dst last : Nat} {lt : Int} (hs : g.sent m.fr.toNat dst (.vote x.cur.term last lt)) (hv : n.vote = m.fr) (hn : Raft.newer tmI x.cur.F last lt) : ∃ o, St g nd K (n.voteB m) { x with out := o } := by
  have hne := hm.ne; have hf := hm.fr
  have hk := h.k3; have hme := h.nr.me
  have et : n.term = x.cur.term := h.nr.dr.term
  have ev : n.vote = x.cur.vote := h.nr.dr.fr
  have ht0 : 0 ≤ n.term ∧ n.term ≤ 1048576 := h.nr.dr.t0
  unfold Nd.voteB
  refine h.send ⟨by simp only; omega, hm.fr, by simp only; omega, ht0, by simp [zMsg], by simp [zMsg], by simp [zMsg], by simp [zMsg], fun e => by simp at e, fun e => by simp at e⟩ ?_
  have := h.ok.pushVoted h.inv.gh (to := m.fr.toNat) (by omega) (by omega) hs (by omega) hn
  simp only [absM]
  rw [if_neg (by omega), if_pos trivial, et]
  exact this
theorem St.ballot (h : St g nd K n x) {m : Msg} (hm : MOk g m) (hto : m.to = K) (hk3 : m.kind = 3) (hT : m.term = n.term) (hs : g.sent m.fr.toNat K (absM m)) : ∃ x', St g nd K (n.ballot m) x' ∧ x'.cur.term = x.cur.term ∧ x'.commit = x.commit ∧ x'.cur.base = x.cur.base := by
  have et : n.term = x.cur.term := h.nr.dr.term
  have hne := hm.ne; have hf := hm.fr
  have hab : absM m = .vote x.cur.term m.last.toNat m.lt := by unfold absM; rw [if_pos hk3, hT, et]
  rw [hab] at hs
  unfold Nd.ballot
  split
  · obtain ⟨o, ho⟩ := h.refuse hm.fr (by omega)
    exact ⟨_, ho, rfl, rfl, rfl⟩
  · rename_i hc
    simp only [not_or, Bool.not_eq_false] at hc
    have hn := newer_of h hm.last.1 hc.1
    split
    · rename_i hv
      split
      · obtain ⟨o, ho⟩ := h.refuse hm.fr (by omega)
        exact ⟨_, ho, rfl, rfl, rfl⟩
      · rename_i hw
        simp only [Bool.not_eq_false] at hw
        have h1 := h.vote hv hw
        obtain ⟨_, _, h3⟩ := mark_room hw
        obtain ⟨o, ho⟩ := h1.voteB hm hto hs (by rw [h3]) hn
        exact ⟨_, ho, rfl, rfl, rfl⟩
    · rename_i hv
      obtain ⟨o, ho⟩ := h.voteB hm hto hs (by
        have h2 := hc.2
        simp only [not_and, Classical.not_not] at h2
        exact h2 (by omega)) hn
      exact ⟨_, ho, rfl, rfl, rfl⟩
theorem mt_cases (h : St g nd K n x) (hr : n.role = 3) {v : Int} (hv : 0 ≤ v ∧ v < 3) : n.mt v = x.mt v.toNat ∧ x.mt v.toNat ≤ x.cur.F.length := by
  obtain ⟨⟨a0, a1, a2⟩, b0, b1, b2⟩ := h.nr.mt hr
  have hc : v = 0 ∨ v = 1 ∨ v = 2 := by omega
  rcases hc with rfl | rfl | rfl
  · exact ⟨a0, b0⟩
  · exact ⟨a1, b1⟩
  · exact ⟨a2, b2⟩
theorem St.setNx (h : St g nd K n x) {v w : Int} (hv : 0 ≤ v ∧ v < 3) (hw : n.role = 3 → 1 ≤ w ∧ w ≤ x.cur.F.length + 1) : St g nd K (n.setNx v w) x := by
  refine ⟨h.inv, h.ok, h.gi, h.k3, ?_⟩
  have hc : v = 0 ∨ v = 1 ∨ v = 2 := by omega
  rcases hc with rfl | rfl | rfl
  · exact { h.nr with nx := fun e => ⟨hw e, (h.nr.nx e).2⟩, tape := h.nr.tape.keep rfl rfl rfl rfl }
  · exact { h.nr with nx := fun e => ⟨(h.nr.nx e).1, hw e, (h.nr.nx e).2.2⟩, tape := h.nr.tape.keep rfl rfl rfl rfl }
  · exact { h.nr with nx := fun e => ⟨(h.nr.nx e).1, (h.nr.nx e).2.1, hw e⟩, tape := h.nr.tape.keep rfl rfl rfl rfl }
theorem upd_self (f : Nat → Nat) (v : Nat) : Raft.upd f v (f v) = f := by funext j; unfold Raft.upd; split <;> simp_all
theorem St.setMt (h : St g nd K n x) {v : Int} {w : Nat} (hv : 0 ≤ v ∧ v < 3) (hw : w ≤ x.cur.F.length) (hok : Raft.NdOk tmI g K { x with mt := Raft.upd x.mt v.toNat w }) : St g nd K (n.setMt v w) { x with mt := Raft.upd x.mt v.toNat w } := by
  refine ⟨h.inv, hok, h.gi, h.k3, ?_⟩
  have hc : v = 0 ∨ v = 1 ∨ v = 2 := by omega
  rcases hc with rfl | rfl | rfl
  · exact { h.nr with mt := fun e => let ⟨⟨a0, a1, a2⟩, b0, b1, b2⟩ := h.nr.mt e; ⟨⟨rfl, a1, a2⟩, hw, b1, b2⟩, tape := h.nr.tape.keep rfl rfl rfl rfl }
  · exact { h.nr with mt := fun e => let ⟨⟨a0, a1, a2⟩, b0, b1, b2⟩ := h.nr.mt e; ⟨⟨a0, rfl, a2⟩, b0, hw, b2⟩, tape := h.nr.tape.keep rfl rfl rfl rfl }
  · exact { h.nr with mt := fun e => let ⟨⟨a0, a1, a2⟩, b0, b1, b2⟩ := h.nr.mt e; ⟨⟨a0, a1, rfl⟩, b0, b1, hw⟩, tape := h.nr.tape.keep rfl rfl rfl rfl }
theorem agreeGo_some {n : Nd} : ∀ {k : Nat} {p : Int}, agreeGo n k = some p → n.okPlace p = true ∧ n.commit < p ∧ p ≤ n.commit + k
  | 0, p, h => by cases h
  | k + 1, p, h => by
    unfold agreeGo at h
    split at h
    · rename_i hk
      cases h
      exact ⟨hk, by omega, by omega⟩
    · obtain ⟨a, b, c⟩ := agreeGo_some h
      exact ⟨a, b, by omega⟩
theorem St.agreed (h : St g nd K n x) (hr : x.role = 3) : ∃ p, x.commit ≤ p ∧ St g nd K n.agreed.1 { x with commit := p } := by
  unfold Nd.agreed
  split
  · rename_i p hp
    obtain ⟨h1, h2, h3⟩ := agreeGo_some hp
    have hcm := h.nr.commit
    have hlp := h.lr.lastP n rfl
    have hr3 : n.role = 3 := by have := h.nr.role; omega
    obtain ⟨q, hq⟩ : ∃ q : Nat, (q : Int) = p := ⟨p.toNat, by omega⟩
    subst hq
    have hqF : q ≤ x.cur.F.length := by omega
    have hqc : x.commit < q := by omega
    unfold Nd.okPlace at h1
    simp only [Bool.and_eq_true, decide_eq_true_eq, beq_iff_eq] at h1
    obtain ⟨k1, k2⟩ := h1
    rw [h.lr.termAt (p := q) (by have := h.base_le; omega) hqF] at k2
    obtain ⟨y, hy, e⟩ := lastT_take (F := x.cur.F) (p := q) (by omega) hqF
    have et : n.term = x.cur.term := h.nr.dr.term
    have hme := h.nr.me; have hk := h.k3
    obtain ⟨⟨a0, a1, a2⟩, _⟩ := h.nr.mt hr3
    have hv : ∃ v, q ≤ x.mt v := by
      unfold Nd.count at k1
      by_cases c0 : n.me ≠ 0 ∧ (q : Int) ≤ n.m0
      · exact ⟨0, by omega⟩
      · by_cases c1 : n.me ≠ 1 ∧ (q : Int) ≤ n.m1
        · exact ⟨1, by omega⟩
        · by_cases c2 : n.me ≠ 2 ∧ (q : Int) ≤ n.m2
          · exact ⟨2, by omega⟩
          · rw [if_neg c0, if_neg c1, if_neg c2] at k1; omega
    obtain ⟨v, hv⟩ := hv
    have hc := h.ok.agreed h.k3 hr (v := v) (p := q) (by omega) hv hy (by show y.term = _; omega)
    have := h.done hqF (fun _ => hc)
    rw [Nat.max_eq_right (by omega)] at this
    exact ⟨q, by omega, this⟩
  · exact ⟨x.commit, Nat.le_refl _, h⟩
theorem St.ack (h : St g nd K n x) {m : Msg} (hm : MOk g m) (hto : m.to = K) (hk6 : m.kind = 6) (hT : m.term = n.term) (hs : g.sent m.fr.toNat K (absM m)) (hr : n.role = 3) : ∃ x', St g nd K (n.ack m).1 x' ∧ x'.cur = x.cur ∧ x.commit ≤ x'.commit := by
  have et : n.term = x.cur.term := h.nr.dr.term
  have hr3 : x.role = 3 := by have := h.nr.role; omega
  have hne := hm.ne; have hf := hm.fr; have hl0 := hm.last
  obtain ⟨l1, l2, l3⟩ := h.ok.leads hr3
  obtain ⟨q1, q2⟩ := hm.ack hk6
  rw [hT, et, l2] at q2
  obtain ⟨c1, c2⟩ := mt_cases h hr hf
  unfold Nd.ack
  split
  · rename_i hy
    have hab : absM m = .ack x.cur.term m.last.toNat := by unfold absM; rw [if_neg (by omega), if_neg (by omega), if_neg (by omega), if_neg (by omega), if_pos ⟨hk6, hy⟩, hT, et]
    rw [hab] at hs
    have hfr3 : m.fr.toNat < 3 := by omega
    obtain ⟨_, _, ⟨_, hsc, _⟩, _⟩ := (h.inv.nd m.fr.toNat hfr3).mw _ _ (.inl hs)
    obtain ⟨w, hw⟩ : ∃ w : Nat, (w : Int) = maxI (n.mt m.fr) m.last ∧ w ≤ x.cur.F.length ∧ Raft.NdOk tmI g K { x with mt := Raft.upd x.mt m.fr.toNat w } := by
      have e : maxI (n.mt m.fr) m.last = if n.mt m.fr ≤ m.last then m.last else n.mt m.fr := by unfold maxI; split <;> split <;> omega
      rw [e]
      split
      · refine ⟨m.last.toNat, by omega, by omega, ?_⟩
        exact h.ok.ackCame hfr3 (by omega) hs hsc (Nat.le_refl _)
      · refine ⟨x.mt m.fr.toNat, c1.symm, c2, ?_⟩
        rw [upd_self]; exact h.ok
    obtain ⟨hw1, hw2, hw3⟩ := hw
    rw [← hw1]
    have h1 := h.setMt hf hw2 hw3
    have hnx : 1 ≤ n.nx m.fr ∧ n.nx m.fr ≤ x.cur.F.length + 1 := by
      have := h.nr.nx hr
      unfold Nd.nx
      split
      · exact this.1
      · split
        · exact this.2.1
        · exact this.2.2
    have h2 := h1.setNx (v := m.fr) (w := maxI (n.nx m.fr) (m.last + 1)) hf (fun _ => by unfold maxI; simp only; split <;> omega)
    obtain ⟨p, hp, h3⟩ := h2.agreed hr3
    exact ⟨_, h3, rfl, hp⟩
  · have h2 := h.setNx (v := m.fr) (w := maxI (n.mt m.fr) m.last + 1) hf (fun _ => by unfold maxI; split <;> omega)
    exact ⟨_, h2, rfl, Nat.le_refl _⟩
theorem St.crash (h : St g nd K n x) {keep : Int} (hk : 0 ≤ keep) : ∃ x', St g nd K (n.crash keep) x' := by
  have htk := h.nr.tok
  have hcr : n.ts ≤ (crashN n.td n.ts keep : Nat) := by
    have := htk.s0; have := htk.s1
    unfold crashN
    split <;> omega
  obtain ⟨rs, a1, a2, a3, a4, a5, d, dk, b1, b2, b3⟩ := h.nr.tape.crash h.nr.dr hcr
  have hme := h.nr.me
  have hm : d.mach = machF (dk.F.take dk.base) := b3.mach
  refine ⟨⟨[], dk, 0, fun _ => false, fun _ => 0, dk.base, fun _ _ => False⟩, h.inv, h.ok.crash b2 (by omega), h.gi, h.k3, ?_⟩
  unfold Nd.crash
  rw [a2]
  simp only
  rw [b1, a4]
  have hsi := b3.sidx; have hb := b3.log.base
  exact { me := hme, dr := ⟨b3.term, b3.fr, b3.log, b3.chk, b3.sidx, b3.sterm, b3.mach, b3.t0, b3.f0⟩, role := rfl, v0 := rfl, v1 := rfl, v2 := rfl, mt := fun e => by simp [freshN] at e, nx := fun e => by simp [freshN] at e
          commit := by show d.sidx = (dk.base : Int); omega
          mach := hm
          out := fun m hm => by simp [freshN] at hm
          outl := by simp [freshN]
          tdl := by show (tapeB rs).length ≤ _; have := h.nr.tdl; omega
          tape := ⟨rs, rs.length, a1, Nat.le_refl _, rfl, by rw [List.take_length], b1, fun j p q => by omega⟩ }
theorem sync_le {f : Nat → Raft.M Item → Prop} : Raft.GhLe tmI g { g with sent := fun a b m => g.sent a b m ∨ (a = K ∧ f b m) } := ⟨fun _ _ _ h => .inl h, fun _ _ h => h, fun _ _ => ⟨[], by simp, by simp⟩⟩
theorem St.sync (h : St g nd K n x) : ∃ g' nd' x', Ev K g g' nd nd' ∧ g'.led = g.led ∧ St g' nd' K { n with ts := n.td.length, out := [] } x' ∧ x'.cur = x.cur ∧ x'.commit = x.commit ∧ ∀ m ∈ n.out, MOk g' m ∧ g'.sent m.fr.toNat m.to.toNat (absM m) := by
  have hi := Raft.Inv.sync h.upd K
  rw [Raft.upd_same] at hi
  have hok := hi.nd K h.k3
  rw [Raft.upd_same] at hok
  have hle := sync_le (g := g) (K := K) (f := x.out)
  refine ⟨_, _, _, ⟨hle, upd_oth⟩, rfl, ⟨hi, hok, ⟨h.gi.itm, h.gi.len⟩, h.k3, ?_⟩, rfl, rfl, fun m hm => ?_⟩
  · exact { me := h.nr.me, dr := h.nr.dr, role := h.nr.role, v0 := h.nr.v0, v1 := h.nr.v1, v2 := h.nr.v2, mt := h.nr.mt, nx := h.nr.nx, commit := h.nr.commit, mach := h.nr.mach, out := fun m hm => by simp at hm, outl := by simp, tdl := h.nr.tdl, tape := h.nr.tape.sync rfl rfl rfl }
  · obtain ⟨a, b, c⟩ := h.nr.out m hm
    exact ⟨a.le hle, .inr ⟨by rw [b]; simp, c⟩⟩
end
end Go.Proofs.YtkkleopmambcnaaGreatDoor
set_option linter.unusedVariables false
set_option linter.unusedSimpArgs false
set_option maxRecDepth 100000
set_option maxHeartbeats 8000000
namespace Go.Proofs.YtkkleopmambcnaaGreatDoor
open Go Go.RowKit Go.Proofs.AE
theorem firstNew_cons (x : List Item) (at' : Nat) (q : Item) (l : List Item) (i : Nat) : firstNew x at' (q :: l) i = if (∃ z, x[at']? = some z ∧ z.term = q.term) then firstNew x (at' + 1) l (i + 1) else some i := by
  conv => lhs; unfold firstNew
  cases hz : x[at']? with
  | none => simp
  | some z => simp
theorem firstNew_no : ∀ (its : List Item) {x : List Item} {at' i : Nat}, firstNew x at' its i = none → ∀ (j : Nat) (y : Item), its[j]? = some y → ∃ z, x[at' + j]? = some z ∧ z.term = y.term
  | [], x, at', i, _, j, y, hy => by simp at hy
  | q :: l, x, at', i, h, j, y, hy => by
    rw [firstNew_cons] at h
    split at h
    · rename_i hc
      cases j with
      | zero =>
        simp only [List.getElem?_cons_zero, Option.some.injEq] at hy
        subst hy
        exact hc
      | succ j =>
        rw [List.getElem?_cons_succ] at hy
        obtain ⟨z, h1, h2⟩ := firstNew_no l h j y hy
        exact ⟨z, by rw [show at' + (j + 1) = at' + 1 + j by omega]; exact h1, h2⟩
    · cases h
theorem firstNew_some : ∀ (its : List Item) {x : List Item} {at' i k : Nat}, firstNew x at' its i = some k → i ≤ k ∧ k < i + its.length ∧ (∀ (j : Nat) (y : Item), j < k - i → its[j]? = some y → ∃ z, x[at' + j]? = some z ∧ z.term = y.term) ∧ ∀ y z, its[k - i]? = some y → x[at' + (k - i)]? = some z → z.term ≠ y.term
  | [], x, at', i, k, h => by cases h
  | q :: l, x, at', i, k, h => by
    rw [firstNew_cons] at h
    split at h
    · rename_i hc
      obtain ⟨h1, h2, h3, h4⟩ := firstNew_some l h
      have e : k - i = (k - (i + 1)) + 1 := by omega
      refine ⟨by omega, by rw [List.length_cons]; omega, fun j y hj hy => ?_, fun y z hy hz => ?_⟩
      · cases j with
        | zero =>
          simp only [List.getElem?_cons_zero, Option.some.injEq] at hy
          subst hy
          exact hc
        | succ j =>
          rw [List.getElem?_cons_succ] at hy
          obtain ⟨z, h5, h6⟩ := h3 j y (by omega) hy
          exact ⟨z, by rw [show at' + (j + 1) = at' + 1 + j by omega]; exact h5, h6⟩
      · rw [e, List.getElem?_cons_succ] at hy
        rw [e, show at' + (k - (i + 1) + 1) = at' + 1 + (k - (i + 1)) by omega] at hz
        exact h4 y z hy hz
    · rename_i hc
      cases h
      refine ⟨Nat.le_refl _, by simp, fun j y hj => by omega, fun y z hy hz e => hc ?_⟩
      rw [Nat.sub_self] at hy hz
      simp only [List.getElem?_cons_zero, Option.some.injEq] at hy
      subst hy
      exact ⟨z, hz, e⟩
section
variable {g : RGh} {nd : Nat → RNd} {K : Nat} {n : Nd} {x : RNd} {fr : Nat}
theorem St.inL (h : St g nd K n x) (hT : g.led x.cur.term = some fr) : x.cur.F.take x.commit <+: g.LL x.cur.term := h.inv.cmtIn h.ok.com3 (Int.le_refl _) (by rw [hT]; simp)
theorem St.takeL (h : St g nd K n x) (hT : g.led x.cur.term = some fr) {p : Nat} (hp : p ≤ x.commit) : x.cur.F.take p = (g.LL x.cur.term).take p ∧ p ≤ (g.LL x.cur.term).length := by
  have h1 := h.inL hT
  have hc := h.ok.com
  have hl := h1.length_le
  rw [List.length_take, Nat.min_eq_left hc] at hl
  have e := List.prefix_iff_eq_take.1 h1
  rw [List.length_take, Nat.min_eq_left hc] at e
  have e2 := congrArg (List.take p) e
  rw [List.take_take, List.take_take, Nat.min_eq_left hp] at e2
  exact ⟨e2, by omega⟩
theorem St.valL (h : St g nd K n x) (hT : g.led x.cur.term = some fr) : Raft.Valid tmI g (g.LL x.cur.term) x.cur.term := h.inv.gh.valid _ (by rw [hT]; simp)
theorem St.upto (h : St g nd K n x) (hT : g.led x.cur.term = some fr) {p k : Nat} (h0 : x.cur.F.take p = (g.LL x.cur.term).take p) (hk : 0 < k → ∃ a b, x.cur.F[p + k - 1]? = some a ∧ (g.LL x.cur.term)[p + k - 1]? = some b ∧ a.term = b.term) : x.cur.F.take (p + k) = (g.LL x.cur.term).take (p + k) := by
  by_cases e : k = 0
  · subst e; exact h0
  · obtain ⟨a, b, h1, h2, h3⟩ := hk (by omega)
    have := Raft.same_up h.ok.cur.valid (h.valL hT) h1 h2 h3
    rwa [show p + k - 1 + 1 = p + k by omega] at this
theorem pre_take {F L : List Item} {q : Nat} (h : F.take q = L.take q) : L.take q <+: F := by rw [← h]; exact List.take_prefix _ _
theorem St.line (h : St g nd K n x) (hT : g.led x.cur.term = some fr) (hne : fr ≠ K) (hr : x.role ≠ 2) {p : Nat} (h1 : x.cur.base ≤ p) (h2 : p ≤ x.cur.F.length) (h3 : x.cur.F.take p = (g.LL x.cur.term).take p) (h4 : ∀ a b, x.cur.F[p]? = some a → (g.LL x.cur.term)[p]? = some b → a.term ≠ b.term)
    {y : Item} (hy : (g.LL x.cur.term)[p]? = some y) (hck : checkLog n.log.base n.log.bt (n.log.items.take (p - x.cur.base) ++ [y]) = 0) (hrc : checkRc (lineRec ((p : Int) + 1) y) = 0) (hroom : n.td.length + (frameB (lineRec ((p : Int) + 1) y)).length ≤ 400000) :
    St g nd K { n with td := n.td ++ frameB (lineRec ((p : Int) + 1) y), log := ⟨n.log.base, n.log.bt, n.log.items.take (p - x.cur.base) ++ [y]⟩ } ⟨x.old ++ [x.cur], { x.cur with F := (g.LL x.cur.term).take (p + 1) }, x.role, x.votes, x.mt, x.commit, x.out⟩ := by
  have hpl := (List.getElem?_eq_some_iff.1 hy).1
  obtain ⟨hcm, hok⟩ := h.ok.adopt h.inv (by rw [hT]; simp) (by rw [hT]; simpa using hne) (j := p + 1) (by omega) (by omega) (by rw [Nat.add_sub_cancel]; exact h4) hr
  have hLp : (g.LL x.cur.term).take (p + 1) = x.cur.F.take p ++ [y] := by rw [List.take_add_one, hy, ← h3]; rfl
  have htk : ∀ q, q ≤ p → ((g.LL x.cur.term).take (p + 1)).take q = x.cur.F.take q := fun q hq => by
    rw [hLp, List.take_append_of_le_length (by rw [List.length_take]; omega), List.take_take, Nat.min_eq_left hq]
  have hlr : LR ⟨n.log.base, n.log.bt, n.log.items.take (p - x.cur.base) ++ [y]⟩ { x.cur with F := (g.LL x.cur.term).take (p + 1) } := by
    refine ⟨h.lr.base, ?_, ?_, ?_⟩
    · show n.log.bt = Raft.lastT tmI (((g.LL x.cur.term).take (p + 1)).take x.cur.base)
      rw [htk _ h1]; exact h.lr.bt
    · show n.log.items.take _ ++ [y] = ((g.LL x.cur.term).take (p + 1)).drop x.cur.base
      rw [hLp, List.drop_append_of_le_length (by rw [List.length_take]; omega), h.lr.items, List.drop_take]
    · show x.cur.base ≤ ((g.LL x.cur.term).take (p + 1)).length
      rw [List.length_take]; omega
  have hb := h.lr.base
  have hlen := h.lr.len
  have hst := line_step (d := n.dsk) (place := (p : Int) + 1) (y := y) (by show n.log.base < _; omega) (by show _ ≤ n.log.base + n.log.items.length + 1; omega) hrc (by
    show checkLog n.log.base n.log.bt (n.log.items.take ((p : Int) + 1 - n.log.base - 1).toNat ++ [y]) = 0
    rw [show ((p : Int) + 1 - n.log.base - 1).toNat = p - x.cur.base by omega]; exact hck)
  have hst2 : (n.dsk.log.items.take ((p : Int) + 1 - n.dsk.log.base - 1).toNat) = n.log.items.take (p - x.cur.base) := by
    show n.log.items.take ((p : Int) + 1 - n.log.base - 1).toNat = _
    rw [show ((p : Int) + 1 - n.log.base - 1).toNat = p - x.cur.base by omega]
  rw [hst2] at hst
  have hno : ¬ n.role = 3 := fun e => by
    obtain ⟨l1, _⟩ := h.ok.leads (by have := h.nr.role; omega)
    rw [hT] at l1; exact hne (Option.some.inj l1)
  have hsm : n.smach = machF (x.cur.F.take x.cur.base) := h.nr.dr.mach
  have hsi : n.sidx = n.log.base := h.nr.dr.sidx
  have hstm : n.sterm = n.log.bt := h.nr.dr.sterm
  refine ⟨h.inv, hok, h.gi, h.k3, ?_⟩
  exact { me := h.nr.me
          dr := ⟨h.nr.dr.term, h.nr.dr.fr, hlr, hck, hsi, hstm, by show n.smach = machF (((g.LL x.cur.term).take (p + 1)).take x.cur.base); rw [htk _ h1]; exact hsm, h.nr.dr.t0, h.nr.dr.f0⟩
          role := h.nr.role, v0 := h.nr.v0, v1 := h.nr.v1, v2 := h.nr.v2
          mt := fun e => absurd e hno, nx := fun e => absurd e hno
          commit := h.nr.commit
          mach := by show n.mach = machF (((g.LL x.cur.term).take (p + 1)).take x.commit); rw [htk _ (by omega)]; exact h.nr.mach
          out := h.nr.out, outl := h.nr.outl
          tdl := by show (n.td ++ _).length ≤ _; rw [List.length_append]; exact hroom
          tape := h.nr.tape.write h.nr.dr hrc hst rfl rfl rfl rfl }
def linesL : Int → List Item → List Rcd
  | _, [] => []
  | i, x :: l => lineRec i x :: linesL (i + 1) l
theorem writeAll_eq : ∀ (l : List Item) {n n' : Nd} {i : Int}, writeAll n i l = some n' → n' = { n with td := n.td ++ tapeB (linesL i l) } ∧ (∀ r ∈ linesL i l, checkRc r = 0) ∧ (l ≠ [] → n.td.length + (tapeB (linesL i l)).length ≤ 400000)
  | [], n, n', i, h => by cases h; exact ⟨by simp [linesL, tapeB], by simp [linesL], fun e => absurd rfl e⟩
  | x :: l, n, n', i, h => by
    unfold writeAll at h
    split at h
    · rename_i hw
      obtain ⟨h1, h2, h3⟩ := frame_room hw
      rw [h3] at h
      obtain ⟨a, b, c⟩ := writeAll_eq l h
      refine ⟨?_, fun r hr => ?_, fun _ => ?_⟩
      · rw [a]; simp [linesL, tape_cons]
      · rcases List.mem_cons.1 hr with rfl | hr
        · exact h1
        · exact b r hr
      · simp only [linesL, tape_cons, List.length_append]
        by_cases e : l = []
        · subst e; simp [linesL, tapeB]; exact h2
        · have := c e; simp only [List.length_append] at this; omega
    · cases h
theorem checkLog_pre {b t : Int} {x y : List Item} (h : checkLog b t (x ++ y) = 0) : checkLog b t x = 0 := by
  obtain ⟨⟨h1, h2, h3, h4, h5, h6⟩, h7⟩ := checkLog_iff.1 h
  rw [List.length_append] at h5 h6
  rw [chk_app] at h7
  simp only [Bool.and_eq_true] at h7
  exact checkLog_iff.2 ⟨⟨h1, h2, h3, h4, by omega, by push_cast at h6; omega⟩, h7.1⟩
theorem St.lines : ∀ (l : List Item) {p : Nat} {n : Nd} {x : RNd}, St g nd K n x → g.led x.cur.term = some fr → fr ≠ K → x.role ≠ 2 → x.cur.base ≤ p → p ≤ x.cur.F.length → x.cur.F.take p = (g.LL x.cur.term).take p → (∀ a b, x.cur.F[p]? = some a → (g.LL x.cur.term)[p]? = some b → a.term ≠ b.term) →
    l = ((g.LL x.cur.term).drop p).take l.length → checkLog n.log.base n.log.bt (n.log.items.take (p - x.cur.base) ++ l) = 0 → (∀ r ∈ linesL ((p : Int) + 1) l, checkRc r = 0) → n.td.length + (tapeB (linesL ((p : Int) + 1) l)).length ≤ 400000 → l ≠ [] →
    ∃ old, St g nd K { n with td := n.td ++ tapeB (linesL ((p : Int) + 1) l), log := ⟨n.log.base, n.log.bt, n.log.items.take (p - x.cur.base) ++ l⟩ } ⟨old, { x.cur with F := (g.LL x.cur.term).take (p + l.length) }, x.role, x.votes, x.mt, x.commit, x.out⟩
  | [], p, n, x, _, _, _, _, _, _, _, _, _, _, _, _, h => absurd rfl h
  | y :: l, p, n, x, h, hT, hne, hr, h1, h2, h3, h4, hl, hck, hrc, hroom, _ => by
    have hy : (g.LL x.cur.term)[p]? = some y := by
      have := congrArg (fun z => z[0]?) hl
      simp only [List.getElem?_cons_zero] at this
      rw [List.getElem?_take, if_pos (by simp), List.getElem?_drop] at this
      exact this.symm
    have hpl := (List.getElem?_eq_some_iff.1 hy).1
    simp only [linesL, tape_cons, List.length_append] at hroom hrc
    have hck1 : checkLog n.log.base n.log.bt (n.log.items.take (p - x.cur.base) ++ [y]) = 0 := by
      have : n.log.items.take (p - x.cur.base) ++ y :: l = (n.log.items.take (p - x.cur.base) ++ [y]) ++ l := by simp
      rw [this] at hck
      exact checkLog_pre hck
    have hs := h.line hT hne hr h1 h2 h3 h4 hy hck1 (hrc _ (List.mem_cons_self ..)) (by omega)
    have hb := h.lr.base
    have hlen := h.lr.len
    have htl : (n.log.items.take (p - x.cur.base)).length = p - x.cur.base := by rw [List.length_take]; omega
    by_cases e : l = []
    · subst e
      refine ⟨x.old ++ [x.cur], ?_⟩
      have e1 : tapeB (linesL ((p : Int) + 1) [y]) = frameB (lineRec ((p : Int) + 1) y) := by simp [linesL, tapeB]
      rw [e1]
      exact hs
    · have hFl : ((g.LL x.cur.term).take (p + 1)).length = p + 1 := by rw [List.length_take]; omega
      have hdrop : (g.LL x.cur.term).drop p = y :: (g.LL x.cur.term).drop (p + 1) := by
        rw [List.drop_eq_getElem_cons hpl]
        congr 1
        rw [List.getElem?_eq_getElem hpl] at hy
        exact Option.some.inj hy
      have htk : (n.log.items.take (p - x.cur.base) ++ [y]).take (p + 1 - x.cur.base) = n.log.items.take (p - x.cur.base) ++ [y] := List.take_of_length_le (by simp [htl]; omega)
      obtain ⟨old, ho⟩ := St.lines l (p := p + 1) hs hT hne hr (by show x.cur.base ≤ p + 1; omega) (by show p + 1 ≤ ((g.LL x.cur.term).take (p + 1)).length; omega) (by show ((g.LL x.cur.term).take (p + 1)).take (p + 1) = _; rw [List.take_take, Nat.min_self])
        (fun a b ha _ => by
          have : ((g.LL x.cur.term).take (p + 1))[p + 1]? = none := List.getElem?_eq_none (by omega)
          rw [show ((g.LL x.cur.term).take (p + 1))[p + 1]? = some a from ha] at this; cases this)
        (by
          have := hl
          rw [hdrop, List.length_cons, List.take_succ_cons] at this
          exact (List.cons.inj this).2)
        (by
          show checkLog n.log.base n.log.bt ((n.log.items.take (p - x.cur.base) ++ [y]).take (p + 1 - x.cur.base) ++ l) = 0
          rw [htk, List.append_assoc]; exact hck)
        (fun r hr => hrc r (List.mem_cons_of_mem _ (by push_cast at hr; exact hr)))
        (by
          show (n.td ++ _).length + _ ≤ _
          rw [List.length_append]; push_cast; omega) e
      refine ⟨old, ?_⟩
      have e2 : ({ n with td := n.td ++ tapeB (linesL ((p : Int) + 1) (y :: l)), log := ⟨n.log.base, n.log.bt, n.log.items.take (p - x.cur.base) ++ y :: l⟩ } : Nd) = { n with td := n.td ++ frameB (lineRec ((p : Int) + 1) y) ++ tapeB (linesL (((p + 1 : Nat) : Int) + 1) l), log := ⟨n.log.base, n.log.bt, (n.log.items.take (p - x.cur.base) ++ [y]).take (p + 1 - x.cur.base) ++ l⟩ } := by
        rw [htk]
        simp [linesL, tape_cons]
      rw [e2, List.length_cons, show p + (l.length + 1) = p + 1 + l.length by omega]
      exact ho
theorem go_spec (h : St g nd K n x) (hT : g.led x.cur.term = some fr) {p e : Nat} (h1 : x.cur.base ≤ p) (h2 : p ≤ x.cur.F.length) (h3 : x.cur.F.take p = (g.LL x.cur.term).take p) (h4 : p ≤ e) (h5 : e ≤ (g.LL x.cur.term).length) {place : Int} (hp : place = p) {g' : Lg} {fresh : Int}
    (hm : matchGoD n.log place (p - x.cur.base) (((g.LL x.cur.term).drop p).take (e - p)) = (g', true, fresh, 0)) :
    (fresh = 0 ∧ e ≤ x.cur.F.length ∧ x.cur.F.take e = (g.LL x.cur.term).take e) ∨
    ∃ q : Nat, fresh = (q : Int) + 1 ∧ x.cur.base ≤ q ∧ q < e ∧ q ≤ x.cur.F.length ∧ x.cur.F.take q = (g.LL x.cur.term).take q ∧ (∀ a b, x.cur.F[q]? = some a → (g.LL x.cur.term)[q]? = some b → a.term ≠ b.term) ∧ g' = ⟨n.log.base, n.log.bt, n.log.items.take (q - x.cur.base) ++ ((g.LL x.cur.term).drop q).take (e - q)⟩ ∧ g'.check = 0 := by
  have hget : ∀ j y, (((g.LL x.cur.term).drop p).take (e - p))[j]? = some y → (g.LL x.cur.term)[p + j]? = some y := fun j y hy => by
    rw [List.getElem?_take] at hy
    split at hy
    · rwa [List.getElem?_drop] at hy
    · cases hy
  have hat : ∀ j y, j < e - p → (g.LL x.cur.term)[p + j]? = some y → (((g.LL x.cur.term).drop p).take (e - p))[j]? = some y := fun j y hj hy => by
    rw [List.getElem?_take, if_pos hj, List.getElem?_drop]; exact hy
  have hF : ∀ j, n.log.items[p - x.cur.base + j]? = x.cur.F[p + j]? := fun j => by
    rw [h.lr.items, List.getElem?_drop]; congr 1; omega
  have hLg : ∀ j, j < e → ∃ b, (g.LL x.cur.term)[j]? = some b := fun j hj => ⟨_, List.getElem?_eq_getElem (by omega)⟩
  unfold matchGoD at hm
  cases hf : firstNew n.log.items (p - x.cur.base) (((g.LL x.cur.term).drop p).take (e - p)) 0 with
  | none =>
    rw [hf] at hm
    simp only [Prod.mk.injEq] at hm
    refine .inl ⟨hm.2.2.1.symm, ?_⟩
    have hn := firstNew_no _ hf
    have hu : x.cur.F.take (p + (e - p)) = (g.LL x.cur.term).take (p + (e - p)) := by
      refine h.upto hT h3 fun hk => ?_
      obtain ⟨b, hb⟩ := hLg (p + (e - p) - 1) (by omega)
      obtain ⟨z, hz1, hz2⟩ := hn (e - p - 1) b (hat _ _ (by omega) (by rw [show p + (e - p - 1) = p + (e - p) - 1 by omega]; exact hb))
      rw [hF] at hz1
      exact ⟨z, b, by rw [show p + (e - p) - 1 = p + (e - p - 1) by omega]; exact hz1, hb, hz2⟩
    rw [show p + (e - p) = e by omega] at hu
    refine ⟨?_, hu⟩
    have := congrArg List.length hu
    rw [List.length_take, List.length_take] at this
    omega
  | some i =>
    rw [hf] at hm
    simp only at hm
    obtain ⟨f1, f2, f3, f4⟩ := firstNew_some _ hf
    rw [List.length_take, List.length_drop] at f2
    rw [Nat.sub_zero] at f3 f4
    split at hm
    · rename_i hck
      simp only [Prod.mk.injEq] at hm
      obtain ⟨m1, _, m2, _⟩ := hm
      refine .inr ⟨p + i, by omega, by omega, by omega, ?_⟩
      have hu : x.cur.F.take (p + i) = (g.LL x.cur.term).take (p + i) := by
        refine h.upto hT h3 fun hk => ?_
        obtain ⟨b, hb⟩ := hLg (p + i - 1) (by omega)
        obtain ⟨z, hz1, hz2⟩ := f3 (i - 1) b (by omega) (hat _ _ (by omega) (by rw [show p + (i - 1) = p + i - 1 by omega]; exact hb))
        rw [hF] at hz1
        exact ⟨z, b, by rw [show p + i - 1 = p + (i - 1) by omega]; exact hz1, hb, hz2⟩
      have hle : p + i ≤ x.cur.F.length := by
        have := congrArg List.length hu
        rw [List.length_take, List.length_take] at this
        omega
      have hg' : g' = ⟨n.log.base, n.log.bt, n.log.items.take (p + i - x.cur.base) ++ ((g.LL x.cur.term).drop (p + i)).take (e - (p + i))⟩ := by
        rw [← m1, show p - x.cur.base + i = p + i - x.cur.base by omega, List.drop_take, List.drop_drop, show e - p - i = e - (p + i) by omega]
      refine ⟨hle, hu, fun a b ha hb => ?_, hg', ?_⟩
      · exact f4 b a (hat _ _ (by omega) hb) (by rw [hF]; exact ha)
      · rw [hg']
        have e1 : ({ base := n.log.base, bt := n.log.bt, items := n.log.items.take (p + i - x.cur.base) ++ ((g.LL x.cur.term).drop (p + i)).take (e - (p + i)) } : Lg).check = checkLog n.log.base n.log.bt (n.log.items.take (p - x.cur.base + i) ++ (((g.LL x.cur.term).drop p).take (e - p)).drop i) := by
          rw [show p - x.cur.base + i = p + i - x.cur.base by omega, List.drop_take, List.drop_drop, show e - p - i = e - (p + i) by omega]; rfl
        rw [e1]; exact hck
    · simp at hm
theorem match_spec (h : St g nd K n x) (hT : g.led x.cur.term = some fr) {last : Nat} {its : List Item} {lt : Int} (h1 : last + its.length ≤ (g.LL x.cur.term).length) (h2 : its = ((g.LL x.cur.term).drop last).take its.length) (h3 : lt = Raft.lastT tmI ((g.LL x.cur.term).take last)) {g' : Lg} {fresh : Int}
    (hm : matchD n.log last lt its = (g', true, fresh, 0)) :
    (fresh = 0 ∧ last + its.length ≤ x.cur.F.length ∧ x.cur.F.take (last + its.length) = (g.LL x.cur.term).take (last + its.length)) ∨
    ∃ q : Nat, fresh = (q : Int) + 1 ∧ x.cur.base ≤ q ∧ q < last + its.length ∧ q ≤ x.cur.F.length ∧ x.cur.F.take q = (g.LL x.cur.term).take q ∧ (∀ a b, x.cur.F[q]? = some a → (g.LL x.cur.term)[q]? = some b → a.term ≠ b.term) ∧ g' = ⟨n.log.base, n.log.bt, n.log.items.take (q - x.cur.base) ++ ((g.LL x.cur.term).drop q).take (last + its.length - q)⟩ ∧ g'.check = 0 := by
  have hb := h.lr.base
  have hbl := h.base_le
  have hcl := h.ok.com
  obtain ⟨t1, t2⟩ := h.takeL hT hbl
  unfold matchD at hm
  split at hm
  · simp at hm
  · split at hm
    · rename_i hlt
      split at hm
      · simp only [Prod.mk.injEq] at hm
        refine .inl ⟨hm.2.2.1.symm, by omega, ?_⟩
        exact (h.takeL hT (p := last + its.length) (by omega)).1
      · refine go_spec h hT (p := x.cur.base) (Nat.le_refl _) (by omega) t1 (by omega) h1 hb (g' := g') (fresh := fresh) ?_
        rw [Nat.sub_self]
        have e : its.drop (n.log.base - last).toNat = ((g.LL x.cur.term).drop x.cur.base).take (last + its.length - x.cur.base) := by
          rw [h2, List.drop_take, List.drop_drop, ← h2]
          congr 1
          · omega
          · congr 1; omega
        rw [e] at hm
        exact hm
    · rename_i hge
      split at hm
      · simp at hm
      · rename_i hc
        simp only [not_or, Classical.not_not] at hc
        obtain ⟨c1, c2⟩ := hc
        have hr := termErr_range c1
        have hlen := h.lr.len
        have hle : last ≤ x.cur.F.length := by omega
        rw [h.lr.termAt (p := last) (by omega) hle] at c2
        have hu : x.cur.F.take last = (g.LL x.cur.term).take last := by
          have := h.upto hT (p := 0) (k := last) (by simp) fun hk => ?_
          · rwa [Nat.zero_add] at this
          · obtain ⟨a, ha, ea⟩ := lastT_take (F := x.cur.F) (p := last) hk hle
            obtain ⟨b, hb', eb⟩ := lastT_take (F := g.LL x.cur.term) (p := last) hk (by omega)
            exact ⟨a, b, by rw [Nat.zero_add]; exact ha, by rw [Nat.zero_add]; exact hb', by rw [← ea, ← eb, c2, h3]⟩
        have e : ((last : Int) - n.log.base).toNat = last - x.cur.base := by omega
        rw [e] at hm
        refine go_spec h hT (p := last) (e := last + its.length) (by omega) hle hu (by omega) h1 rfl (g' := g') (fresh := fresh) ?_
        rw [Nat.add_sub_cancel_left, ← h2]; exact hm
theorem St.pileB (h : St g nd K n x) {m : Msg} (hm : MOk g m) (hto : m.to = K) (hk5 : m.kind = 5) (hT : m.term = n.term) (hs : g.sent m.fr.toNat K (absM m)) (he : m.last.toNat + m.items.length ≤ x.cur.F.length) (hF : x.cur.F.take (m.last.toNat + m.items.length) = (g.LL x.cur.term).take (m.last.toNat + m.items.length)) :
    ∃ x', St g nd K (n.pileB m).1 x' ∧ x'.cur = x.cur ∧ x.commit ≤ x'.commit := by
  have et : n.term = x.cur.term := h.nr.dr.term
  have hne := hm.ne; have hf := hm.fr; have hl0 := hm.last; have hc0 := hm.com; have hk := h.k3; have hme := h.nr.me
  have ht0 : 0 ≤ n.term ∧ n.term ≤ 1048576 := h.nr.dr.t0
  have hab : absM m = .heap x.cur.term m.last.toNat m.lt m.items m.commit.toNat := by unfold absM; rw [if_neg (by omega), if_neg (by omega), if_pos hk5, hT, et]
  rw [hab] at hs
  obtain ⟨_, _, ⟨w1, w2, w3, w4, w5, w6⟩, _⟩ := (h.inv.nd m.fr.toNat (by omega)).mw _ _ (.inl hs)
  have hl2 := h.len200.2
  unfold Nd.pileB
  obtain ⟨o, ho⟩ := h.send (to := m.fr) (m := ackMsg n.term (m.last + m.items.length) true) ⟨by simp only; omega, hf, by simp only; omega, ht0, by simp only [ackMsg]; omega, by simp [ackMsg, zMsg], by simp [ackMsg, zMsg], by simp [ackMsg, zMsg], fun _ => by
      simp only [ackMsg]
      rw [et, w1]
      exact ⟨by simp, by omega⟩, fun e => by simp [ackMsg] at e⟩ (by
    have := h.ok.pushAck h.inv.gh (to := m.fr.toNat) (p := m.last.toNat + m.items.length) (by omega) (by omega) w1 ⟨_, _, _, hs, rfl, Nat.le_refl _⟩ w2 (pre_take hF)
    simp only [absM, ackMsg]
    rw [if_neg (by omega), if_neg (by omega), if_neg (by omega), if_neg (by omega), if_pos (by simp), et, show (m.last + (m.items.length : Int)).toNat = m.last.toNat + m.items.length by omega]
    exact this)
  obtain ⟨p, hp⟩ : ∃ p : Nat, (p : Int) = (if m.last + (m.items.length : Int) < m.commit then m.last + (m.items.length : Int) else m.commit) ∧ p ≤ m.last.toNat + m.items.length ∧ p ≤ m.commit.toNat := by
    split
    · exact ⟨m.last.toNat + m.items.length, by omega, Nat.le_refl _, by omega⟩
    · exact ⟨m.commit.toNat, by omega, by omega, Nat.le_refl _⟩
  obtain ⟨hp1, hp2, hp3⟩ := hp
  rw [← hp1]
  have hc : Raft.Cmt tmI g x.cur.term (x.cur.F.take p) := by
    have e := congrArg (List.take p) hF
    rw [List.take_take, List.take_take, Nat.min_eq_left hp2] at e
    rw [e]
    exact w6.pre (Raft.take_pre hp3)
  exact ⟨_, ho.done (p := p) (by show p ≤ x.cur.F.length; omega) (fun _ => hc), rfl, by show x.commit ≤ max x.commit p; omega⟩
theorem St.pile (h : St g nd K n x) {m : Msg} (hm : MOk g m) (hto : m.to = K) (hk5 : m.kind = 5) (hT : m.term = n.term) (hs : g.sent m.fr.toNat K (absM m)) (hr : x.role ≠ 2) :
    ∃ x', St g nd K (n.pile m).1 x' ∧ x'.cur.term = x.cur.term ∧ x.commit ≤ x'.commit ∧ x'.cur.base = x.cur.base := by
  have et : n.term = x.cur.term := h.nr.dr.term
  have hne := hm.ne; have hf := hm.fr; have hl0 := hm.last; have hc0 := hm.com; have hk := h.k3; have hme := h.nr.me
  have ht0 : 0 ≤ n.term ∧ n.term ≤ 1048576 := h.nr.dr.t0
  have hab : absM m = .heap x.cur.term m.last.toNat m.lt m.items m.commit.toNat := by unfold absM; rw [if_neg (by omega), if_neg (by omega), if_pos hk5, hT, et]
  have hs' := hs
  rw [hab] at hs
  obtain ⟨_, _, ⟨w1, w2, w3, w4, w5, w6⟩, _⟩ := (h.inv.nd m.fr.toNat (by omega)).mw _ _ (.inl hs)
  have hcm := h.nr.commit
  have hl2 := h.len200.2
  have hcl := h.ok.com
  obtain ⟨l, hl⟩ : ∃ l : Nat, m.last = (l : Int) := ⟨m.last.toNat, by omega⟩
  have hlt : m.last.toNat = l := by omega
  rw [hlt] at w2 w3 w4
  obtain ⟨q, hq⟩ : ∃ q, matchD n.log m.last m.lt m.items = q := ⟨_, rfl⟩
  obtain ⟨g', ft, fresh, er⟩ := q
  unfold Nd.pile
  rw [hq]
  simp only
  split
  · exact ⟨x, h, rfl, Nat.le_refl _, rfl⟩
  · rename_i he
    simp only [Classical.not_not] at he
    subst he
    split
    · obtain ⟨o, ho⟩ := h.sendOther (to := m.fr) (m := ackMsg n.term n.commit false) ⟨by simp only; omega, hf, by simp only; omega, ht0, by simp only [ackMsg]; omega, by simp [ackMsg, zMsg], by simp [ackMsg, zMsg], by simp [ackMsg, zMsg], fun _ => by
          simp only [ackMsg]
          rw [et, w1]
          exact ⟨by simp, by have := (h.takeL w1 (p := x.commit) (Nat.le_refl _)).2; omega⟩, fun e => by simp [ackMsg] at e⟩ (by simp [absM, ackMsg])
      exact ⟨_, ho, rfl, Nat.le_refl _, rfl⟩
    · rename_i hft
      simp only [Bool.not_eq_false] at hft
      subst hft
      rw [hl] at hq
      rcases match_spec h w1 w2 w3 w4 hq with ⟨f0, f1, f2⟩ | ⟨p, f0, f1, f2, f3, f4, f5, f6, f7⟩
      · rw [if_neg (by omega)]
        obtain ⟨x', a, b, c⟩ := h.pileB hm hto hk5 hT hs' (by rw [hlt]; exact f1) (by rw [hlt]; exact f2)
        exact ⟨x', a, by rw [b], c, by rw [b]⟩
      · rw [if_pos (by omega)]
        have hb := h.lr.base
        have hlen := h.lr.len
        have htl : (n.log.items.take (p - x.cur.base)).length = p - x.cur.base := by rw [List.length_take]; omega
        have hdr : g'.items.drop (fresh - g'.base - 1).toNat = ((g.LL x.cur.term).drop p).take (l + m.items.length - p) := by
          rw [f6]
          show (n.log.items.take (p - x.cur.base) ++ _).drop (fresh - n.log.base - 1).toNat = _
          rw [List.drop_left' (by rw [htl]; omega)]
        rw [hdr, f0]
        have hll : (((g.LL x.cur.term).drop p).take (l + m.items.length - p)).length = l + m.items.length - p := by rw [List.length_take, List.length_drop]; omega
        split
        · exact ⟨x, h, rfl, Nat.le_refl _, rfl⟩
        · rename_i n' hn'
          have hne0 : ((g.LL x.cur.term).drop p).take (l + m.items.length - p) ≠ [] := fun e => by rw [e] at hll; simp at hll; omega
          obtain ⟨a1, a2, a3⟩ := writeAll_eq _ hn'
          have f7' := f7
          rw [f6] at f7'
          obtain ⟨old, ho⟩ := St.lines _ h w1 (by omega) hr f1 f3 f4 f5 (by rw [hll]) f7' a2 (a3 hne0) hne0
          rw [hll, show p + (l + m.items.length - p) = l + m.items.length by omega] at ho
          have hn2 : ({ n' with log := g' } : Nd) = { n with td := n.td ++ tapeB (linesL ((p : Int) + 1) (((g.LL x.cur.term).drop p).take (l + m.items.length - p))), log := ⟨n.log.base, n.log.bt, n.log.items.take (p - x.cur.base) ++ ((g.LL x.cur.term).drop p).take (l + m.items.length - p)⟩ } := by rw [a1, f6]
          rw [hn2]
          obtain ⟨x', a, b, c⟩ := ho.pileB hm hto hk5 hT hs' (by rw [hlt]; show _ ≤ ((g.LL x.cur.term).take (l + m.items.length)).length; rw [List.length_take]; omega) (by rw [hlt]; show ((g.LL x.cur.term).take (l + m.items.length)).take (l + m.items.length) = _; rw [List.take_take, Nat.min_self])
          exact ⟨x', a, by rw [b], c, by rw [b]⟩
theorem St.shipB (h : St g nd K n x) {m : Msg} (hm : MOk g m) (hto : m.to = K) (hk7 : m.kind = 7) (hT : m.term = n.term) (hs : g.sent m.fr.toNat K (absM m)) (hF : (g.LL x.cur.term).take m.sidx.toNat <+: x.cur.F) : ∃ o, St g nd K (n.shipB m) { x with out := o } := by
  have et : n.term = x.cur.term := h.nr.dr.term
  have hne := hm.ne; have hf := hm.fr; have hl0 := hm.six; have hk := h.k3; have hme := h.nr.me
  have ht0 : 0 ≤ n.term ∧ n.term ≤ 1048576 := h.nr.dr.t0
  have hab : absM m = .ship x.cur.term m.sidx.toNat m.sterm := by unfold absM; rw [if_neg (by omega), if_neg (by omega), if_neg (by omega), if_pos hk7, hT, et]
  rw [hab] at hs
  obtain ⟨_, _, ⟨w1, w2, w3, w4, w5⟩, _⟩ := (h.inv.nd m.fr.toNat (by omega)).mw _ _ (.inl hs)
  have hgl := h.gi.len x.cur.term (by rw [w1]; simp)
  unfold Nd.shipB
  refine h.send ⟨by simp only; omega, hf, by simp only; omega, ht0, by simp only [ackMsg]; omega, by simp [ackMsg, zMsg], by simp [ackMsg, zMsg], by simp [ackMsg, zMsg], fun _ => by
      simp only [ackMsg]
      rw [et, w1]
      exact ⟨by simp, w3⟩, fun e => by simp [ackMsg] at e⟩ ?_
  have := h.ok.pushAck h.inv.gh (to := m.fr.toNat) (p := m.sidx.toNat) (by omega) (by omega) w1 ⟨_, _, _, hs, rfl, Nat.le_refl _⟩ w3 hF
  simp only [absM, ackMsg]
  rw [if_neg (by omega), if_neg (by omega), if_neg (by omega), if_neg (by omega), if_pos (by simp), et]
  exact this
theorem St.ship (h : St g nd K n x) {m : Msg} (hm : MOk g m) (hto : m.to = K) (hk7 : m.kind = 7) (hT : m.term = n.term) (hs : g.sent m.fr.toNat K (absM m)) (hr : x.role ≠ 2) :
    ∃ x', St g nd K (n.ship m) x' ∧ x'.cur.term = x.cur.term ∧ x.commit ≤ x'.commit ∧ x.cur.base ≤ x'.cur.base := by
  have et : n.term = x.cur.term := h.nr.dr.term
  have hne := hm.ne; have hf := hm.fr; have hl0 := hm.six; have hk := h.k3; have hme := h.nr.me
  have hab : absM m = .ship x.cur.term m.sidx.toNat m.sterm := by unfold absM; rw [if_neg (by omega), if_neg (by omega), if_neg (by omega), if_pos hk7, hT, et]
  have hs' := hs
  rw [hab] at hs
  obtain ⟨_, _, ⟨w1, w2, w3, w4, w5⟩, _⟩ := (h.inv.nd m.fr.toNat (by omega)).mw _ _ (.inl hs)
  obtain ⟨_, _, hmm⟩ := hm.ship hk7
  rw [hT, et] at hmm
  have hcm := h.nr.commit
  have hcl := h.ok.com
  have hbl := h.base_le
  have hb := h.lr.base
  have hlen := h.lr.len
  obtain ⟨i, hi⟩ : ∃ i : Nat, m.sidx = (i : Int) := ⟨m.sidx.toNat, by omega⟩
  have hit : m.sidx.toNat = i := by omega
  rw [hit] at w2 w3 w4 w5 hmm
  unfold Nd.ship
  split
  · rename_i hlt
    split
    · exact ⟨x, h, rfl, Nat.le_refl _, Nat.le_refl _⟩
    · rename_i hw
      simp only [Bool.not_eq_false] at hw
      obtain ⟨r1, r2, r3⟩ := frame_room hw
      obtain ⟨b1, b2, b3⟩ := loadRc_iff r1
      rw [r3]
      have hsi : n.sidx = n.log.base := h.nr.dr.sidx
      have hstp := load_step b1 b2 b3 n.dsk
      rw [if_pos (show n.dsk.sidx < m.sidx by show n.sidx < m.sidx; omega)] at hstp
      have hck := restD_ok h.nr.dr.chk b1 b2
      have hno : ¬ n.role = 3 := fun e => by
        obtain ⟨l1, _⟩ := h.ok.leads (by have := h.nr.role; omega)
        rw [w1] at l1; have := Option.some.inj l1; omega
      by_cases hc : termErr n.log.base n.log.items.length m.sidx = 0 ∧ termAt n.log.base n.log.bt n.log.items m.sidx = m.sterm
      · have hre : restD n.log m.sidx m.sterm = ⟨m.sidx, m.sterm, n.log.items.drop (m.sidx - n.log.base).toNat⟩ := if_pos hc
        obtain ⟨c1, c2⟩ := hc
        have hrg := termErr_range c1
        rw [hi] at c2
        have hiF : i ≤ x.cur.F.length := by omega
        rw [h.lr.termAt (p := i) (by omega) hiF] at c2
        obtain ⟨a, ha, ea⟩ := lastT_take (F := x.cur.F) (p := i) w2 hiF
        obtain ⟨b, hbb, eb⟩ := lastT_take (F := g.LL x.cur.term) (p := i) w2 w3
        have hu : x.cur.F.take i = (g.LL x.cur.term).take i := by
          have := h.upto w1 (p := 0) (k := i) (by simp) fun _ => ⟨a, b, by rw [Nat.zero_add]; exact ha, by rw [Nat.zero_add]; exact hbb, by rw [← ea, ← eb, c2, w4]⟩
          rwa [Nat.zero_add] at this
        have hlr : LR ⟨m.sidx, m.sterm, n.log.items.drop (m.sidx - n.log.base).toNat⟩ { x.cur with base := i } := by
          refine ⟨hi, by show m.sterm = Raft.lastT tmI (x.cur.F.take i); rw [c2], ?_, hiF⟩
          show n.log.items.drop _ = x.cur.F.drop i
          rw [h.lr.items, List.drop_drop]
          congr 1; omega
        have hmi : m.mach = machF (x.cur.F.take i) := by rw [hu]; exact hmm
        have hnd := h.ok.load (j := i) hiF (by omega) (by rw [hu]; exact w5)
        have hst : St g nd K (({ n with td := n.td ++ frameB (loadRc m.sidx m.sterm m.mach) } : Nd).loadB (restD n.log m.sidx m.sterm) m) ⟨x.old ++ [x.cur], { x.cur with base := i }, x.role, x.votes, x.mt, i, x.out⟩ := by
          refine ⟨h.inv, hnd, h.gi, h.k3, ?_⟩
          rw [hre]
          have e0 : restD n.dsk.log m.sidx m.sterm = restD n.log m.sidx m.sterm := rfl
          rw [e0, hre] at hck hstp
          exact { me := h.nr.me, dr := ⟨h.nr.dr.term, h.nr.dr.fr, hlr, hck, rfl, rfl, hmi, h.nr.dr.t0, h.nr.dr.f0⟩
                  role := h.nr.role, v0 := h.nr.v0, v1 := h.nr.v1, v2 := h.nr.v2, mt := fun e => absurd e hno, nx := fun e => absurd e hno
                  commit := hi, mach := hmi, out := h.nr.out, outl := h.nr.outl
                  tdl := by show (n.td ++ _).length ≤ _; rw [List.length_append]; exact r2
                  tape := h.nr.tape.write h.nr.dr r1 hstp rfl rfl rfl rfl }
        obtain ⟨o, ho⟩ := hst.shipB hm hto hk7 hT hs' (by rw [hit]; exact pre_take hu)
        exact ⟨_, ho, rfl, by show x.commit ≤ i; omega, by show x.cur.base ≤ i; omega⟩
      · have hre : restD n.log m.sidx m.sterm = ⟨m.sidx, m.sterm, []⟩ := if_neg hc
        have hdf : ∀ a b, x.cur.F[i - 1]? = some a → (g.LL x.cur.term)[i - 1]? = some b → a.term ≠ b.term := by
          intro a b ha hbb e
          apply hc
          have hiF : i ≤ x.cur.F.length := by have := (List.getElem?_eq_some_iff.1 ha).1; omega
          rw [hi]
          refine ⟨h.lr.termErr (p := i) (by omega) hiF, ?_⟩
          rw [h.lr.termAt (p := i) (by omega) hiF]
          obtain ⟨a', ha', ea⟩ := lastT_take (F := x.cur.F) (p := i) w2 hiF
          obtain ⟨b', hb', eb⟩ := lastT_take (F := g.LL x.cur.term) (p := i) w2 w3
          rw [ha] at ha'; rw [hbb] at hb'
          cases ha'; cases hb'
          rw [ea, e, w4, eb]
        have hnd := h.ok.loadNew h.inv (by rw [w1]; simp) (by rw [w1]; intro e; have := Option.some.inj e; omega) (j := i) w2 w3 hdf hr w5
        have hFl : ((g.LL x.cur.term).take i).length = i := by rw [List.length_take]; omega
        have hlr : LR ⟨m.sidx, m.sterm, []⟩ { x.cur with F := (g.LL x.cur.term).take i, base := i } := by
          refine ⟨hi, ?_, ?_, ?_⟩
          · show m.sterm = Raft.lastT tmI (((g.LL x.cur.term).take i).take i)
            rw [List.take_take, Nat.min_self, w4]
          · show [] = ((g.LL x.cur.term).take i).drop i
            rw [List.drop_eq_nil_of_le (by omega)]
          · show i ≤ ((g.LL x.cur.term).take i).length; omega
        have hmi : m.mach = machF (((g.LL x.cur.term).take i).take i) := by rw [List.take_take, Nat.min_self]; exact hmm
        have hst : St g nd K (({ n with td := n.td ++ frameB (loadRc m.sidx m.sterm m.mach) } : Nd).loadB (restD n.log m.sidx m.sterm) m) ⟨x.old ++ [x.cur], { x.cur with F := (g.LL x.cur.term).take i, base := i }, x.role, x.votes, x.mt, i, x.out⟩ := by
          refine ⟨h.inv, hnd, h.gi, h.k3, ?_⟩
          rw [hre]
          have e0 : restD n.dsk.log m.sidx m.sterm = restD n.log m.sidx m.sterm := rfl
          rw [e0, hre] at hck hstp
          exact { me := h.nr.me, dr := ⟨h.nr.dr.term, h.nr.dr.fr, hlr, hck, rfl, rfl, hmi, h.nr.dr.t0, h.nr.dr.f0⟩
                  role := h.nr.role, v0 := h.nr.v0, v1 := h.nr.v1, v2 := h.nr.v2, mt := fun e => absurd e hno, nx := fun e => absurd e hno
                  commit := hi, mach := hmi, out := h.nr.out, outl := h.nr.outl
                  tdl := by show (n.td ++ _).length ≤ _; rw [List.length_append]; exact r2
                  tape := h.nr.tape.write h.nr.dr r1 hstp rfl rfl rfl rfl }
        obtain ⟨o, ho⟩ := hst.shipB hm hto hk7 hT hs' (by rw [hit]; exact List.prefix_refl _)
        exact ⟨_, ho, rfl, by show x.commit ≤ i; omega, by show x.cur.base ≤ i; omega⟩
  · rename_i hge
    obtain ⟨t1, t2⟩ := h.takeL w1 (p := i) (by omega)
    obtain ⟨o, ho⟩ := h.shipB hm hto hk7 hT hs' (by rw [hit]; exact pre_take t1)
    exact ⟨_, ho, rfl, Nat.le_refl _, Nat.le_refl _⟩
end
end Go.Proofs.YtkkleopmambcnaaGreatDoor
set_option linter.unusedVariables false
set_option linter.unusedSimpArgs false
set_option maxRecDepth 100000
set_option maxHeartbeats 8000000
namespace Go.Proofs.YtkkleopmambcnaaGreatDoor
open Go Go.RowKit Go.Proofs.AE
structure Kee (n n' : Nd) : Prop where
  me : n'.me = n.me
  up : n'.up = n.up
  clock : n'.clock = n.clock
  waits : n'.waits = n.waits
  commit : n'.commit = n.commit
theorem Kee.refl (n : Nd) : Kee n n := ⟨rfl, rfl, rfl, rfl, rfl⟩
theorem Kee.trans {a b c : Nd} (h : Kee a b) (k : Kee b c) : Kee a c := ⟨k.me.trans h.me, k.up.trans h.up, k.clock.trans h.clock, k.waits.trans h.waits, k.commit.trans h.commit⟩
theorem kee_send (n : Nd) (to : Int) (m : Msg) : Kee n (n.send to m) := by unfold Nd.send; split <;> exact ⟨rfl, rfl, rfl, rfl, rfl⟩
theorem kee_tellTo (n : Nd) (m : Msg) (to : Int) : Kee n (n.tellTo m to) := by unfold Nd.tellTo; split; exact kee_send ..; exact Kee.refl _
theorem kee_tell (n : Nd) (m : Msg) : Kee n (n.tell m) := ((kee_tellTo ..).trans (kee_tellTo ..)).trans (kee_tellTo ..)
theorem kee_refuse (n : Nd) (to : Int) : Kee n (n.refuse to) := kee_send ..
theorem kee_write (n : Nd) (r : Rcd) : Kee n (n.write r).1 := by unfold Nd.write; split <;> exact ⟨rfl, rfl, rfl, rfl, rfl⟩
theorem kee_mark (n : Nd) (t v : Int) : Kee n (n.mark t v).1 := by
  unfold Nd.mark
  split
  · exact (kee_write n _).trans ⟨rfl, rfl, rfl, rfl, rfl⟩
  · exact Kee.refl _
theorem kee_put (n : Nd) (x : Item) : Kee n (n.put x).1 := by
  unfold Nd.put
  split
  · exact Kee.refl _
  · exact (kee_write n _).trans ⟨rfl, rfl, rfl, rfl, rfl⟩
theorem kee_heapTo (n : Nd) (to : Int) : Kee n (n.heapTo to) := by unfold Nd.heapTo; split; exact Kee.refl _; exact kee_send ..
theorem kee_heap (n : Nd) : Kee n n.heap := ((kee_heapTo ..).trans (kee_heapTo ..)).trans (kee_heapTo ..)
theorem kee_leadP (n : Nd) : Kee n n.leadP := ((show Kee n n.leadN from ⟨rfl, rfl, rfl, rfl, rfl⟩).trans (kee_put ..)).trans (kee_heap _)
theorem kee_stand (n : Nd) : Kee n n.stand := by
  unfold Nd.stand
  split
  · exact Kee.refl _
  · unfold Nd.standB
    exact ((kee_mark n _ _).trans (show Kee _ ({ (n.mark (n.term + 1) n.me).1 with role := 2 }.alone) from ⟨rfl, rfl, rfl, rfl, rfl⟩)).trans (kee_tell ..)
theorem kee_standAct (n : Nd) : Kee n n.standAct := by
  unfold Nd.standAct
  split
  · exact (show Kee n ({ n with role := 1 }.alone) from ⟨rfl, rfl, rfl, rfl, rfl⟩).trans (kee_tell ..)
  · exact Kee.refl _
theorem kee_setV (n : Nd) (i : Int) : Kee n (n.setV i) := by unfold Nd.setV; (repeat' split); all_goals exact ⟨rfl, rfl, rfl, rfl, rfl⟩
theorem kee_setNx (n : Nd) (i v : Int) : Kee n (n.setNx i v) := by unfold Nd.setNx; (repeat' split); all_goals exact ⟨rfl, rfl, rfl, rfl, rfl⟩
theorem kee_setMt (n : Nd) (i v : Int) : Kee n (n.setMt i v) := by unfold Nd.setMt; (repeat' split); all_goals exact ⟨rfl, rfl, rfl, rfl, rfl⟩
theorem kee_pre (n : Nd) (m : Msg) : Kee n (n.pre m) := by unfold Nd.pre; split; exact kee_send ..; exact kee_refuse ..
theorem kee_ballot (n : Nd) (m : Msg) : Kee n (n.ballot m) := by
  unfold Nd.ballot
  split
  · exact kee_refuse ..
  · split
    · split
      · exact kee_refuse ..
      · exact (kee_mark n _ _).trans (kee_send ..)
    · exact kee_send ..
theorem kee_writeAll : ∀ (l : List Item) {n n' : Nd} {i : Int}, writeAll n i l = some n' → Kee n n' := fun l n n' i h => by
  rw [(writeAll_eq l h).1]; exact ⟨rfl, rfl, rfl, rfl, rfl⟩
def pend (n : Nd) : Nat := (n.waits.filter fun w => decide (n.commit < w.place)).length
def CkOk (n : Nd) : Prop := 0 ≤ n.clock ∧ n.clock ≤ 1073741824
structure Cnt (n n' : Nd) (T : List Tol) (d : Nat) : Prop where
  ck : CkOk n → CkOk n'
  w : n'.waits.length ≤ n.waits.length + d
  p : T.length + pend n' ≤ pend n + d
  r : ∀ t ∈ T, t.rep.list.length ≤ 1000
theorem filt_mono {α : Type} {p q : α → Bool} (h : ∀ x, p x = true → q x = true) : ∀ l : List α, (l.filter p).length ≤ (l.filter q).length
  | [] => by simp
  | x :: l => by
    have ih := filt_mono h l
    rw [List.filter_cons, List.filter_cons]
    cases hp : p x with
    | true => rw [if_pos rfl, if_pos (h x hp)]; simpa using ih
    | false => rw [if_neg (by simp)]; split <;> simp <;> omega
theorem filt_two {α : Type} {p q r : α → Bool} (h1 : ∀ x, p x = true → r x = true) (h2 : ∀ x, q x = true → r x = true) (h3 : ∀ x, p x = true → q x = false) : ∀ l : List α, (l.filter p).length + (l.filter q).length ≤ (l.filter r).length
  | [] => by simp
  | x :: l => by
    have ih := filt_two h1 h2 h3 l
    rw [List.filter_cons, List.filter_cons, List.filter_cons]
    cases hp : p x with
    | true => rw [if_pos rfl, h3 x hp, if_neg (by simp), if_pos (h1 x hp)]; simp; omega
    | false =>
      rw [if_neg (by simp)]
      cases hq : q x with
      | true => rw [if_pos rfl, if_pos (h2 x hq)]; simp; omega
      | false => rw [if_neg (by simp)]; split <;> simp <;> omega
theorem Cnt.of {n n' : Nd} (h1 : n'.waits = n.waits) (h2 : n.commit ≤ n'.commit) (h3 : CkOk n → CkOk n') : Cnt n n' [] 0 := by
  refine ⟨h3, by rw [h1]; omega, ?_, by simp⟩
  unfold pend
  rw [h1]
  have := filt_mono (p := fun w : Wt => decide (n'.commit < w.place)) (q := fun w => decide (n.commit < w.place)) (fun w hw => by simp at hw ⊢; omega) n.waits
  simpa using this
theorem Kee.cnt {n n' : Nd} (h : Kee n n') : Cnt n n' [] 0 := Cnt.of h.waits (by rw [h.commit]; omega) (fun k => by unfold CkOk; rw [h.clock]; exact k)
theorem Cnt.nil {n n' : Nd} (h : n'.waits = []) (h3 : CkOk n → CkOk n') : Cnt n n' [] 0 := ⟨h3, by rw [h]; simp, by unfold pend; rw [h]; simp, by simp⟩
theorem Cnt.trans {a b c : Nd} {T T' : List Tol} {d e : Nat} (h : Cnt a b T d) (k : Cnt b c T' e) : Cnt a c (T ++ T') (d + e) := ⟨fun x => k.ck (h.ck x), by have := h.w; have := k.w; omega, by have := h.p; have := k.p; rw [List.length_append]; omega, fun t ht => (List.mem_append.1 ht).elim (h.r t) (k.r t)⟩
theorem Cnt.tr0 {a b c : Nd} {T : List Tol} (h : Cnt a b [] 0) (k : Cnt b c T 0) : Cnt a c T 0 := h.trans k
theorem Cnt.up {a b : Nd} {T : List Tol} {d e : Nat} (h : Cnt a b T d) (k : d ≤ e) : Cnt a b T e := ⟨h.ck, by have := h.w; omega, by have := h.p; omega, h.r⟩
theorem doM_list (m : Mach) (t : Int) (c : Cal) : (DoM m t c).2.1.list.length ≤ 1000 := by
  by_cases h : checkM m ≠ 0 ∨ (t < 0 ∨ 1073741824 < t) ∨ checkCl c ≠ 0
  · have : (DoM m t c).2.1 = toldR 0 := by
      unfold DoM
      split
      · rfl
      · split
        · rfl
        · split
          · rfl
          · rename_i h1 h2 h3
            rcases h with h | h | h
            · exact absurd h h1
            · exact absurd h h2
            · exact absurd h h3
    rw [this]; unfold toldR; simp
  · simp only [not_or, Classical.not_not] at h
    have := (do_ok (checkM_iff.1 h.1) (by omega : 0 ≤ t) (by omega) h.2.2).2.2.2
    have := this.len
    omega
theorem cnt_step (n : Nd) : Cnt n n.doStep.1 n.doStep.2 0 := by
  have key : ∀ (t : Int) (r : Rep) (m : Mach), r.list.length ≤ 1000 → Cnt n { n with commit := n.commit + 1, mach := m } (waitTold n (n.commit + 1) t r) 0 := by
    intro t r m hr
    refine ⟨fun x => x, Nat.le_refl _, ?_, fun q hq => by
      unfold waitTold at hq
      obtain ⟨w, _, rfl⟩ := List.mem_map.1 hq
      exact hr⟩
    unfold waitTold pend
    rw [List.length_map]
    exact filt_two (p := fun w : Wt => w.place == n.commit + 1 && w.term == t) (q := fun w => decide (n.commit + 1 < w.place)) (r := fun w => decide (n.commit < w.place)) (fun w hw => by simp at hw ⊢; omega) (fun w hw => by simp at hw ⊢; omega) (fun w hw => by simp at hw ⊢; omega) n.waits
  unfold Nd.doStep
  split
  · exact (Kee.refl n).cnt
  · split
    · exact key _ _ n.mach (by simp)
    · exact key _ _ _ (doM_list _ _ _)
theorem cnt_doGo : ∀ (k : Nat) (n : Nd), Cnt n (doGo k n).1 (doGo k n).2 0
  | 0, n => (Kee.refl n).cnt
  | k + 1, n => (cnt_step n).trans (cnt_doGo k _)
theorem cnt_done (n : Nd) (p : Int) : Cnt n (n.done p).1 (n.done p).2 0 := cnt_doGo _ _
theorem cnt_follow (n : Nd) : Cnt n n.follow [] 0 := Cnt.nil rfl fun x => x
theorem cnt_hear (n : Nd) : Cnt n n.hear [] 0 := by unfold Nd.hear; split; exact cnt_follow n; exact (Kee.refl n).cnt
theorem cnt_agreed (n : Nd) : Cnt n n.agreed.1 n.agreed.2 0 := by unfold Nd.agreed; split; exact cnt_done ..; exact (Kee.refl n).cnt
theorem cnt_pileB (n : Nd) (m : Msg) : Cnt n (n.pileB m).1 (n.pileB m).2 0 := (kee_send n _ _).cnt.tr0 (cnt_done ..)
theorem cnt_pile (n : Nd) (m : Msg) : Cnt n (n.pile m).1 (n.pile m).2 0 := by
  unfold Nd.pile
  split
  · exact (Kee.refl n).cnt
  · split
    · exact (kee_send n _ _).cnt
    · split
      · split
        · exact (Kee.refl n).cnt
        · rename_i n' hn
          have h1 := kee_writeAll _ hn
          have h2 : Kee n { n' with log := (matchD n.log m.last m.lt m.items).1 } := h1.trans ⟨rfl, rfl, rfl, rfl, rfl⟩
          exact h2.cnt.tr0 (cnt_pileB ..)
      · exact cnt_pileB ..
theorem cnt_ship (n : Nd) (m : Msg) : Cnt n (n.ship m) [] 0 := by
  unfold Nd.ship
  split
  · rename_i hlt
    split
    · exact (Kee.refl n).cnt
    · have h1 := kee_write n (loadRc m.sidx m.sterm m.mach)
      refine Cnt.tr0 (b := (n.write (loadRc m.sidx m.sterm m.mach)).1.loadB (restD n.log m.sidx m.sterm) m) (Cnt.of h1.waits (by show n.commit ≤ m.sidx; omega) (fun k => by unfold CkOk; rw [show ((n.write (loadRc m.sidx m.sterm m.mach)).1.loadB (restD n.log m.sidx m.sterm) m).clock = n.clock from h1.clock]; exact k)) (kee_send ..).cnt
  · exact (kee_send ..).cnt
theorem cnt_ack (n : Nd) (m : Msg) : Cnt n (n.ack m).1 (n.ack m).2 0 := by
  unfold Nd.ack
  split
  · exact ((kee_setMt n _ _).trans (kee_setNx ..)).cnt.tr0 (cnt_agreed _)
  · exact (kee_setNx ..).cnt
theorem cnt_come1 (n : Nd) (m : Msg) : Cnt n (n.come1 m).1 (n.come1 m).2.1 0 := by
  unfold Nd.come1
  split
  · exact (kee_pre ..).cnt
  · split
    · split
      · split
        · exact ((kee_setV n _).trans (kee_stand _)).cnt
        · exact (kee_setV ..).cnt
      · exact (Kee.refl n).cnt
    · split
      · simp only
        split
        · exact (kee_refuse ..).cnt
        · exact (Kee.refl n).cnt
      · split
        · exact (kee_ballot ..).cnt
        · split
          · split
            · split
              · exact ((kee_setV n _).trans (kee_leadP _)).cnt
              · exact (kee_setV ..).cnt
            · exact (Kee.refl n).cnt
          · split
            · exact (cnt_hear n).tr0 (cnt_pile ..)
            · split
              · exact (cnt_hear n).tr0 (cnt_ship ..)
              · split
                · split
                  · exact cnt_ack ..
                  · exact (Kee.refl n).cnt
                · exact (Kee.refl n).cnt
theorem cnt_come (n : Nd) (m : Msg) : Cnt n (n.come m).1 (n.come m).2.1 0 := by
  unfold Nd.come
  split
  · exact (Kee.refl n).cnt
  · split
    · split
      · exact (Kee.refl n).cnt
      · exact ((kee_mark n _ _).cnt.tr0 (cnt_follow _)).tr0 (cnt_come1 ..)
    · exact cnt_come1 ..
theorem kee_trim (n : Nd) : Kee n n.trim := by
  unfold Nd.trim
  split
  · exact Kee.refl _
  · split
    · exact Kee.refl _
    · exact (kee_write n _).trans ⟨rfl, rfl, rfl, rfl, rfl⟩
theorem cnt_ask (n : Nd) (q : Cal) : Cnt n (n.ask q).1 (n.ask q).2 1 := by
  have one : ∀ (n' : Nd) (e : Int), Kee n n' → Cnt n n' [tolE n q e] 1 := fun n' e h => ⟨h.cnt.ck, by have := h.cnt.w; omega, by have := h.cnt.p; simp at this ⊢; omega, fun t ht => by rw [List.mem_singleton] at ht; subst ht; simp [tolE, failR]⟩
  unfold Nd.ask
  split
  · exact one _ _ (Kee.refl n)
  · split
    · exact one _ _ (Kee.refl n)
    · split
      · exact one _ _ (kee_put ..)
      · have h := (kee_put n (callItem n.term n.time q)).cnt
        have hw := h.w; have hp := h.p; have hck := h.ck
        generalize (n.put (callItem n.term n.time q)).1 = n1 at *
        refine ⟨hck, by show (n1.waits ++ _).length ≤ _; simp; omega, ?_, by simp⟩
        unfold pend Nd.waitB at *
        simp only [List.filter_append, List.length_append, List.length_nil] at hp ⊢
        have : ([(⟨n1.lastP, n1.term, q⟩ : Wt)].filter fun w => decide (n1.commit < w.place)).length ≤ 1 := List.length_filter_le _ _
        omega
end Go.Proofs.YtkkleopmambcnaaGreatDoor
