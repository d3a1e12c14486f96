/- Texts joined: J14 J15 A7 A9 G2 Yw Yp. -/
import Derived.Test.YtpdcfljbabpakaaPk2
/- That Do leaves a value that may be, or nothing; and what the keep's helpers answer. -/
set_option linter.unusedVariables false
set_option linter.unusedSimpArgs false
set_option maxRecDepth 100000
set_option maxHeartbeats 8000000
namespace Go.Proofs.Ytpdcfljbabpakaa
open Go Go.RowKit Go.Proofs.AE
variable {G : Nat → AV}
theorem DoEnd_vk {v : Val} {q : Val × Rep} (hv : Vk v) (hq : q.2.code = 0 → OkB q.1) : (DoEnd v q).2.2 = 0 ∧ Vk (DoEnd v q).1 := by
  unfold DoEnd
  by_cases h : q.2.code ≠ 0
  · rw [if_pos h]; exact ⟨rfl, hv⟩
  · rw [if_neg h]
    have h0 : q.2.code = 0 := Classical.not_not.1 h
    by_cases h2 : 3 ≤ q.1.kind ∧ q.1.els = 0
    · rw [if_pos h2]; exact ⟨rfl, .inr rfl⟩
    · rw [if_neg h2]; exact ⟨rfl, .inl ((hq h0).ok h2)⟩
theorem kindOf_zero {k : Int} (h1 : 1 ≤ k) (h2 : k ≤ 16) (h : k ≠ 1) : kindOfC k ≠ 0 := by
  unfold kindOfC
  repeat' split
  all_goals omega
theorem DoV_vk {v : Val} {c : Cmd} (h : Vk v) (hc : checkC c = 0) (hk : c.kind ≤ 18) : (DoV v c).2.2 = 0 ∧ Vk (DoV v c).1 := by
  have hk1 := checkC_kind hc
  rcases h with h | h
  · have hv := checkV_iff.2 h
    by_cases hm : (kindOfC c.kind ≠ 0 ∧ kindOfC c.kind ≠ v.kind) ∨ (17 ≤ c.kind ∧ v.kind < 3)
    · rw [DoV_type hv hc hk hm]; exact ⟨rfl, .inl h⟩
    · rw [DoV_go hv hc hk hm]
      refine DoEnd_vk (.inl h) fun h0 => ?_
      by_cases h17 : 17 ≤ c.kind
      · have hk2 : c.kind = 17 ∨ c.kind = 18 := by omega
        rcases hk2 with e | e <;> (unfold doV; simp [e]; exact h.b)
      · refine doV_ok h.b hc (by omega) ?_ h0
        by_cases e : c.kind = 1
        · exact .inl e
        · have := kindOf_zero hk1 (by omega) e
          refine .inr ?_
          simp only [not_or, not_and, Classical.not_not] at hm
          exact hm.1 this
  · subst h
    rw [DoV_zero hc hk]
    cases hmk : makesC c.kind with
    | false => exact ⟨rfl, .inr rfl⟩
    | true =>
      simp only [if_true]
      have hk2 : c.kind ≤ 14 := by
        unfold makesC at hmk
        simp at hmk
        omega
      refine DoEnd_vk (.inr rfl) fun h0 => ?_
      by_cases e : c.kind = 1
      · have hd : doV ⟨kindOfC c.kind, ⟨#[]⟩, 0, [], [], []⟩ c = doV ⟨1, ⟨#[]⟩, 0, [], [], []⟩ c := by unfold doV; rw [if_pos e, if_pos e]
        rw [hd] at h0 ⊢
        exact doV_ok (fresh_b (by omega) (by omega)) hc (by omega) (.inl e) h0
      · have hne := kindOf_zero hk1 (by omega) e
        have hr : 1 ≤ kindOfC c.kind ∧ kindOfC c.kind ≤ 6 := by
          unfold kindOfC at hne ⊢
          repeat' split
          all_goals simp_all
        exact doV_ok (fresh_b hr.1 hr.2) hc (by omega) (.inr rfl) h0
/-! ### the keep's helpers -/
structure Raw where
  kind : Int
  key : Int
  field : Int
  n : Int
  text : ByteArray
def Raw.row (r : Raw) : List V := [.lit (.int .i64 r.kind), .lit (.int .i64 r.key), .lit (.int .i64 r.field), .lit (.int .i64 r.n), .lit (.string r.text)]
structure Raw.Ok (r : Raw) : Prop where
  kind : i64 r.kind
  key : i64 r.key
  field : i64 r.field
  n : i64 r.n
def cmdK (k : Int) (r : Raw) : Cmd :=
  ⟨k, if k = 22 then ⟨#[]⟩ else someS r.key, if k = 4 ∨ k = 5 ∨ k = 6 then someS r.field else ⟨#[]⟩,
   if k = 1 ∨ k = 4 ∨ k = 7 ∨ k = 8 ∨ k = 11 ∨ k = 12 ∨ k = 13 ∨ k = 14 ∨ k = 15 ∨ k = 16 then cmdText r.n r.text else ⟨#[]⟩,
   if k = 3 then r.n.tmod 1073741824 else if k = 20 then pk r.n 60 else if k = 14 then pk r.n 12 - 6 else 0⟩
def cmdR (r : Raw) : Cmd := cmdK (1 + pk r.kind 22) r
theorem cmdR_ok {r : Raw} (h : r.Ok) : checkC (cmdR r) = 0 := cmd_ok r.kind r.key r.field r.n r.text h.n _ _ _ _ _ rfl
theorem cmdR_kind (r : Raw) : 1 ≤ (cmdR r).kind ∧ (cmdR r).kind ≤ 22 := by
  have := pk_range (n := r.kind) (m := 22) (by omega)
  show 1 ≤ 1 + pk r.kind 22 ∧ 1 + pk r.kind 22 ≤ 22
  omega
theorem commandR_c (r : Raw) (h : r.Ok) : PCall Try.prog G 42 [.agg [iC r.kind, iC r.key, iC r.field, iC r.n, sC r.text]] (.agg (cmdR r).c) := command_c r.kind r.key r.field r.n r.text h.kind h.key h.field h.n
def makerK (kind : Int) : Int := if pk kind 6 = 0 then 1 else if pk kind 6 = 1 then 3 else if pk kind 6 = 2 then 4 else if pk kind 6 = 3 then 7 else if pk kind 6 = 4 then 11 else 14
def makerR (kind : Int) (r : Raw) : Raw := { r with kind := makerK kind - 1 }
def maker (kind : Int) (r : Raw) : Cmd := cmdR (makerR kind r)
theorem makerK_mem (kind : Int) : makerK kind = 1 ∨ makerK kind = 3 ∨ makerK kind = 4 ∨ makerK kind = 7 ∨ makerK kind = 11 ∨ makerK kind = 14 := by
  unfold makerK
  repeat' split
  all_goals omega
theorem pk_small {k m : Int} (h0 : 0 ≤ k) (h1 : k < m) : pk k m = k := by
  unfold pk
  rw [if_neg (by omega), Int.tmod_eq_emod_of_nonneg h0, Int.emod_eq_of_lt h0 h1]
theorem makerR_ok {kind : Int} {r : Raw} (h : r.Ok) : (makerR kind r).Ok := by
  have := makerK_mem kind
  refine ⟨?_, h.key, h.field, h.n⟩
  show i64 (makerK kind - 1)
  unfold i64; omega
theorem maker_eq (kind : Int) (r : Raw) : maker kind r = cmdK (makerK kind) r := by
  unfold maker cmdR
  have := makerK_mem kind
  rw [show pk (makerR kind r).kind 22 = makerK kind - 1 from pk_small (by show 0 ≤ makerK kind - 1; omega) (by show makerK kind - 1 < 22; omega), show 1 + (makerK kind - 1) = makerK kind by omega]
  rfl
def stepV (v : Val) (c : Cmd) : Val := if (DoV v c).2.2 = 0 then (DoV v c).1 else v
def valueV (kind : Int) (l : List Raw) : Val := (l.take 24).foldl (fun v r => stepV v (maker kind r)) zeroV
theorem maker_ok (kind : Int) {r : Raw} (h : r.Ok) : checkC (maker kind r) = 0 ∧ (maker kind r).kind = makerK kind := by
  refine ⟨cmdR_ok (makerR_ok h), ?_⟩
  rw [maker_eq]; rfl
theorem step_vk {v : Val} {c : Cmd} (h : Vk v) (hc : checkC c = 0) (hk : c.kind ≤ 18) : Vk (stepV v c) ∧ stepV v c = (DoV v c).1 := by
  obtain ⟨h1, h2⟩ := DoV_vk h hc hk
  unfold stepV
  rw [if_pos h1]
  exact ⟨h2, rfl⟩
theorem fold_vk (kind : Int) : ∀ (l : List Raw) (v : Val), (∀ r ∈ l, r.Ok) → Vk v → Vk (l.foldl (fun v r => stepV v (maker kind r)) v)
  | [], v, _, h => h
  | r :: l, v, hl, h => by
    have hm := makerK_mem kind
    obtain ⟨m1, m2⟩ := maker_ok kind (hl r (List.mem_cons_self ..))
    exact fold_vk kind l _ (fun x hx => hl x (List.mem_cons_of_mem _ hx)) (step_vk h m1 (by omega)).1
theorem valueV_vk (kind : Int) (l : List Raw) (hl : ∀ r ∈ l, r.Ok) : Vk (valueV kind l) := fold_vk kind _ _ (fun r hr => hl r (List.mem_of_mem_take hr)) (.inr rfl)
end Go.Proofs.Ytpdcfljbabpakaa

/- What the keep's comparisons answer. -/
set_option linter.unusedVariables false
set_option linter.unusedSimpArgs false
set_option maxRecDepth 100000
set_option maxHeartbeats 8000000
namespace Go.Proofs.Ytpdcfljbabpakaa
open Go Go.RowKit Go.Proofs.AE
variable {G : Nat → AV}
instance : DecidableEq Val := fun a b => decidable_of_iff (a.kind = b.kind ∧ a.text = b.text ∧ a.count = b.count ∧ a.pairs = b.pairs ∧ a.items = b.items ∧ a.scores = b.scores) (by
  cases a; cases b; simp)
theorem take_same {α : Type} {a b : List α} {i : Nat} {x y : α} (h : a.take i = b.take i) (ha : a[i]? = some x) (hb : b[i]? = some y) (e : x = y) : a.take (i + 1) = b.take (i + 1) := by
  rw [List.take_add_one, List.take_add_one, h, ha, hb, e]
end Go.Proofs.Ytpdcfljbabpakaa

/- The store layer: its model; what checking and copying a store answer. -/
set_option linter.unusedVariables false
set_option linter.unusedSimpArgs false
set_option maxRecDepth 100000
set_option maxHeartbeats 8000000
namespace Go.Proofs.Ytpdcfljbabpakaa
open Go Go.RowKit Go.Proofs.AE
variable {G : Nat → AV}
structure Ent where
  key : ByteArray
  val : Val
  till : Int
structure Sto where
  now : Int
  ents : List Ent
def Val.v (v : Val) : List V := [.lit (.int .i64 v.kind), .lit (.string v.text), .lit (.int .i64 v.count), .sl (pR v.pairs), .sl (strRows v.items), .sl (sR v.scores)]
def Ent.row (e : Ent) : List V := [.lit (.string e.key), .lit (.int .i64 e.val.kind), .lit (.string e.val.text), .lit (.int .i64 e.val.count), .sl (pR e.val.pairs), .sl (strRows e.val.items), .sl (sR e.val.scores), .lit (.int .i64 e.till)]
def Ent.c (e : Ent) : List C := [sC e.key, iC e.val.kind, sC e.val.text, iC e.val.count, .v (.sl (pR e.val.pairs)), .v (.sl (strRows e.val.items)), .v (.sl (sR e.val.scores)), iC e.till]
abbrev eR (l : List Ent) : List (List V) := l.map Ent.row
def Sto.c (s : Sto) : List C := [iC s.now, .v (.sl (eR s.ents))]
theorem ul_e (l : List Ent) : UL 8 (eR l) := by
  intro r hr
  obtain ⟨y, _, rfl⟩ := List.mem_map.1 hr
  rfl
def Sto.Small (s : Sto) : Prop := s.ents.length ≤ 1000 ∧ ∀ e ∈ s.ents, e.val.Small
/-- One entry, as it stands by itself. -/
def entBad (now : Int) (e : Ent) : Bool := !okField e.key || checkV e.val != 0 || (e.till != 0 && (decide (e.till ≤ now) || decide (1073741824 < e.till)))
def bE (a b : Ent) : Int := cmpB a.key b.key
def checkS (s : Sto) : Int :=
  if s.now < 0 ∨ 1073741824 < s.now ∨ 12 < s.ents.length then 13
  else if s.ents.any (entBad s.now) = true then 13
  else if rising bE s.ents = true then 0 else 13
/-! ### what is done with a key -/
def goneE (now : Int) (e : Ent) : Bool := e.till != 0 && decide (e.till ≤ now)
def findE (l : List Ent) (k : ByteArray) : Nat := plc (fun e => decide (cmpB e.key k < 0)) l
def inE (l : List Ent) (k : ByteArray) : Bool := match l[findE l k]? with | some e => cmpB e.key k == 0 | none => false
def setE (l : List Ent) (c : Cmd) (v : Val) : List Ent :=
  match (if inE l c.key then l[findE l c.key]? else none) with
  | some e => l.set (findE l c.key) ⟨e.key, v, if c.kind = 1 then 0 else e.till⟩
  | none => insAt l (findE l c.key) ⟨c.key, v, 0⟩
def timedE (now : Int) (l : List Ent) (c : Cmd) : List Ent × Rep :=
  match (if inE l c.key then l[findE l c.key]? else none) with
  | none => (l, failR 5)
  | some e =>
    if c.kind = 21 then (l, toldR (if e.till - now < 0 then 0 else e.till - now))
    else if c.n < 1 ∨ 1073741824 - now < c.n then (l, failR 2)
    else (l.set (findE l c.key) ⟨e.key, e.val, now + c.n⟩, toldR 0)
def oldV (l : List Ent) (c : Cmd) : Val := match (if inE l c.key then l[findE l c.key]? else none) with | some e => e.val | none => zeroV
def valE (l : List Ent) (c : Cmd) : List Ent × Rep :=
  if (DoV (oldV l c) c).2.1.code ≠ 0 then (l, (DoV (oldV l c) c).2.1)
  else if (DoV (oldV l c) c).1.kind = 0 ∧ inE l c.key = true then (delAt l (findE l c.key), (DoV (oldV l c) c).2.1)
  else if inE l c.key = false ∧ l.length = 12 then (l, failR 6)
  else if (DoV (oldV l c) c).1.kind ≠ 0 then (setE l c (DoV (oldV l c) c).1, (DoV (oldV l c) c).2.1)
  else (l, (DoV (oldV l c) c).2.1)
def doE (now : Int) (l : List Ent) (c : Cmd) : List Ent × Rep :=
  if c.kind = 22 then (l, ⟨0, ⟨#[]⟩, 0, l.map Ent.key⟩)
  else if c.kind = 19 then (if inE l c.key then (delAt l (findE l c.key), toldR 1) else (l, toldR 0))
  else if c.kind = 20 ∨ c.kind = 21 then timedE now l c
  else valE l c
def zeroS : Sto := ⟨0, []⟩
def maxI (a b : Int) : Int := if b < a then a else b
def ApplyS (s : Sto) (time : Int) (c : Cmd) : Sto × Rep × Int :=
  if checkS s ≠ 0 then (zeroS, toldR 0, checkS s)
  else if time < 0 ∨ 1073741824 < time then (zeroS, toldR 0, 2)
  else if checkC c ≠ 0 then (zeroS, toldR 0, checkC c)
  else (⟨maxI s.now time, (doE (maxI s.now time) (s.ents.filter fun e => !goneE (maxI s.now time) e) c).1⟩, (doE (maxI s.now time) (s.ents.filter fun e => !goneE (maxI s.now time) e) c).2, 0)
/-! ### a store that may be -/
structure OkE (now : Int) (e : Ent) : Prop where
  key : okField e.key = true
  val : OkV e.val
  till : e.till = 0 ∨ now < e.till ∧ e.till ≤ 1073741824
theorem entBad_iff {now : Int} {e : Ent} : entBad now e = false ↔ OkE now e := by
  unfold entBad
  constructor
  · intro h
    simp only [Bool.or_eq_false_iff, Bool.not_eq_false', bne_eq_false_iff_eq, Bool.and_eq_false_iff, decide_eq_false_iff_not] at h
    exact ⟨h.1.1, checkV_iff.1 h.1.2, by rcases h.2 with h | h; exact .inl h; exact .inr (by omega)⟩
  · rintro ⟨h1, h2, h3⟩
    simp only [Bool.or_eq_false_iff, Bool.not_eq_false', bne_eq_false_iff_eq, Bool.and_eq_false_iff, decide_eq_false_iff_not]
    exact ⟨⟨h1, checkV_iff.2 h2⟩, by rcases h3 with h | h; exact .inl h; exact .inr (by omega)⟩
def Rise (l : List Ent) : Prop := l.Pairwise (fun a b => cmpB a.key b.key < 0)
structure OkS (s : Sto) : Prop where
  now : 0 ≤ s.now ∧ s.now ≤ 1073741824
  len : s.ents.length ≤ 12
  all : ∀ e ∈ s.ents, OkE s.now e
  rise : Rise s.ents
theorem bE_tr : ∀ a b c : Ent, bE a b < 0 → bE b c < 0 → bE a c < 0 := fun a b c h1 h2 => cmpB_tr _ _ _ h1 h2
theorem checkS_iff {s : Sto} : checkS s = 0 ↔ OkS s := by
  unfold checkS
  constructor
  · intro h
    split at h
    · cases h
    · rename_i h1
      split at h
      · cases h
      · rename_i h2
        split at h
        · rename_i h3
          refine ⟨by omega, by omega, fun e he => entBad_iff.1 ?_, (rising_iff bE_tr).1 h3⟩
          cases hb : entBad s.now e with
          | false => rfl
          | true => exact absurd (List.any_eq_true.2 ⟨e, he, hb⟩) h2
        · cases h
  · rintro ⟨h1, h2, h3, h4⟩
    rw [if_neg (by omega), if_neg, if_pos ((rising_iff bE_tr).2 h4)]
    intro h
    obtain ⟨e, he, hb⟩ := List.any_eq_true.1 h
    rw [entBad_iff.2 (h3 e he)] at hb; cases hb
theorem OkS.small {s : Sto} (h : OkS s) : s.Small := ⟨by have := h.len; omega, fun e he => (h.all e he).val.small⟩
/-! ### keys -/
def getE (l : List Ent) (k : ByteArray) : Option Ent := l.find? fun e => decide (e.key = k)
theorem getE_none {l : List Ent} {k : ByteArray} : getE l k = none ↔ ∀ e ∈ l, e.key ≠ k := by
  unfold getE
  rw [List.find?_eq_none]
  simp
theorem key_ne {a b : ByteArray} (h : cmpB a b < 0) : a ≠ b := fun e => by
  subst e
  rw [cmpB_self] at h
  omega
theorem getE_append (a b : List Ent) (k : ByteArray) : getE (a ++ b) k = (getE a k).or (getE b k) := List.find?_append
theorem split_E {l : List Ent} {i : Nat} {x : Ent} (h : l[i]? = some x) : l = l.take i ++ x :: l.drop (i + 1) := by
  have hl := (List.getElem?_eq_some_iff.1 h).1
  have hx := (List.getElem?_eq_some_iff.1 h).2
  rw [← hx, ← List.drop_eq_getElem_cons hl, List.take_append_drop]
theorem rise_split {a b : List Ent} {x : Ent} (h : Rise (a ++ x :: b)) : getE a x.key = none ∧ getE b x.key = none := by
  obtain ⟨h1, h2, h3⟩ := List.pairwise_append.1 h
  exact ⟨getE_none.2 fun e he => key_ne (h3 e he _ (List.mem_cons_self ..)), getE_none.2 fun e he => fun e2 => key_ne ((List.pairwise_cons.1 h2).1 e he) e2.symm⟩
theorem getE_at {l : List Ent} (hr : Rise l) {i : Nat} {x : Ent} (hi : l[i]? = some x) : getE l x.key = some x := by
  have hs := split_E hi
  rw [hs] at hr ⊢
  obtain ⟨h1, h2⟩ := rise_split hr
  rw [getE_append, h1]
  simp [getE]
theorem inE_some {l : List Ent} {k : ByteArray} (h : inE l k = true) : ∃ e, l[findE l k]? = some e ∧ e.key = k := by
  unfold inE at h
  cases hx : l[findE l k]? with
  | none => rw [hx] at h; cases h
  | some a => rw [hx] at h; exact ⟨a, rfl, cmpB_eq (by simpa using h)⟩
theorem findE_lt {l : List Ent} {k : ByteArray} : ∀ a ∈ l.take (findE l k), cmpB a.key k < 0 := fun a ha => by
  simpa using take_lt (fun e : Ent => decide (cmpB e.key k < 0)) l a ha
theorem findE_ge {l : List Ent} (hr : Rise l) {k : ByteArray} : ∀ (j : Nat) a, l[j]? = some a → findE l k ≤ j → 0 ≤ cmpB a.key k := fun j a h1 h2 => by
  have := plc_ge (cmp := bE) (fun e : Ent => decide (cmpB e.key k < 0)) bE_tr (fun a b h1 h2 => by
    simp only [decide_eq_true_eq] at h2 ⊢
    exact cmpB_tr _ _ _ h1 h2) l ((rising_iff bE_tr).2 hr) j a h1 h2
  simpa using this
theorem findE_le (l : List Ent) (k : ByteArray) : findE l k ≤ l.length := plc_le _ _
theorem findE_drop {l : List Ent} (hr : Rise l) {k : ByteArray} (h : inE l k = false) : ∀ b ∈ l.drop (findE l k), cmpB k b.key < 0 := by
  intro b hb
  obtain ⟨j, hj, hbj⟩ := mem_drop_get hb
  have hge := findE_ge hr j b hbj hj
  have hne : cmpB b.key k ≠ 0 := by
    intro e
    rcases Nat.lt_or_ge (findE l k) j with hlt | hge'
    · have hlen := lt_of_getElem? hbj
      have ha : l[findE l k]? = some l[findE l k] := List.getElem?_eq_getElem (by omega)
      have h1 := findE_ge hr _ _ ha (Nat.le_refl _)
      have h2 : cmpB l[findE l k].key l[j].key < 0 := List.pairwise_iff_getElem.1 hr _ _ (by omega) hlen hlt
      rw [List.getElem?_eq_getElem hlen] at hbj
      have hb' : l[j] = b := Option.some.inj hbj
      rw [hb'] at h2
      have h3 := cmpB_eq e
      rw [h3] at h2; omega
    · have : j = findE l k := by omega
      subst this
      unfold inE at h
      rw [hbj] at h
      simp at h
      exact h e
  rw [cmpB_anti]; omega
/-- Whether a key is there, and what stands there. -/
theorem inE_get {l : List Ent} (hr : Rise l) (k : ByteArray) : inE l k = (getE l k).isSome ∧ (if inE l k then l[findE l k]? else none) = getE l k := by
  cases h : inE l k with
  | true =>
    obtain ⟨e, h1, h2⟩ := inE_some h
    have := getE_at hr h1
    rw [h2] at this
    rw [this]
    exact ⟨rfl, h1⟩
  | false =>
    have h1 := findE_drop hr h
    have h2 := findE_lt (l := l) (k := k)
    have : getE l k = none := getE_none.2 fun e he => by
      have hm : e ∈ l.take (findE l k) ++ l.drop (findE l k) := by rw [List.take_append_drop]; exact he
      rcases List.mem_append.1 hm with hm | hm
      · exact key_ne (h2 e hm)
      · exact fun e2 => key_ne (h1 e hm) e2.symm
    rw [this]
    exact ⟨rfl, rfl⟩
theorem getE_mem {l : List Ent} {k : ByteArray} {e : Ent} (h : getE l k = some e) : e ∈ l ∧ e.key = k := by
  unfold getE at h
  exact ⟨List.mem_of_find?_eq_some h, by simpa using List.find?_some h⟩
theorem getE_ins {l : List Ent} (hr : Rise l) {x : Ent} (h : inE l x.key = false) : (∀ k, getE (insAt l (findE l x.key) x) k = if k = x.key then some x else getE l k) ∧ Rise (insAt l (findE l x.key) x) := by
  have hl : getE l x.key = none := by have := (inE_get hr x.key).1; rw [h] at this; cases hg : getE l x.key with | none => rfl | some => rw [hg] at this; cases this
  refine ⟨fun k => ?_, ?_⟩
  · have hg : getE l k = (getE (l.take (findE l x.key)) k).or (getE (l.drop (findE l x.key)) k) := by rw [← getE_append, List.take_append_drop]
    unfold insAt
    rw [getE_append]
    by_cases hk : k = x.key
    · subst hk
      have : getE (l.take (findE l x.key)) x.key = none := getE_none.2 fun e he => key_ne (findE_lt e he)
      rw [this]
      simp [getE]
    · have : getE (x :: l.drop (findE l x.key)) k = getE (l.drop (findE l x.key)) k := by
        unfold getE
        rw [List.find?_cons_of_neg]
        simpa using fun e => hk e.symm
      rw [this, if_neg hk, hg]
  · exact pair_ins hr (fun a ha => findE_lt a ha) (fun b hb => findE_drop hr h b hb)
theorem getE_set {l : List Ent} (hr : Rise l) {i : Nat} {x y : Ent} (hi : l[i]? = some x) (hk : y.key = x.key) : (∀ k, getE (l.set i y) k = if k = x.key then some y else getE l k) ∧ Rise (l.set i y) := by
  have hs := split_E hi
  have hlt := (List.getElem?_eq_some_iff.1 hi).1
  have hr' := hr
  rw [hs] at hr'
  obtain ⟨h1, h2⟩ := rise_split hr'
  have hset : l.set i y = l.take i ++ y :: l.drop (i + 1) := by rw [List.set_eq_take_append_cons_drop, if_pos hlt]
  refine ⟨fun k => ?_, ?_⟩
  · have hg : getE l k = (getE (l.take i) k).or (getE (x :: l.drop (i + 1)) k) := by rw [← getE_append, ← hs]
    rw [hset, getE_append, hg]
    by_cases h : k = x.key
    · subst h; rw [h1, if_pos rfl]; simp [getE, hk]
    · rw [if_neg h]
      congr 1
      unfold getE
      rw [List.find?_cons_of_neg, List.find?_cons_of_neg]
      · simpa using fun e => h e.symm
      · rw [hk]; simpa using fun e => h e.symm
  · rw [hset]
    obtain ⟨a1, a2, a3⟩ := List.pairwise_append.1 hr'
    obtain ⟨b1, b2⟩ := List.pairwise_cons.1 a2
    refine List.pairwise_append.2 ⟨a1, List.pairwise_cons.2 ⟨fun e he => by rw [hk]; exact b1 e he, b2⟩, fun e he f hf => ?_⟩
    rcases List.mem_cons.1 hf with rfl | hf
    · rw [hk]; exact a3 e he x (List.mem_cons_self ..)
    · exact a3 e he f (List.mem_cons_of_mem _ hf)
theorem getE_del {l : List Ent} (hr : Rise l) {i : Nat} {x : Ent} (hi : l[i]? = some x) : (∀ k, getE (delAt l i) k = if k = x.key then none else getE l k) ∧ Rise (delAt l i) := by
  have hs := split_E hi
  have hr' := hr
  rw [hs] at hr'
  obtain ⟨h1, h2⟩ := rise_split hr'
  refine ⟨fun k => ?_, hr.sublist (del_sub l i)⟩
  have hg : getE l k = (getE (l.take i) k).or (getE (x :: l.drop (i + 1)) k) := by rw [← getE_append, ← hs]
  unfold delAt
  rw [getE_append, hg]
  by_cases h : k = x.key
  · subst h; rw [h1, h2, if_pos rfl]; rfl
  · rw [if_neg h]
    congr 1
    unfold getE
    rw [List.find?_cons_of_neg]
    simpa using fun e => h e.symm
theorem vk_there {v : Val} (h : Vk v) (hk : v.kind ≠ 0) : OkV v := by
  rcases h with h | h
  · exact h
  · rw [h] at hk; exact absurd rfl hk
theorem checkC_key {c : Cmd} (hc : checkC c = 0) (hk : c.kind ≠ 22) : okField c.key = true := by
  cases hk' : okField c.key with
  | true => rfl
  | false =>
    exfalso
    have h22 : (c.kind != 22) = true := by simpa using hk
    unfold checkC checkCommand at hc
    rw [hk', h22] at hc
    repeat' split at hc
    all_goals first | (cases hc; done) | (simp at *; done)
theorem mem_getE {l : List Ent} (hr : Rise l) {e : Ent} (h : e ∈ l) : getE l e.key = some e := by
  obtain ⟨i, hi, rfl⟩ := List.getElem_of_mem h
  exact getE_at hr (List.getElem?_eq_getElem hi)
theorem insAt_len {α : Type} (l : List α) (i : Nat) (x : α) : (insAt l i x).length = l.length + 1 := insAt_length l i x
theorem delE_len {α : Type} {l : List α} {i : Nat} (h : i < l.length) : (delAt l i).length + 1 = l.length := by
  unfold delAt
  simp only [List.length_append, List.length_take, List.length_drop]; omega
/-- What a command's value becomes, at its key. -/
def putE (l : List Ent) (c : Cmd) (v : Val) : Ent := ⟨c.key, v, match getE l c.key with | some e => if c.kind = 1 then 0 else e.till | none => 0⟩
theorem setE_spec {l : List Ent} (hr : Rise l) (c : Cmd) (v : Val) :
    (∀ k, getE (setE l c v) k = if k = c.key then some (putE l c v) else getE l k) ∧ Rise (setE l c v) ∧ (setE l c v).length = if (getE l c.key).isSome = true then l.length else l.length + 1 := by
  obtain ⟨h1, h2⟩ := inE_get hr c.key
  unfold setE putE
  cases h : inE l c.key with
  | true =>
    obtain ⟨e, h3, h4⟩ := inE_some h
    have hg := getE_at hr h3
    rw [h4] at hg
    rw [if_pos rfl, h3, hg]
    simp only
    obtain ⟨g1, g2⟩ := getE_set hr (y := ⟨e.key, v, if c.kind = 1 then 0 else e.till⟩) h3 rfl
    refine ⟨fun k => ?_, g2, by simp⟩
    rw [g1, h4]
  | false =>
    rw [h] at h1
    have hg : getE l c.key = none := by cases hg : getE l c.key with | none => rfl | some => rw [hg] at h1; cases h1
    rw [hg]
    simp only [Bool.false_eq_true, if_false]
    obtain ⟨g1, g2⟩ := getE_ins hr (x := ⟨c.key, v, 0⟩) h
    exact ⟨g1, g2, by rw [insAt_len]; rfl⟩
theorem oldV_get {l : List Ent} (hr : Rise l) (c : Cmd) : oldV l c = ((getE l c.key).map Ent.val).getD zeroV := by
  unfold oldV
  rw [(inE_get hr c.key).2]
  cases getE l c.key <;> rfl
/-- What was done with a key, and that the others stay. -/
structure Did (l : List Ent) (k : ByteArray) (x : Option Ent) (l' : List Ent) : Prop where
  rise : Rise l'
  here : getE l' k = x
  other : ∀ k', k' ≠ k → getE l' k' = getE l k'
  len : l'.length = if x.isSome = true then (if (getE l k).isSome = true then l.length else l.length + 1) else (if (getE l k).isSome = true then l.length - 1 else l.length)
theorem Did.none {l : List Ent} (hr : Rise l) (k : ByteArray) : Did l k (getE l k) l := ⟨hr, rfl, fun _ _ => rfl, by split <;> rfl⟩
theorem did_set {l : List Ent} (hr : Rise l) (c : Cmd) (v : Val) : Did l c.key (some (putE l c v)) (setE l c v) := by
  obtain ⟨h1, h2, h3⟩ := setE_spec hr c v
  exact ⟨h2, by rw [h1, if_pos rfl], fun k hk => by rw [h1, if_neg hk], h3⟩
theorem did_del {l : List Ent} (hr : Rise l) {k : ByteArray} (h : inE l k = true) : Did l k .none (delAt l (findE l k)) := by
  obtain ⟨e, h3, h4⟩ := inE_some h
  obtain ⟨g1, g2⟩ := getE_del hr h3
  have hg := getE_at hr h3
  rw [h4] at g1 hg
  refine ⟨g2, by rw [g1, if_pos rfl], fun k' hk => by rw [g1, if_neg hk], ?_⟩
  rw [hg]
  have := delE_len (lt_of_getElem? h3)
  simp
  omega
theorem did_upd {l : List Ent} (hr : Rise l) {k : ByteArray} {e : Ent} (h : getE l k = some e) (n : Int) (y : Ent) (hy : y.key = k) : Did l k (some y) (l.set (findE l k) y) := by
  have h1 := (inE_get hr k)
  rw [h] at h1
  rw [h1.1] at h1
  obtain ⟨g1, g2⟩ := getE_set hr (y := y) (i := findE l k) (x := e) (by simpa using h1.2) (by rw [hy]; exact (getE_mem h).2.symm)
  rw [(getE_mem h).2] at g1
  refine ⟨g2, by rw [g1, if_pos rfl], fun k' hk => by rw [g1, if_neg hk], ?_⟩
  rw [h]; simp
/-- The value behind a command. -/
def newV (l : List Ent) (c : Cmd) : Val := (DoV (((getE l c.key).map Ent.val).getD zeroV) c).1
def newR (l : List Ent) (c : Cmd) : Rep := (DoV (((getE l c.key).map Ent.val).getD zeroV) c).2.1
/-- What is told, and what stands at the key. -/
theorem valE_spec {l : List Ent} (hr : Rise l) (c : Cmd) :
    Did l c.key (if (newR l c).code ≠ 0 then getE l c.key else if (newV l c).kind = 0 ∧ (getE l c.key).isSome = true then .none else if (getE l c.key).isSome = false ∧ l.length = 12 then getE l c.key else if (newV l c).kind ≠ 0 then some (putE l c (newV l c)) else getE l c.key) (valE l c).1 ∧
    (valE l c).2 = if (newR l c).code ≠ 0 then newR l c else if (newV l c).kind = 0 ∧ (getE l c.key).isSome = true then newR l c else if (getE l c.key).isSome = false ∧ l.length = 12 then failR 6 else newR l c := by
  have h1 := (inE_get hr c.key).1
  unfold valE
  rw [oldV_get hr, h1]
  simp only [← h1]
  change Did _ _ _ (if (newR l c).code ≠ 0 then (l, newR l c) else if (newV l c).kind = 0 ∧ inE l c.key = true then (delAt l (findE l c.key), newR l c) else if inE l c.key = false ∧ l.length = 12 then (l, failR 6) else if (newV l c).kind ≠ 0 then (setE l c (newV l c), newR l c) else (l, newR l c)).1 ∧ (if (newR l c).code ≠ 0 then (l, newR l c) else if (newV l c).kind = 0 ∧ inE l c.key = true then (delAt l (findE l c.key), newR l c) else if inE l c.key = false ∧ l.length = 12 then (l, failR 6) else if (newV l c).kind ≠ 0 then (setE l c (newV l c), newR l c) else (l, newR l c)).2 = _
  by_cases a1 : (newR l c).code ≠ 0
  · simp only [if_pos a1]
    exact ⟨Did.none hr _, trivial⟩
  · simp only [if_neg a1]
    by_cases a2 : (newV l c).kind = 0 ∧ inE l c.key = true
    · simp only [if_pos a2]
      exact ⟨did_del hr a2.2, trivial⟩
    · simp only [if_neg a2]
      by_cases a3 : inE l c.key = false ∧ l.length = 12
      · simp only [if_pos a3]
        exact ⟨Did.none hr _, trivial⟩
      · simp only [if_neg a3]
        by_cases a4 : (newV l c).kind ≠ 0
        · simp only [if_pos a4]
          exact ⟨did_set hr c _, trivial⟩
        · simp only [if_neg a4]
          exact ⟨Did.none hr _, trivial⟩
theorem timedE_spec {l : List Ent} (hr : Rise l) (now : Int) (c : Cmd) :
    (getE l c.key = none → timedE now l c = (l, failR 5)) ∧
    ∀ e, getE l c.key = some e → (c.kind = 21 → timedE now l c = (l, toldR (if e.till - now < 0 then 0 else e.till - now))) ∧
      (c.kind ≠ 21 → (c.n < 1 ∨ 1073741824 - now < c.n) → timedE now l c = (l, failR 2)) ∧
      (c.kind ≠ 21 → ¬ (c.n < 1 ∨ 1073741824 - now < c.n) → (timedE now l c).2 = toldR 0 ∧ Did l c.key (some ⟨c.key, e.val, now + c.n⟩) (timedE now l c).1) := by
  have h1 := (inE_get hr c.key).2
  unfold timedE
  rw [h1]
  constructor
  · intro h; rw [h]
  · intro e h
    rw [h]
    simp only
    refine ⟨fun hk => by rw [if_pos hk], fun hk hn => by rw [if_neg hk, if_pos hn], fun hk hn => ?_⟩
    rw [if_neg hk, if_neg hn]
    have hke := (getE_mem h).2
    rw [hke]
    exact ⟨rfl, did_upd hr h 0 _ rfl⟩
/-- A command touches its key alone. -/
theorem doE_did {l : List Ent} (hr : Rise l) (now : Int) (c : Cmd) : ∃ x, Did l c.key x (doE now l c).1 := by
  unfold doE
  by_cases k1 : c.kind = 22
  · rw [if_pos k1]; exact ⟨_, Did.none hr _⟩
  · rw [if_neg k1]
    by_cases k2 : c.kind = 19
    · rw [if_pos k2]
      cases h : inE l c.key with
      | true => rw [if_pos rfl]; exact ⟨_, did_del hr h⟩
      | false => rw [if_neg (by simp)]; exact ⟨_, Did.none hr _⟩
    · rw [if_neg k2]
      by_cases k3 : c.kind = 20 ∨ c.kind = 21
      · rw [if_pos k3]
        obtain ⟨t1, t2⟩ := timedE_spec hr now c
        cases hg : getE l c.key with
        | none => rw [t1 hg]; exact ⟨_, Did.none hr _⟩
        | some e =>
          obtain ⟨t3, t4, t5⟩ := t2 e hg
          by_cases k4 : c.kind = 21
          · rw [t3 k4]; exact ⟨_, Did.none hr _⟩
          · by_cases k5 : c.n < 1 ∨ 1073741824 - now < c.n
            · rw [t4 k4 k5]; exact ⟨_, Did.none hr _⟩
            · exact ⟨_, (t5 k4 k5).2⟩
      · rw [if_neg k3]; exact ⟨_, (valE_spec hr c).1⟩
theorem Did.all {l l' : List Ent} {k : ByteArray} {x : Option Ent} (h : Did l k x l') (hr : Rise l) {p : Ent → Prop} (hp : ∀ e ∈ l, p e) (hx : ∀ e, x = some e → p e) : ∀ e ∈ l', p e := by
  intro e he
  have hg := mem_getE h.rise he
  by_cases hk : e.key = k
  · rw [hk, h.here] at hg; exact hx e hg
  · rw [h.other _ hk] at hg; exact hp e (getE_mem hg).1
/-- A store that may be, behind a command. -/
theorem doE_ok {now : Int} {l : List Ent} {c : Cmd} (h0 : 0 ≤ now) (hn : now ≤ 1073741824) (hr : Rise l) (ha : ∀ e ∈ l, OkE now e) (hl : l.length ≤ 12) (hc : checkC c = 0) :
    Rise (doE now l c).1 ∧ (∀ e ∈ (doE now l c).1, OkE now e) ∧ (doE now l c).1.length ≤ 12 := by
  have hkind := checkC_kind hc
  have hfacts := checkC_facts hc
  -- the key is a field's
  have keep : ∀ {x : Option Ent} {l' : List Ent}, Did l c.key x l' → (x.isSome = true → (getE l c.key).isSome = false → l.length < 12) → (∀ e, x = some e → OkE now e) → Rise l' ∧ (∀ e ∈ l', OkE now e) ∧ l'.length ≤ 12 := by
    intro x l' hd hx ho
    refine ⟨hd.rise, hd.all hr ha ho, ?_⟩
    rw [hd.len]
    by_cases a1 : x.isSome = true
    · rw [if_pos a1]
      by_cases a2 : (getE l c.key).isSome = true
      · rw [if_pos a2]; exact hl
      · rw [if_neg a2]; have := hx a1 (by simpa using a2); omega
    · rw [if_neg a1]; split <;> omega
  have hin : ∀ e, getE l c.key = some e → OkE now e := fun e he => ha e (getE_mem he).1
  unfold doE
  by_cases k1 : c.kind = 22
  · rw [if_pos k1]; exact ⟨hr, ha, hl⟩
  · have hkey := checkC_key hc k1
    rw [if_neg k1]
    by_cases k2 : c.kind = 19
    · rw [if_pos k2]
      cases h : inE l c.key with
      | true => rw [if_pos rfl]; exact keep (did_del hr h) (fun h => by cases h) (fun e h => by cases h)
      | false => rw [if_neg (by simp)]; exact ⟨hr, ha, hl⟩
    · rw [if_neg k2]
      by_cases k3 : c.kind = 20 ∨ c.kind = 21
      · rw [if_pos k3]
        obtain ⟨t1, t2⟩ := timedE_spec hr now c
        cases hg : getE l c.key with
        | none => rw [t1 hg]; exact ⟨hr, ha, hl⟩
        | some e =>
          obtain ⟨t3, t4, t5⟩ := t2 e hg
          have hoe := hin e hg
          by_cases k4 : c.kind = 21
          · rw [t3 k4]; exact ⟨hr, ha, hl⟩
          · by_cases k5 : c.n < 1 ∨ 1073741824 - now < c.n
            · rw [t4 k4 k5]; exact ⟨hr, ha, hl⟩
            · refine keep (t5 k4 k5).2 (fun _ h => by rw [hg] at h; cases h) (fun y hy => ?_)
              cases hy
              exact ⟨hkey, hoe.val, .inr ⟨by show now < now + c.n; omega, by show now + c.n ≤ 1073741824; omega⟩⟩
      · rw [if_neg k3]
        have hk18 : c.kind ≤ 18 := by omega
        have hvk : Vk (((getE l c.key).map Ent.val).getD zeroV) := by
          cases hg : getE l c.key with
          | none => exact .inr rfl
          | some e => exact .inl (hin e hg).val
        have hnv := (DoV_vk hvk hc hk18).2
        change Vk (newV l c) at hnv
        refine keep (valE_spec hr c).1 (fun h1 h2 => ?_) (fun y hy => ?_)
        · have hgn : getE l c.key = none := by cases hg : getE l c.key with | none => rfl | some => rw [hg] at h2; cases h2
          rw [hgn] at h1
          simp only [Option.isSome_none, Bool.false_eq_true, and_false, if_false, true_and] at h1
          by_cases hl12 : l.length = 12
          · rw [if_pos hl12] at h1
            simp at h1
          · omega
        · by_cases a1 : (newR l c).code ≠ 0
          · rw [if_pos a1] at hy; exact hin y hy
          · rw [if_neg a1] at hy
            by_cases a2 : (newV l c).kind = 0 ∧ (getE l c.key).isSome = true
            · rw [if_pos a2] at hy; cases hy
            · rw [if_neg a2] at hy
              by_cases a3 : (getE l c.key).isSome = false ∧ l.length = 12
              · rw [if_pos a3] at hy; exact hin y hy
              · rw [if_neg a3] at hy
                by_cases a4 : (newV l c).kind ≠ 0
                · rw [if_pos a4] at hy
                  cases hy
                  refine ⟨hkey, vk_there hnv a4, ?_⟩
                  unfold putE
                  simp only
                  cases hg : getE l c.key with
                  | none => exact .inl rfl
                  | some e =>
                    simp only
                    by_cases a5 : c.kind = 1
                    · rw [if_pos a5]; exact .inl rfl
                    · rw [if_neg a5]; exact (hin e hg).till
                · rw [if_neg a4] at hy; exact hin y hy
def aliveS (now : Int) (s : Sto) : List Ent := s.ents.filter fun e => !goneE now e
theorem alive_ok {s : Sto} (h : OkS s) {now : Int} (hn : s.now ≤ now) : Rise (aliveS now s) ∧ (∀ e ∈ aliveS now s, OkE now e) ∧ (aliveS now s).length ≤ 12 := by
  refine ⟨h.rise.filter _, fun e he => ?_, Nat.le_trans (List.length_filter_le ..) h.len⟩
  obtain ⟨h1, h2⟩ := List.mem_filter.1 he
  have ho := h.all e h1
  refine ⟨ho.key, ho.val, ?_⟩
  rcases ho.till with h3 | h3
  · exact .inl h3
  · refine .inr ⟨?_, h3.2⟩
    unfold goneE at h2
    simp at h2
    rcases h2 with h2 | h2
    · have := h.now; omega
    · exact h2
theorem maxI_le (a b : Int) : a ≤ maxI a b ∧ b ≤ maxI a b := by unfold maxI; split <;> omega
theorem maxI_of {a b : Int} (h : a ≤ b) : maxI a b = b := by unfold maxI; rw [if_neg (by omega)]
theorem apply_ok {s : Sto} (h : OkS s) {t : Int} (h0 : 0 ≤ t) (h1 : t ≤ 1073741824) {c : Cmd} (hc : checkC c = 0) :
    ApplyS s t c = (⟨maxI s.now t, (doE (maxI s.now t) (aliveS (maxI s.now t) s) c).1⟩, (doE (maxI s.now t) (aliveS (maxI s.now t) s) c).2, 0) ∧ OkS ⟨maxI s.now t, (doE (maxI s.now t) (aliveS (maxI s.now t) s) c).1⟩ := by
  have hm := maxI_le s.now t
  have hb : maxI s.now t ≤ 1073741824 := by have := h.now; unfold maxI; split <;> omega
  obtain ⟨a1, a2, a3⟩ := alive_ok h hm.1
  obtain ⟨d1, d2, d3⟩ := doE_ok (by have := h.now; omega) hb a1 a2 a3 hc
  refine ⟨?_, ⟨⟨by have := h.now; show 0 ≤ maxI s.now t; omega, hb⟩, d3, d2, d1⟩⟩
  unfold ApplyS
  rw [if_neg (by rw [checkS_iff.2 h]; simp), if_neg (by omega), if_neg (by rw [hc]; simp)]
  rfl
/-- Nothing runs out where no time goes on. -/
theorem alive_same {s : Sto} (h : OkS s) : aliveS s.now s = s.ents := by
  unfold aliveS
  rw [List.filter_eq_self]
  intro e he
  have := (h.all e he).till
  unfold goneE
  simp
  omega
theorem okS_zero : OkS zeroS := ⟨⟨Int.le_refl _, by show (0 : Int) ≤ 1073741824; omega⟩, Nat.zero_le _, (fun e he => by cases he), .nil⟩
structure Stp where
  raw : Raw
  wait : Int
structure Stp.Ok (x : Stp) : Prop where
  raw : x.raw.Ok
  wait : i64 x.wait
def Stp.row (x : Stp) : List V := [.lit (.int .i64 x.raw.kind), .lit (.int .i64 x.raw.key), .lit (.int .i64 x.raw.field), .lit (.int .i64 x.raw.n), .lit (.string x.raw.text), .lit (.int .i64 x.wait)]
def Stp.c (x : Stp) : List C := [iC x.raw.kind, iC x.raw.key, iC x.raw.field, iC x.raw.n, sC x.raw.text, iC x.wait]
/-! ### few keys -/
def Few (l : List Ent) : Prop := ∀ e ∈ l, e.key ∈ nine
theorem few_len {l : List Ent} (hr : Rise l) (h : Few l) : l.length ≤ 9 := by
  have := nodup_le (l.map Ent.key) nine (List.pairwise_map.2 (hr.imp fun h => key_ne h)) fun x hx => by
    obtain ⟨p, hp, rfl⟩ := List.mem_map.1 hx
    exact h p hp
  rw [List.length_map] at this
  exact this
theorem doE_few {l : List Ent} (hr : Rise l) (now : Int) {c : Cmd} (h : Few l) (hc : c.kind = 22 ∨ c.key ∈ nine) : Few (doE now l c).1 := by
  rcases hc with hc | hc
  · unfold doE; rw [if_pos hc]; exact h
  · obtain ⟨x, hd⟩ := doE_did hr now c
    intro e he
    have hg := mem_getE hd.rise he
    by_cases hk : e.key = c.key
    · rw [hk]; exact hc
    · rw [hd.other _ hk] at hg
      exact h e (getE_mem hg).1
/-- A store as the keep makes them. -/
structure OkT (s : Sto) : Prop where
  ok : OkS s
  few : Few s.ents
theorem OkT.len {s : Sto} (h : OkT s) : s.ents.length ≤ 9 := few_len h.ok.rise h.few
theorem okT_zero : OkT zeroS := ⟨okS_zero, fun e he => by cases he⟩
theorem apply_okT {s : Sto} (h : OkT s) {t : Int} (h0 : 0 ≤ t) (h1 : t ≤ 1073741824) {c : Cmd} (hc : checkC c = 0) (hk : c.kind = 22 ∨ c.key ∈ nine) :
    ∃ s' r, ApplyS s t c = (s', r, 0) ∧ OkT s' ∧ s'.now = maxI s.now t := by
  obtain ⟨e, ok⟩ := apply_ok h.ok h0 h1 hc
  refine ⟨_, _, e, ⟨ok, doE_few (alive_ok h.ok (maxI_le _ _).1).1 _ (fun x hx => h.few x (List.mem_filter.1 hx).1) hk⟩, rfl⟩
theorem cmdR_key (r : Raw) : (cmdR r).kind = 22 ∨ (cmdR r).key ∈ nine := by
  unfold cmdR cmdK
  simp only
  by_cases h : 1 + pk r.kind 22 = 22
  · exact .inl h
  · rw [if_neg h]; exact .inr (some_nine _)
def stepT (q : Int × Sto) (x : Stp) : Int × Sto := (q.1 + pk x.wait 12, if (ApplyS q.2 (q.1 + pk x.wait 12) (cmdR x.raw)).2.2 = 0 then (ApplyS q.2 (q.1 + pk x.wait 12) (cmdR x.raw)).1 else q.2)
def foldT (l : List Stp) : Int × Sto := l.foldl stepT (0, zeroS)
def storeV (l : List Stp) : Sto := (foldT (l.take 40)).2
theorem foldT_ok : ∀ (l : List Stp) (q : Int × Sto), (∀ x ∈ l, x.Ok) → 0 ≤ q.1 → q.1 + 11 * (l.length : Int) ≤ 1000000 → OkT q.2 → q.2.now ≤ q.1 →
    OkT (l.foldl stepT q).2 ∧ 0 ≤ (l.foldl stepT q).1 ∧ (l.foldl stepT q).1 ≤ q.1 + 11 * (l.length : Int) ∧ (l.foldl stepT q).2.now ≤ (l.foldl stepT q).1
  | [], q, _, h0, _, h, hn => ⟨h, h0, by simp, hn⟩
  | x :: l, q, hl, h0, hb, h, hn => by
    have hx := hl x (List.mem_cons_self ..)
    have hp := pk_range (n := x.wait) (m := 12) (by omega)
    simp only [List.length_cons] at hb ⊢
    obtain ⟨s', r, e1, e2, e3⟩ := apply_okT h (t := q.1 + pk x.wait 12) (by omega) (by omega) (cmdR_ok hx.raw) (cmdR_key x.raw)
    have hst : stepT q x = (q.1 + pk x.wait 12, s') := by unfold stepT; rw [e1]; simp
    have hm : s'.now ≤ q.1 + pk x.wait 12 := by rw [e3]; unfold maxI; split <;> omega
    obtain ⟨g1, g2, g3, g4⟩ := foldT_ok l (q.1 + pk x.wait 12, s') (fun y hy => hl y (List.mem_cons_of_mem _ hy)) (by show 0 ≤ q.1 + pk x.wait 12; omega) (by show q.1 + pk x.wait 12 + 11 * (l.length : Int) ≤ 1000000; omega) e2 hm
    rw [List.foldl_cons, hst]
    refine ⟨g1, g2, ?_, g4⟩
    have : (l.foldl stepT (q.1 + pk x.wait 12, s')).1 ≤ q.1 + pk x.wait 12 + 11 * (l.length : Int) := g3
    omega
theorem storeV_ok (l : List Stp) (hl : ∀ x ∈ l, x.Ok) : OkT (storeV l) ∧ (storeV l).now ≤ 440 := by
  have ht := List.length_take_le 40 l
  obtain ⟨g1, g2, g3, g4⟩ := foldT_ok (l.take 40) (0, zeroS) (fun x hx => hl x (List.mem_of_mem_take hx)) (Int.le_refl _) (by show (0 : Int) + 11 * ((l.take 40).length : Int) ≤ 1000000; omega) okT_zero (Int.le_refl _)
  refine ⟨g1, ?_⟩
  show (foldT (l.take 40)).2.now ≤ 440
  unfold foldT
  have : ((0, zeroS) : Int × Sto).1 = 0 := rfl
  rw [this] at g3
  omega
theorem foldT_succ {l : List Stp} {i : Nat} {x : Stp} (h : l[i]? = some x) : foldT (l.take (i + 1)) = stepT (foldT (l.take i)) x := by
  unfold foldT
  rw [List.take_add_one, h, Option.toList_some, List.foldl_append]
  rfl
end Go.Proofs.Ytpdcfljbabpakaa

/- With a store: what is kept, and single commands. -/
set_option linter.unusedVariables false
set_option linter.unusedSimpArgs false
set_option maxRecDepth 100000
set_option maxHeartbeats 8000000
namespace Go.Proofs.Ytpdcfljbabpakaa
open Go Go.RowKit Go.Proofs.AE
variable {G : Nat → AV}
/-! ### what fails changes nothing -/
def IsFail (r : Rep) : Prop := r.code = 0 ∨ ∃ e, r = failR e
theorem hashV_fail (l : List Pr) (c : Cmd) : IsFail (hashV l c).2 := by
  unfold hashV; simp only
  repeat' split
  all_goals first | exact .inl rfl | exact .inr ⟨_, rfl⟩
theorem listV_fail (l : List ByteArray) (c : Cmd) : IsFail (listV l c).2 := by
  unfold listV
  repeat' split
  all_goals first | exact .inl rfl | exact .inr ⟨_, rfl⟩
theorem setV_fail (l : List ByteArray) (c : Cmd) : IsFail (setV l c).2 := by
  unfold setV; simp only
  repeat' split
  all_goals first | exact .inl rfl | exact .inr ⟨_, rfl⟩
theorem ranksV_fail (l : List Sc) (c : Cmd) : IsFail (ranksV l c).2 := by
  unfold ranksV; simp only
  repeat' split
  all_goals first | exact .inl rfl | exact .inr ⟨_, rfl⟩
theorem doV_fail (v : Val) (c : Cmd) : IsFail (doV v c).2 := by
  unfold doV
  repeat' split
  all_goals first | exact .inl rfl | exact .inr ⟨_, rfl⟩ | exact hashV_fail _ _ | exact listV_fail _ _ | exact setV_fail _ _ | exact ranksV_fail _ _
theorem DoEnd_keeps {v : Val} {q : Val × Rep} (hq : IsFail q.2) : (DoEnd v q).2.2 = 0 ∧ ((DoEnd v q).2.1.code = 0 ∨ ∃ e, DoEnd v q = (v, failR e, 0)) := by
  unfold DoEnd
  by_cases h : q.2.code ≠ 0
  · rw [if_pos h]
    refine ⟨rfl, .inr ?_⟩
    rcases hq with hq | ⟨e, he⟩
    · exact absurd hq h
    · exact ⟨e, by rw [he]⟩
  · rw [if_neg h]
    have h0 : q.2.code = 0 := Classical.not_not.1 h
    split <;> exact ⟨rfl, .inl h0⟩
theorem DoV_keeps {v : Val} {c : Cmd} (hv : Vk v) (hc : checkC c = 0) (hk : c.kind ≤ 18) : (DoV v c).2.1.code = 0 ∨ ∃ e, DoV v c = (v, failR e, 0) := by
  rcases hv with h | h
  · have hv := checkV_iff.2 h
    by_cases hm : (kindOfC c.kind ≠ 0 ∧ kindOfC c.kind ≠ v.kind) ∨ (17 ≤ c.kind ∧ v.kind < 3)
    · exact .inr ⟨4, DoV_type hv hc hk hm⟩
    · rw [DoV_go hv hc hk hm]
      exact (DoEnd_keeps (doV_fail _ _)).2
  · subst h
    rw [DoV_zero hc hk]
    split
    · exact (DoEnd_keeps (doV_fail _ _)).2
    · exact .inr ⟨5, rfl⟩
/-! ### at the store's own time -/
theorem maxI_self (a : Int) : maxI a a = a := by unfold maxI; split <;> rfl
theorem apply_now {s : Sto} (h : OkS s) {c : Cmd} (hc : checkC c = 0) : ApplyS s s.now c = (⟨s.now, (doE s.now s.ents c).1⟩, (doE s.now s.ents c).2, 0) ∧ OkS ⟨s.now, (doE s.now s.ents c).1⟩ := by
  have := apply_ok h h.now.1 h.now.2 hc
  rw [maxI_self, alive_same h] at this
  exact this
theorem apply_nowT {s : Sto} (h : OkT s) {c : Cmd} (hc : checkC c = 0) (hk : c.kind = 22 ∨ c.key ∈ nine) : ApplyS s s.now c = (⟨s.now, (doE s.now s.ents c).1⟩, (doE s.now s.ents c).2, 0) ∧ OkT ⟨s.now, (doE s.now s.ents c).1⟩ := by
  obtain ⟨e, ok⟩ := apply_now h.ok hc
  exact ⟨e, ⟨ok, doE_few h.ok.rise _ h.few hk⟩⟩
theorem apply_later {s : Sto} (h : OkS s) {w : Int} (h0 : 0 ≤ w) (h1 : s.now + w ≤ 1073741824) {c : Cmd} (hc : checkC c = 0) : ApplyS s (s.now + w) c = (⟨s.now + w, (doE (s.now + w) (aliveS (s.now + w) s) c).1⟩, (doE (s.now + w) (aliveS (s.now + w) s) c).2, 0) ∧ OkS ⟨s.now + w, (doE (s.now + w) (aliveS (s.now + w) s) c).1⟩ := by
  have hn := h.now
  have := apply_ok h (t := s.now + w) (by omega) h1 hc
  rw [maxI_of (by omega)] at this
  exact this
theorem apply_bad {s : Sto} (h : OkS s) {t : Int} (ht : t < 0 ∨ 1073741824 < t) (c : Cmd) : ApplyS s t c = (zeroS, toldR 0, 2) := by
  unfold ApplyS
  rw [if_neg (by rw [checkS_iff.2 h]; simp), if_pos ht]
theorem getE_filter {l : List Ent} (hr : Rise l) (p : Ent → Bool) (k : ByteArray) : getE (l.filter p) k = (getE l k).filter p := by
  cases h : getE l k with
  | none =>
    rw [getE_none] at h
    have : getE (l.filter p) k = none := getE_none.2 fun e he => h e (List.mem_filter.1 he).1
    rw [this]; rfl
  | some e =>
    obtain ⟨h1, h2⟩ := getE_mem h
    cases hp : p e with
    | true =>
      have hm : e ∈ l.filter p := List.mem_filter.2 ⟨h1, hp⟩
      have := mem_getE (hr.filter p) hm
      rw [h2] at this
      rw [this, Option.filter_some, if_pos hp]
    | false =>
      have : getE (l.filter p) k = none := getE_none.2 fun x hx hk => by
        obtain ⟨x1, x2⟩ := List.mem_filter.1 hx
        have hx3 := mem_getE hr x1
        rw [hk, h] at hx3
        cases hx3
        rw [hp] at x2; cases x2
      rw [this, Option.filter_some, if_neg (by rw [hp]; simp)]
/-! ### commands of a store's keys -/
theorem form_plain {k : Int} {key f t : ByteArray} {n : Int} (h1 : 1 ≤ k) (h2 : k ≤ 22) (hkey : k = 22 ∧ key = ⟨#[]⟩ ∨ k ≠ 22 ∧ okField key = true) (hf : (k = 4 ∨ k = 5 ∨ k = 6) ∧ okField f = true ∨ ¬ (k = 4 ∨ k = 5 ∨ k = 6) ∧ f = ⟨#[]⟩)
    (ht : okText t = true ∧ (k = 1 ∨ k = 4 ∨ k = 7 ∨ k = 8 ∨ k = 11 ∨ k = 12 ∨ k = 13 ∨ k = 14 ∨ k = 15 ∨ k = 16) ∨ t = ⟨#[]⟩) (hn : okCount n = true ∧ (k = 3 ∨ k = 14 ∨ k = 20) ∨ n = 0) : checkC ⟨k, key, f, t, n⟩ = 0 := by
  have ht' : okText t = true := by rcases ht with h | h; exact h.1; rw [h]; rfl
  have hn' : okCount n = true := by rcases hn with h | h; exact h.1; rw [h]; rfl
  have hform : formOk k key f t n = true := by
    unfold formOk
    have a1 : ((k != 22) || decide (key = ⟨#[]⟩)) = true := by
      rcases hkey with h | h
      · simp [h.2]
      · simp [h.1]
    have a2 : ((k == 4 || k == 5 || k == 6) || decide (f = ⟨#[]⟩)) = true := by
      rcases hf with h | h
      · rcases h.1 with e | e | e <;> simp [e]
      · simp [h.2]
    have a3 : ((k == 1 || k == 4 || k == 7 || k == 8 || k == 11 || k == 12 || k == 13 || k == 14 || k == 15 || k == 16) || decide (t = ⟨#[]⟩)) = true := by
      rcases ht with h | h
      · rcases h.2 with e | e | e | e | e | e | e | e | e | e <;> simp [e]
      · simp [h]
    have a4 : ((k == 3 || k == 14 || k == 20) || n == 0) = true := by
      rcases hn with h | h
      · rcases h.2 with e | e | e <;> simp [e]
      · simp [h]
    rw [a1, a2, a3, a4]; rfl
  unfold checkC checkCommand
  simp only
  rw [if_neg (by omega), if_neg (by omega), if_neg (by rw [hform]; simp)]
  have b : ((k != 22 && !okField key || ((k == 4 || k == 5 || k == 6) && !okField f)) || !okText t) = false := by
    rw [ht']
    have b1 : (k != 22 && !okField key) = false := by
      rcases hkey with h | h
      · simp [h.1]
      · simp [h.2]
    rw [b1]
    rcases hf with h | h
    · rw [h.2]; simp
    · have : (k == 4 || k == 5 || k == 6) = false := by
        have := h.1
        simp; omega
      rw [this]; simp
  rw [b, hn']
  simp
abbrev aK : ByteArray := ⟨#[97]⟩
theorem aK_nine : aK ∈ nine := some_nine 0
theorem aK_ok : okField aK = true := rfl
theorem ne12 {s : Sto} (h : OkT s) : s.ents.length ≠ 12 := by have := h.len; omega
theorem old_vk {s : Sto} (h : OkS s) (k : ByteArray) : Vk (((getE s.ents k).map Ent.val).getD zeroV) := by
  cases hg : getE s.ents k with
  | none => exact .inr rfl
  | some e => exact .inl (h.all e (getE_mem hg).1).val
theorem doE_val {l : List Ent} (now : Int) {c : Cmd} (hk : c.kind ≤ 18) : doE now l c = valE l c := by
  unfold doE
  rw [if_neg (by omega), if_neg (by omega), if_neg (by omega)]
/-- With a key's value is done what is done with a value. -/
theorem as_value {s : Sto} (h : OkT s) {c : Cmd} (hc : checkC c = 0) (hk : c.kind ≤ 18) (hn : c.key ∈ nine) :
    ∃ l', ApplyS s s.now c = (⟨s.now, l'⟩, newR s.ents c, 0) ∧ OkT ⟨s.now, l'⟩ ∧ DoV (((getE s.ents c.key).map Ent.val).getD zeroV) c = (newV s.ents c, newR s.ents c, 0) ∧
      (getE l' c.key).isSome = ((newV s.ents c).kind != 0) ∧ ((getE l' c.key).map Ent.val).getD zeroV = newV s.ents c ∧
      ((newR s.ents c).code ≠ 0 → l' = s.ents ∧ ∃ e, newR s.ents c = failR e) := by
  obtain ⟨e1, ok⟩ := apply_nowT h hc (.inr hn)
  rw [doE_val _ hk] at e1 ok
  obtain ⟨hd, hr⟩ := valE_spec h.ok.rise c
  have hvk := old_vk h.ok c.key
  obtain ⟨h0, hnv⟩ := DoV_vk hvk hc hk
  have hdv : DoV (((getE s.ents c.key).map Ent.val).getD zeroV) c = (newV s.ents c, newR s.ents c, 0) := by
    unfold newV newR
    rw [← h0]
  have hkeep := DoV_keeps hvk hc hk
  rw [hdv] at hkeep hnv
  simp only at hkeep hnv
  have h12 : ¬ ((getE s.ents c.key).isSome = false ∧ s.ents.length = 12) := fun hh => ne12 h hh.2
  rw [if_neg h12] at hr hd
  have hr' : (valE s.ents c).2 = newR s.ents c := by
    rw [hr]
    repeat' split
    all_goals rfl
  rw [hr'] at e1
  refine ⟨_, e1, ok, hdv, ?_, ?_, ?_⟩
  · rw [hd.here]
    by_cases a1 : (newR s.ents c).code ≠ 0
    · rw [if_pos a1]
      rcases hkeep with hk0 | ⟨e, he⟩
      · exact absurd hk0 a1
      · have hv : newV s.ents c = ((getE s.ents c.key).map Ent.val).getD zeroV := congrArg (·.1) he
        rw [hv]
        cases hg : getE s.ents c.key with
        | none => rfl
        | some e =>
          have := (h.ok.all e (getE_mem hg).1).val.kind
          simp; omega
    · rw [if_neg a1]
      by_cases a2 : (newV s.ents c).kind = 0 ∧ (getE s.ents c.key).isSome = true
      · rw [if_pos a2, a2.1]; rfl
      · rw [if_neg a2]
        by_cases a4 : (newV s.ents c).kind ≠ 0
        · rw [if_pos a4]; simpa using a4
        · rw [if_neg a4]
          have h00 : (newV s.ents c).kind = 0 := Classical.not_not.1 a4
          rw [h00]
          cases hg : getE s.ents c.key with
          | none => rfl
          | some e => exact absurd ⟨h00, by rw [hg]; rfl⟩ a2
  · rw [hd.here]
    by_cases a1 : (newR s.ents c).code ≠ 0
    · rw [if_pos a1]
      rcases hkeep with hk0 | ⟨e, he⟩
      · exact absurd hk0 a1
      · exact (congrArg (·.1) he).symm
    · rw [if_neg a1]
      have hz : (newV s.ents c).kind = 0 → newV s.ents c = zeroV := fun h0 => by
        rcases hnv with h1 | h1
        · have := h1.kind; omega
        · exact h1
      by_cases a2 : (newV s.ents c).kind = 0 ∧ (getE s.ents c.key).isSome = true
      · rw [if_pos a2, hz a2.1]; rfl
      · rw [if_neg a2]
        by_cases a4 : (newV s.ents c).kind ≠ 0
        · rw [if_pos a4]; rfl
        · rw [if_neg a4]
          have h00 : (newV s.ents c).kind = 0 := Classical.not_not.1 a4
          rw [hz h00]
          cases hg : getE s.ents c.key with
          | none => rfl
          | some e => exact absurd ⟨h00, by rw [hg]; rfl⟩ a2
  · intro hcode
    refine ⟨?_, ?_⟩
    · have hcode' : (DoV (((getE s.ents c.key).map Ent.val).getD zeroV) c).2.1.code ≠ 0 := hcode
      unfold valE
      rw [oldV_get h.ok.rise, if_pos hcode']
    · rcases hkeep with hk0 | ⟨e, he⟩
      · exact absurd hk0 hcode
      · exact ⟨e, congrArg (fun q => q.2.1) he⟩
/-- What is refused changes nothing. -/
theorem fail_keeps {s : Sto} (h : OkT s) {c : Cmd} (hc : checkC c = 0) (hn : c.kind = 22 ∨ c.key ∈ nine) : (doE s.now s.ents c).2.code = 0 ∨ ∃ e, doE s.now s.ents c = (s.ents, failR e) := by
  have hkind := checkC_kind hc
  have hf := (checkC_facts hc).2.1
  by_cases k22 : c.kind = 22
  · unfold doE; rw [if_pos k22]; exact .inl rfl
  · by_cases k19 : c.kind = 19
    · unfold doE; rw [if_neg k22, if_pos k19]; split <;> exact .inl rfl
    · by_cases k20 : c.kind = 20 ∨ c.kind = 21
      · unfold doE
        rw [if_neg k22, if_neg k19, if_pos k20]
        obtain ⟨t1, t2⟩ := timedE_spec h.ok.rise s.now c
        cases hg : getE s.ents c.key with
        | none => rw [t1 hg]; exact .inr ⟨_, rfl⟩
        | some e =>
          obtain ⟨t3, t4, t5⟩ := t2 e hg
          by_cases k4 : c.kind = 21
          · rw [t3 k4]; exact .inl rfl
          · by_cases k5 : c.n < 1 ∨ 1073741824 - s.now < c.n
            · rw [t4 k4 k5]; exact .inr ⟨_, rfl⟩
            · left; rw [(t5 k4 k5).1]; rfl
      · have hk : c.kind ≤ 18 := by omega
        obtain ⟨l', e1, ok, _, _, _, hfail⟩ := as_value h hc hk (hn.resolve_left k22)
        have e2 := (apply_nowT h hc hn).1
        rw [e2] at e1
        by_cases h0 : (newR s.ents c).code ≠ 0
        · obtain ⟨f1, e, f2⟩ := hfail h0
          refine .inr ⟨e, ?_⟩
          have g1 : (doE s.now s.ents c).1 = l' := congrArg (fun q => q.1.ents) e1
          have g2 : (doE s.now s.ents c).2 = newR s.ents c := congrArg (fun q => q.2.1) e1
          exact Prod.ext (g1.trans f1) (g2.trans f2)
        · left
          have g2 : (doE s.now s.ents c).2 = newR s.ents c := congrArg (fun q => q.2.1) e1
          rw [g2]; exact Classical.not_not.1 h0
/-! ### single commands -/
def lifeC (k : ByteArray) : Cmd := ⟨21, k, ⟨#[]⟩, ⟨#[]⟩, 0⟩
def expC (k : ByteArray) (n : Int) : Cmd := ⟨20, k, ⟨#[]⟩, ⟨#[]⟩, n⟩
def delC (k : ByteArray) : Cmd := ⟨19, k, ⟨#[]⟩, ⟨#[]⟩, 0⟩
def keysC : Cmd := ⟨22, ⟨#[]⟩, ⟨#[]⟩, ⟨#[]⟩, 0⟩
def allK (k : ByteArray) : Cmd := ⟨18, k, ⟨#[]⟩, ⟨#[]⟩, 0⟩
def getK (k : ByteArray) : Cmd := ⟨2, k, ⟨#[]⟩, ⟨#[]⟩, 0⟩
def putK (k t : ByteArray) : Cmd := ⟨1, k, ⟨#[]⟩, t, 0⟩
def addK (k : ByteArray) (n : Int) : Cmd := ⟨3, k, ⟨#[]⟩, ⟨#[]⟩, n⟩
theorem lifeC_ok {k : ByteArray} (h : okField k = true) : checkC (lifeC k) = 0 := form_plain (by omega) (by omega) (.inr ⟨by omega, h⟩) (.inr ⟨by omega, rfl⟩) (.inr rfl) (.inr rfl)
theorem expC_ok {k : ByteArray} (h : okField k = true) {n : Int} (hn : okCount n = true) : checkC (expC k n) = 0 := form_plain (by omega) (by omega) (.inr ⟨by omega, h⟩) (.inr ⟨by omega, rfl⟩) (.inr rfl) (.inl ⟨hn, by omega⟩)
theorem delC_ok {k : ByteArray} (h : okField k = true) : checkC (delC k) = 0 := form_plain (by omega) (by omega) (.inr ⟨by omega, h⟩) (.inr ⟨by omega, rfl⟩) (.inr rfl) (.inr rfl)
theorem keysC_ok : checkC keysC = 0 := form_plain (by omega) (by omega) (.inl ⟨rfl, rfl⟩) (.inr ⟨by omega, rfl⟩) (.inr rfl) (.inr rfl)
theorem allK_ok {k : ByteArray} (h : okField k = true) : checkC (allK k) = 0 := form_plain (by omega) (by omega) (.inr ⟨by omega, h⟩) (.inr ⟨by omega, rfl⟩) (.inr rfl) (.inr rfl)
theorem getK_ok {k : ByteArray} (h : okField k = true) : checkC (getK k) = 0 := form_plain (by omega) (by omega) (.inr ⟨by omega, h⟩) (.inr ⟨by omega, rfl⟩) (.inr rfl) (.inr rfl)
theorem putK_ok {k t : ByteArray} (h : okField k = true) (ht : okText t = true) : checkC (putK k t) = 0 := form_plain (by omega) (by omega) (.inr ⟨by omega, h⟩) (.inr ⟨by omega, rfl⟩) (.inl ⟨ht, by omega⟩) (.inr rfl)
theorem addK_ok {k : ByteArray} (h : okField k = true) {n : Int} (hn : okCount n = true) : checkC (addK k n) = 0 := form_plain (by omega) (by omega) (.inr ⟨by omega, h⟩) (.inr ⟨by omega, rfl⟩) (.inr rfl) (.inl ⟨hn, by omega⟩)
theorem doE_life {l : List Ent} (hr : Rise l) (now : Int) (k : ByteArray) : doE now l (lifeC k) = match getE l k with | none => (l, failR 5) | some e => (l, toldR (if e.till - now < 0 then 0 else e.till - now)) := by
  unfold doE
  rw [if_neg (by show (21 : Int) ≠ 22; omega), if_neg (by show (21 : Int) ≠ 19; omega), if_pos (.inr rfl)]
  obtain ⟨t1, t2⟩ := timedE_spec hr now (lifeC k)
  cases hg : getE l k with
  | none => exact t1 hg
  | some e => exact (t2 e hg).1 rfl
theorem doE_del {l : List Ent} (hr : Rise l) (now : Int) (k : ByteArray) : Did l k none (doE now l (delC k)).1 ∧ (doE now l (delC k)).2 = toldR (flagN (getE l k).isSome) ∧ (getE l k = none → (doE now l (delC k)).1 = l) := by
  have hd : doE now l (delC k) = if inE l k then (delAt l (findE l k), toldR 1) else (l, toldR 0) := by
    unfold doE
    rw [if_neg (by show (19 : Int) ≠ 22; omega), if_pos (show (delC k).kind = 19 from rfl)]
    rfl
  rw [hd]
  have h1 := (inE_get hr k).1
  cases h : inE l k with
  | true =>
    rw [h] at h1
    rw [← h1]
    exact ⟨did_del hr h, rfl, fun hn => by rw [hn] at h1; cases h1⟩
  | false =>
    rw [h] at h1
    have hn : getE l k = none := by cases hg : getE l k with | none => rfl | some => rw [hg] at h1; cases h1
    refine ⟨?_, by rw [← h1]; rfl, fun _ => rfl⟩
    have := Did.none hr k
    rw [hn] at this
    exact this
theorem doE_keys (now : Int) (l : List Ent) : doE now l keysC = (l, ⟨0, ⟨#[]⟩, 0, l.map Ent.key⟩) := by
  unfold doE
  rw [if_pos (show keysC.kind = 22 from rfl)]
/-- A text that is put. -/
theorem put_val {v : Val} {k t : ByteArray} (hk : okField k = true) (hv : Vk v) (ht : okText t = true) : DoV v (putK k t) = (⟨1, t, 0, [], [], []⟩, toldR 0, 0) := by
  have hd : ∀ v, doV v (putK k t) = (⟨1, t, 0, [], [], []⟩, toldR 0) := fun v => by unfold doV; simp [putK]
  rcases hv with h | h
  · rw [DoV_go (checkV_iff.2 h) (putK_ok hk ht) (by show (1 : Int) ≤ 18; omega) (by simp [putK, kindOfC]), hd]
    exact DoEnd_some rfl (fun h => absurd h.1 (by show ¬ (3 : Int) ≤ 1; omega))
  · rw [h, DoV_zero (putK_ok hk ht) (by show (1 : Int) ≤ 18; omega), if_pos (show makesC _ = true from rfl), hd]
    exact DoEnd_some rfl (fun h => absurd h.1 (by show ¬ (3 : Int) ≤ 1; omega))
theorem doE_put {l : List Ent} (hr : Rise l) (ha : ∀ e ∈ l, OkV e.val) (hl : l.length ≠ 12) (now : Int) {k t : ByteArray} (hk : okField k = true) (ht : okText t = true) : Did l k (some ⟨k, ⟨1, t, 0, [], [], []⟩, 0⟩) (doE now l (putK k t)).1 ∧ (doE now l (putK k t)).2 = toldR 0 := by
  rw [doE_val now (by show (1 : Int) ≤ 18; omega)]
  obtain ⟨hd, hr2⟩ := valE_spec hr (putK k t)
  have hvk : Vk (((getE l k).map Ent.val).getD zeroV) := by
    cases hg : getE l k with
    | none => exact .inr rfl
    | some e => exact .inl (ha e (getE_mem hg).1)
  have hdv := put_val hk hvk ht
  have h1 : newV l (putK k t) = ⟨1, t, 0, [], [], []⟩ := congrArg (·.1) hdv
  have h2 : newR l (putK k t) = toldR 0 := congrArg (fun q => q.2.1) hdv
  rw [h1, h2] at hd hr2
  have c1 : ¬ (toldR 0).code ≠ 0 := fun h => h rfl
  have c2 : ¬ ((1 : Int) = 0 ∧ (getE l k).isSome = true) := fun h => absurd h.1 (by omega)
  have c3 : ¬ ((getE l k).isSome = false ∧ l.length = 12) := fun h => hl h.2
  have c4 : (1 : Int) ≠ 0 := by omega
  rw [if_neg c1] at hd hr2
  have e1 : (Val.mk 1 t 0 [] [] []).kind = 1 := rfl
  rw [e1] at hd hr2
  have ek : (putK k t).key = k := rfl
  rw [ek] at hd hr2
  rw [if_neg c2, if_neg c3] at hd hr2
  rw [if_pos c4] at hd
  refine ⟨?_, hr2⟩
  have hp : putE l (putK k t) ⟨1, t, 0, [], [], []⟩ = ⟨k, ⟨1, t, 0, [], [], []⟩, 0⟩ := by
    unfold putE
    rw [ek]
    cases getE l k with
    | none => rfl
    | some e => simp [putK]
  rw [hp] at hd
  exact hd
theorem doE_exp {l : List Ent} (hr : Rise l) (now n : Int) (k : ByteArray) (h1 : 1 ≤ n) (h2 : n ≤ 1073741824 - now) :
    (getE l k = none → doE now l (expC k n) = (l, failR 5)) ∧ ∀ e, getE l k = some e → (doE now l (expC k n)).2 = toldR 0 ∧ Did l k (some ⟨k, e.val, now + n⟩) (doE now l (expC k n)).1 := by
  have hd : doE now l (expC k n) = timedE now l (expC k n) := by
    unfold doE
    rw [if_neg (by show (20 : Int) ≠ 22; omega), if_neg (by show (20 : Int) ≠ 19; omega), if_pos (.inl rfl)]
  rw [hd]
  obtain ⟨t1, t2⟩ := timedE_spec hr now (expC k n)
  refine ⟨t1, fun e he => ?_⟩
  exact (t2 e he).2.2 (by show (20 : Int) ≠ 21; omega) (by show ¬ (n < 1 ∨ 1073741824 - now < n); omega)
abbrev tV (t : ByteArray) : Val := ⟨1, t, 0, [], [], []⟩
theorem tV_ok {t : ByteArray} (h : okText t = true) : OkV (tV t) :=
  ⟨⟨(by show (1 : Int) ≤ 1; omega), (by show (1 : Int) ≤ 6; omega)⟩, .inl rfl, .inr rfl, .inr rfl, .inr (.inr rfl), .inr rfl, fun h => absurd h (by show ¬ (3 : Int) ≤ 1; omega), h, by simp, by simp, by simp, rfl, .nil, .nil, fun _ => .nil, .nil⟩
theorem doE_made {l : List Ent} (hr : Rise l) (now : Int) {c : Cmd} (hk : c.kind ≤ 18) {v : Val} {r : Rep} (hdv : DoV (((getE l c.key).map Ent.val).getD zeroV) c = (v, r, 0)) (h0 : r.code = 0) (hv : v.kind ≠ 0) (hl : (getE l c.key).isSome = true ∨ l.length ≠ 12) :
    Did l c.key (some (putE l c v)) (doE now l c).1 ∧ (doE now l c).2 = r := by
  rw [doE_val now hk]
  obtain ⟨hd, hr2⟩ := valE_spec hr c
  have h1 : newV l c = v := congrArg (·.1) hdv
  have h2 : newR l c = r := congrArg (fun q => q.2.1) hdv
  rw [h1, h2] at hd hr2
  have c1 : ¬ r.code ≠ 0 := fun h => h h0
  have c2 : ¬ (v.kind = 0 ∧ (getE l c.key).isSome = true) := fun h => hv h.1
  have c3 : ¬ ((getE l c.key).isSome = false ∧ l.length = 12) := fun h => by
    rcases hl with hl | hl
    · rw [hl] at h; exact absurd h.1 (by simp)
    · exact hl h.2
  rw [if_neg c1, if_neg c2, if_neg c3] at hr2
  rw [if_neg c1, if_neg c2, if_neg c3, if_pos hv] at hd
  exact ⟨hd, hr2⟩
/-! ### the last step of a store of steps -/
theorem storeV_last {l : List Stp} {x : Stp} (hl : ∀ y ∈ l, y.Ok) (hx : x.Ok) (hlen : l.length ≤ 39) :
    ∃ s n, OkT s ∧ s.now ≤ n ∧ 0 ≤ n ∧ n ≤ 440 ∧ storeV (l ++ [x]) = (ApplyS s (n + pk x.wait 12) (cmdR x.raw)).1 ∧ (ApplyS s (n + pk x.wait 12) (cmdR x.raw)).2.2 = 0 := by
  obtain ⟨g1, g2, g3, g4⟩ := foldT_ok l (0, zeroS) hl (Int.le_refl _) (by show (0 : Int) + 11 * (l.length : Int) ≤ 1000000; omega) okT_zero (Int.le_refl _)
  have hp := pk_range (n := x.wait) (m := 12) (by omega)
  have z : ((0, zeroS) : Int × Sto).1 = 0 := rfl
  rw [z] at g3
  have hst : storeV (l ++ [x]) = (stepT (l.foldl stepT (0, zeroS)) x).2 := by
    unfold storeV foldT
    rw [List.take_of_length_le (by rw [List.length_append]; simp; omega), List.foldl_append]
    rfl
  rw [hst]
  generalize l.foldl stepT (0, zeroS) = Q at *
  obtain ⟨s', r, e1, e2, e3⟩ := apply_okT g1 (t := Q.1 + pk x.wait 12) (by omega) (by omega) (cmdR_ok hx.raw) (cmdR_key x.raw)
  have h0 : (ApplyS Q.2 (Q.1 + pk x.wait 12) (cmdR x.raw)).2.2 = 0 := by rw [e1]
  refine ⟨Q.2, Q.1, g1, g4, g2, by omega, ?_, h0⟩
  unfold stepT
  simp only
  rw [if_pos h0]
/-- A key that is put last is there. -/
theorem storeV_put {l : List Stp} {x : Stp} (hl : ∀ y ∈ l, y.Ok) (hx : x.Ok) (hlen : l.length ≤ 39) (hk : (cmdR x.raw).kind = 1) : 0 < (storeV (l ++ [x])).ents.length := by
  obtain ⟨s, n, h1, h2, h3, h4, h5, h6⟩ := storeV_last hl hx hlen
  have hp := pk_range (n := x.wait) (m := 12) (by omega)
  have hc := cmdR_ok hx.raw
  obtain ⟨e, ok⟩ := apply_ok h1.ok (t := n + pk x.wait 12) (by omega) (by omega) hc
  rw [h5, e]
  obtain ⟨a1, a2, a3⟩ := alive_ok h1.ok (now := maxI s.now (n + pk x.wait 12)) (maxI_le _ _).1
  have hkey := checkC_key hc (by omega)
  obtain ⟨k1, k2, k3, k4, k5⟩ : ∃ k f t m y, cmdR x.raw = ⟨k, f, t, m, y⟩ := ⟨_, _, _, _, _, rfl⟩
  have hfacts := checkC_facts hc
  have hvk : Vk (((getE (aliveS (maxI s.now (n + pk x.wait 12)) s) (cmdR x.raw).key).map Ent.val).getD zeroV) := by
    cases hg : getE (aliveS (maxI s.now (n + pk x.wait 12)) s) (cmdR x.raw).key with
    | none => exact .inr rfl
    | some e => exact .inl (a2 e (getE_mem hg).1).val
  have hd : ∀ v, doV v (cmdR x.raw) = (tV (cmdR x.raw).text, toldR 0) := fun v => by unfold doV; rw [if_pos hk]
  have hdv : DoV (((getE (aliveS (maxI s.now (n + pk x.wait 12)) s) (cmdR x.raw).key).map Ent.val).getD zeroV) (cmdR x.raw) = (tV (cmdR x.raw).text, toldR 0, 0) := by
    rcases hvk with h | h
    · rw [DoV_go (checkV_iff.2 h) hc (by omega) (by rw [hk]; simp [kindOfC]), hd]
      exact DoEnd_some rfl (fun h => absurd h.1 (by show ¬ (3 : Int) ≤ 1; omega))
    · rw [h, DoV_zero hc (by omega), if_pos (by rw [hk]; rfl), hd]
      exact DoEnd_some rfl (fun h => absurd h.1 (by show ¬ (3 : Int) ≤ 1; omega))
  have hfew : (aliveS (maxI s.now (n + pk x.wait 12)) s).length ≠ 12 := by
    have := h1.len
    have := List.length_filter_le (fun e => !goneE (maxI s.now (n + pk x.wait 12)) e) s.ents
    unfold aliveS
    omega
  obtain ⟨d, _⟩ := doE_made a1 (maxI s.now (n + pk x.wait 12)) (c := cmdR x.raw) (by omega) hdv rfl (by show (1 : Int) ≠ 0; omega) (.inr hfew)
  exact List.length_pos_of_mem (getE_mem d.here).1
end Go.Proofs.Ytpdcfljbabpakaa

/- What is told may be told. -/
set_option linter.unusedVariables false
set_option linter.unusedSimpArgs false
set_option maxRecDepth 100000
set_option maxHeartbeats 8000000
namespace Go.Proofs.Ytpdcfljbabpakaa
open Go Go.RowKit Go.Proofs.AE
variable {G : Nat → AV}
/-! ### what is told may be told -/
structure OkR (r : Rep) : Prop where
  code : 0 ≤ r.code ∧ r.code ≤ 13
  text : okText r.text = true
  len : r.list.length ≤ 20
  list : ∀ s ∈ r.list, okText s = true
  n : okCount r.n = true
theorem eT_ok : okText (⟨#[]⟩ : ByteArray) = true := rfl
theorem told_ok {n : Int} (h : okCount n = true) : OkR (toldR n) := ⟨⟨by show (0 : Int) ≤ 0; omega, by show (0 : Int) ≤ 13; omega⟩, rfl, Nat.zero_le _, (fun s hs => by cases hs), h⟩
theorem told_small {n : Int} (h0 : 0 ≤ n) (h1 : n ≤ 1099511627776) : OkR (toldR n) := told_ok (by unfold okCount; simp; omega)
theorem fail_ok {e : Int} (h0 : 0 ≤ e) (h1 : e ≤ 13) : OkR (failR e) := ⟨⟨h0, h1⟩, rfl, Nat.zero_le _, (fun s hs => by cases hs), rfl⟩
theorem textR_ok {t : ByteArray} (h : okText t = true) : OkR (textR t) := ⟨⟨by show (0 : Int) ≤ 0; omega, by show (0 : Int) ≤ 13; omega⟩, h, Nat.zero_le _, (fun s hs => by cases hs), rfl⟩
theorem flag_ok (b : Bool) : OkR (toldR (flagN b)) := told_small (by cases b <;> decide) (by cases b <;> decide)
theorem hashR_ok {l : List Pr} {c : Cmd} (h : ∀ p ∈ l, okField p.1 = true ∧ okText p.2 = true) (ht : okText c.text = true) : OkR (hashV l c).2 := by
  unfold hashV
  simp only
  repeat' split
  · exact told_small (by omega) (by omega)
  · exact fail_ok (by omega) (by omega)
  · exact told_small (by omega) (by omega)
  · refine textR_ok ?_
    cases hx : l[hashAt l c.field]? with
    | none => exact ht
    | some a => exact (h a (List.mem_of_getElem? hx)).2
  · exact fail_ok (by omega) (by omega)
  · exact told_small (by omega) (by omega)
  · exact told_small (by omega) (by omega)
theorem listR_ok {l : List ByteArray} {c : Cmd} (h : ∀ s ∈ l, okText s = true) (hl : l.length ≤ 20) : OkR (listV l c).2 := by
  have hg : ∀ i : Nat, okText (l[i]?.getD ⟨#[]⟩) = true := fun i => by
    cases hx : l[i]? with
    | none => rfl
    | some a => exact h a (List.mem_of_getElem? hx)
  unfold listV
  repeat' split
  · exact fail_ok (by omega) (by omega)
  · exact told_small (by omega) (by omega)
  · exact told_small (by omega) (by omega)
  · exact textR_ok (hg _)
  · exact textR_ok (hg _)
theorem setR_ok (l : List ByteArray) (c : Cmd) : OkR (setV l c).2 := by
  unfold setV
  simp only
  repeat' split
  all_goals first | exact told_small (by omega) (by omega) | exact fail_ok (by omega) (by omega) | exact flag_ok _
theorem firstI_bound {α : Type} (p : α → Bool) : ∀ (l : List α) (i : Nat), -1 ≤ firstI p i l ∧ firstI p i l < (i : Int) + l.length + 1
  | [], i => by unfold firstI; simp; omega
  | a :: l, i => by
    unfold firstI
    split
    · simp; omega
    · have := firstI_bound p l (i + 1)
      simp only [List.length_cons]
      omega
theorem ranksR_ok {l : List Sc} {c : Cmd} (hl : l.length ≤ 20) : OkR (ranksV l c).2 := by
  have hb := firstI_bound (fun s : Sc => decide (s.1 = c.text)) l 0
  change -1 ≤ rankOf l c.text ∧ rankOf l c.text < _ at hb
  unfold ranksV
  simp only
  repeat' split
  all_goals first | exact told_small (by omega) (by omega) | exact fail_ok (by omega) (by omega)
theorem allV_ok {v : Val} (h : OkB v) : (allV v).length ≤ 20 ∧ ∀ s ∈ allV v, okText s = true := by
  have he := h.els
  unfold Val.els at he
  unfold allV
  refine ⟨by simp; omega, fun s hs => ?_⟩
  rcases List.mem_append.1 hs with hs | hs
  · rcases List.mem_append.1 hs with hs | hs
    · exact h.okI s hs
    · obtain ⟨p, hp, rfl⟩ := List.mem_map.1 hs
      have := (h.okP p hp).1
      unfold okField at this
      unfold okText
      simp only [Bool.and_eq_true, decide_eq_true_eq] at this ⊢
      omega
  · obtain ⟨p, hp, rfl⟩ := List.mem_map.1 hs
    exact (h.okS p hp).1
theorem doV_okR {v : Val} {c : Cmd} (h : OkB v) (ht : okText c.text = true) : OkR (doV v c).2 := by
  have he := h.els
  unfold Val.els at he
  unfold doV
  repeat' split
  · exact told_small (by omega) (by omega)
  · exact textR_ok h.okT
  · rename_i hc; exact told_ok hc
  · exact fail_ok (by omega) (by omega)
  · refine told_small ?_ ?_ <;> (unfold Val.els; omega)
  · obtain ⟨h1, h2⟩ := allV_ok h
    exact ⟨⟨by show (0 : Int) ≤ 0; omega, by show (0 : Int) ≤ 13; omega⟩, rfl, h1, h2, rfl⟩
  · exact hashR_ok h.okP ht
  · exact listR_ok h.okI (by omega)
  · exact setR_ok _ _
  · exact ranksR_ok (by omega)
theorem DoEnd_okR {v : Val} {q : Val × Rep} (h : OkR q.2) : OkR (DoEnd v q).2.1 := by
  unfold DoEnd
  repeat' split
  all_goals exact h
theorem DoV_okR {v : Val} {c : Cmd} (hv : Vk v) (hc : checkC c = 0) (hk : c.kind ≤ 18) : OkR (DoV v c).2.1 := by
  have ht := (checkC_facts hc).2.2.1
  have hk1 := checkC_kind hc
  rcases hv with h | h
  · have hv := checkV_iff.2 h
    by_cases hm : (kindOfC c.kind ≠ 0 ∧ kindOfC c.kind ≠ v.kind) ∨ (17 ≤ c.kind ∧ v.kind < 3)
    · rw [DoV_type hv hc hk hm]; exact fail_ok (by omega) (by omega)
    · rw [DoV_go hv hc hk hm]; exact DoEnd_okR (doV_okR h.b ht)
  · subst h
    rw [DoV_zero hc hk]
    split
    · by_cases e : c.kind = 1
      · have hd : doV ⟨kindOfC c.kind, ⟨#[]⟩, 0, [], [], []⟩ c = doV ⟨1, ⟨#[]⟩, 0, [], [], []⟩ c := by unfold doV; rw [if_pos e, if_pos e]
        rw [hd]
        exact DoEnd_okR (doV_okR (fresh_b (by omega) (by omega)) ht)
      · rename_i hmk
        have hk2 : c.kind ≤ 14 := by
          unfold makesC at hmk
          simp at hmk
          omega
        have hr : 1 ≤ kindOfC c.kind ∧ kindOfC c.kind ≤ 6 := by
          have hne := kindOf_zero hk1 (by omega) e
          unfold kindOfC at hne ⊢
          repeat' split
          all_goals simp_all
        exact DoEnd_okR (doV_okR (fresh_b hr.1 hr.2) ht)
    · exact fail_ok (by omega) (by omega)
/-- What a store's command tells. -/
theorem doE_okR {now : Int} {l : List Ent} {c : Cmd} (hn0 : 0 ≤ now) (hr : Rise l) (ha : ∀ e ∈ l, OkE now e) (hl : l.length ≤ 12) (hc : checkC c = 0) : OkR (doE now l c).2 := by
  have hk1 := checkC_kind hc
  have hkf := (checkC_facts hc).2.1
  unfold doE
  by_cases k1 : c.kind = 22
  · rw [if_pos k1]
    refine ⟨⟨by show (0 : Int) ≤ 0; omega, by show (0 : Int) ≤ 13; omega⟩, rfl, by show (l.map Ent.key).length ≤ 20; rw [List.length_map]; omega, fun s hs => ?_, rfl⟩
    obtain ⟨e, he, rfl⟩ := List.mem_map.1 hs
    have := (ha e he).key
    unfold okField at this
    unfold okText
    simp only [Bool.and_eq_true, decide_eq_true_eq] at this ⊢
    omega
  · rw [if_neg k1]
    by_cases k2 : c.kind = 19
    · rw [if_pos k2]
      split <;> exact told_small (by omega) (by omega)
    · rw [if_neg k2]
      by_cases k3 : c.kind = 20 ∨ c.kind = 21
      · rw [if_pos k3]
        obtain ⟨t1, t2⟩ := timedE_spec hr now c
        cases hg : getE l c.key with
        | none => rw [t1 hg]; exact fail_ok (by omega) (by omega)
        | some e =>
          obtain ⟨t3, t4, t5⟩ := t2 e hg
          have ht := (ha e (getE_mem hg).1).till
          by_cases k4 : c.kind = 21
          · rw [t3 k4]; refine told_small ?_ ?_ <;> (split <;> omega)
          · by_cases k5 : c.n < 1 ∨ 1073741824 - now < c.n
            · rw [t4 k4 k5]; exact fail_ok (by omega) (by omega)
            · rw [(t5 k4 k5).1]; exact told_small (by omega) (by omega)
      · rw [if_neg k3, (valE_spec hr c).2]
        have hvk : Vk (((getE l c.key).map Ent.val).getD zeroV) := by
          cases hg : getE l c.key with
          | none => exact .inr rfl
          | some e => exact .inl (ha e (getE_mem hg).1).val
        have hn := DoV_okR hvk hc (by omega)
        change OkR (newR l c) at hn
        repeat' split
        all_goals first | exact hn | exact fail_ok (by omega) (by omega)
theorem apply_okR {s : Sto} (h : OkS s) {t : Int} (h0 : 0 ≤ t) (h1 : t ≤ 1073741824) {c : Cmd} (hc : checkC c = 0) : OkR (ApplyS s t c).2.1 := by
  rw [(apply_ok h h0 h1 hc).1]
  obtain ⟨a1, a2, a3⟩ := alive_ok h (maxI_le s.now t).1
  exact doE_okR (by have := h.now; have := maxI_le s.now t; omega) a1 a2 a3 hc
structure Cli where
  id : Int
  seq : Int
  time : Int
  reply : Rep
structure Mach where
  sto : Sto
  next : Int
  clis : List Cli
structure Cal where
  client : Int
  seq : Int
  cmd : Cmd
def Cli.c (x : Cli) : List C := [iC x.id, iC x.seq, iC x.time, iC x.reply.code, sC x.reply.text, iC x.reply.n, .v (.sl (strRows x.reply.list))]
def Cli.row (x : Cli) : List V := [.lit (.int .i64 x.id), .lit (.int .i64 x.seq), .lit (.int .i64 x.time), .lit (.int .i64 x.reply.code), .lit (.string x.reply.text), .lit (.int .i64 x.reply.n), .sl (strRows x.reply.list)]
abbrev clR (l : List Cli) : List (List V) := l.map Cli.row
def Mach.c (m : Mach) : List C := [iC m.sto.now, .v (.sl (eR m.sto.ents)), iC m.next, .v (.sl (clR m.clis))]
def Cal.c (c : Cal) : List C := [iC c.client, iC c.seq, iC c.cmd.kind, sC c.cmd.key, sC c.cmd.field, sC c.cmd.text, iC c.cmd.n]
def checkR (r : Rep) : Int := checkReply r.code r.text r.n r.list
def checkCl (c : Cal) : Int := checkCall c.client c.seq c.cmd.kind c.cmd.key c.cmd.field c.cmd.text c.cmd.n
def badC (next now : Int) (x : Cli) : Bool := decide (x.id < 1) || decide (next ≤ x.id) || decide (x.seq < 0) || decide (1048576 < x.seq) || decide (x.time < 0) || decide (now < x.time) || (checkR x.reply != 0)
def cI (a b : Cli) : Int := a.id - b.id
def checkM (m : Mach) : Int :=
  if checkS m.sto ≠ 0 ∨ m.next < 1 ∨ 1048577 < m.next ∨ 4 < m.clis.length then 13
  else if m.clis.any (badC m.next m.sto.now) = true then 13
  else if rising cI m.clis = true then 0 else 13
/-- The first of the least times. -/
def oldest : List Cli → Nat → Nat → List Cli → Nat
  | _, old, _, [] => old
  | all, old, i, x :: r => oldest all (match all[old]? with | some y => if x.time < y.time then i else old | none => old) (i + 1) r
def openM (m : Mach) : Mach × Rep :=
  if 1048576 < m.next then (m, failR 6)
  else (⟨m.sto, m.next + 1, (if m.clis.length = 4 then delAt m.clis (oldest m.clis 0 0 m.clis) else m.clis) ++ [⟨m.next, 0, m.sto.now, toldR 0⟩]⟩, toldR m.next)
def findC (l : List Cli) (id : Int) : Int := firstI (fun x => x.id == id) 0 l
def zeroM : Mach := ⟨zeroS, 0, []⟩
def callM (m : Mach) (time : Int) (c : Cal) : Mach × Rep :=
  if c.client = 0 then openM m
  else if findC m.clis c.client < 0 then (m, failR 11)
  else match m.clis[(findC m.clis c.client).toNat]? with
    | none => (m, failR 11)
    | some x =>
      if c.seq = x.seq then (m, x.reply)
      else if c.seq ≠ x.seq + 1 then (m, failR 10)
      else (⟨(ApplyS m.sto time c.cmd).1, m.next, m.clis.set (findC m.clis c.client).toNat ⟨x.id, c.seq, (ApplyS m.sto time c.cmd).1.now, (ApplyS m.sto time c.cmd).2.1⟩⟩, (ApplyS m.sto time c.cmd).2.1)
def DoM (m : Mach) (time : Int) (c : Cal) : Mach × Rep × Int :=
  if checkM m ≠ 0 then (zeroM, toldR 0, checkM m)
  else if time < 0 ∨ 1073741824 < time then (zeroM, toldR 0, 2)
  else if checkCl c ≠ 0 then (zeroM, toldR 0, checkCl c)
  else ((callM ⟨(ApplyS m.sto time keysC).1, m.next, m.clis⟩ time c).1, (callM ⟨(ApplyS m.sto time keysC).1, m.next, m.clis⟩ time c).2, 0)
/-! ### a machine that may be -/
structure OkC (next now : Int) (x : Cli) : Prop where
  id : 1 ≤ x.id ∧ x.id < next
  seq : 0 ≤ x.seq ∧ x.seq ≤ 1048576
  time : 0 ≤ x.time ∧ x.time ≤ now
  reply : checkR x.reply = 0
def RiseC (l : List Cli) : Prop := l.Pairwise (fun a b => a.id < b.id)
structure OkM (m : Mach) : Prop where
  sto : OkS m.sto
  next : 1 ≤ m.next ∧ m.next ≤ 1048577
  len : m.clis.length ≤ 4
  all : ∀ x ∈ m.clis, OkC m.next m.sto.now x
  rise : RiseC m.clis
theorem badC_iff {next now : Int} {x : Cli} : badC next now x = false ↔ OkC next now x := by
  unfold badC
  constructor
  · intro h
    simp only [Bool.or_eq_false_iff, decide_eq_false_iff_not, bne_eq_false_iff_eq] at h
    obtain ⟨⟨⟨⟨⟨⟨h1, h2⟩, h3⟩, h4⟩, h5⟩, h6⟩, h7⟩ := h
    exact ⟨by omega, by omega, by omega, h7⟩
  · rintro ⟨h1, h2, h3, h4⟩
    simp only [Bool.or_eq_false_iff, decide_eq_false_iff_not, bne_eq_false_iff_eq]
    exact ⟨⟨⟨⟨⟨⟨by omega, by omega⟩, by omega⟩, by omega⟩, by omega⟩, by omega⟩, h4⟩
theorem cI_tr : ∀ a b c : Cli, cI a b < 0 → cI b c < 0 → cI a c < 0 := fun a b c h1 h2 => by unfold cI at *; omega
theorem riseC_iff {l : List Cli} : rising cI l = true ↔ RiseC l := by
  rw [rising_iff cI_tr]
  unfold RiseC
  constructor <;> exact fun h => h.imp fun h => by unfold cI at *; omega
theorem checkM_iff {m : Mach} : checkM m = 0 ↔ OkM m := by
  unfold checkM
  constructor
  · intro h
    split at h
    · cases h
    · rename_i h1
      simp only [not_or] at h1
      split at h
      · cases h
      · rename_i h2
        split at h
        · rename_i h3
          refine ⟨checkS_iff.1 (Classical.not_not.1 h1.1), by omega, by omega, fun x hx => badC_iff.1 ?_, riseC_iff.1 h3⟩
          cases hb : badC m.next m.sto.now x with
          | false => rfl
          | true => exact absurd (List.any_eq_true.2 ⟨x, hx, hb⟩) h2
        · cases h
  · rintro ⟨h1, h2, h3, h4, h5⟩
    rw [if_neg, if_neg, if_pos (riseC_iff.2 h5)]
    · intro h
      obtain ⟨x, hx, hb⟩ := List.any_eq_true.1 h
      rw [badC_iff.2 (h4 x hx)] at hb; cases hb
    · simp only [not_or]
      exact ⟨fun h => h (checkS_iff.2 h1), by omega, by omega, by omega⟩
theorem checkR_iff {r : Rep} : checkR r = 0 ↔ OkR r := by
  unfold checkR checkReply
  constructor
  · intro h
    repeat' split at h
    all_goals first | (cases h; done) | skip
    rename_i h1 h2 h3 h4 h5 h6 h7
    simp only [decide_eq_true_eq] at h1 h2 h3 h4 h6 h7
    refine ⟨by omega, by unfold okText; simp; omega, by omega, fun s hs => ?_, by unfold okCount; simp; omega⟩
    unfold okText
    simp only [decide_eq_true_eq]
    apply Classical.not_not.1
    intro hh
    exact h5 (List.any_eq_true.2 ⟨s, hs, by simp; omega⟩)
  · rintro ⟨h1, h2, h3, h4, h5⟩
    unfold okText at h2 h4
    unfold okCount at h5
    simp only [decide_eq_true_eq, Bool.and_eq_true] at h2 h4 h5
    have ha : ¬ (r.list.any fun s => decide (20 < (s.size : Int))) = true := fun h => by
      obtain ⟨s, hs, hb⟩ := List.any_eq_true.1 h
      have := h4 s hs
      simp at hb; omega
    rw [if_neg (by simp; omega), if_neg (by simp; omega), if_neg (by simp; omega), if_neg (by simp; omega), if_neg ha, if_neg (by simp; omega), if_neg (by simp; omega)]
/-! ### the machine -/
theorem oldest_lt (all : List Cli) : ∀ (r : List Cli) (old i : Nat), old < all.length → i + r.length ≤ all.length → oldest all old i r < all.length
  | [], old, _, h, _ => h
  | x :: r, old, i, h, hi => by
    unfold oldest
    simp only [List.length_cons] at hi
    refine oldest_lt all r _ (i + 1) ?_ (by omega)
    split
    · split <;> omega
    · exact h
theorem RiseC.sub {l l' : List Cli} (h : RiseC l) (hs : l'.Sublist l) : RiseC l' := List.Pairwise.sublist hs h
theorem open_ok {m : Mach} (h : OkM m) : OkM (openM m).1 ∧ OkR (openM m).2 := by
  unfold openM
  by_cases hn : 1048576 < m.next
  · rw [if_pos hn]; exact ⟨h, fail_ok (by omega) (by omega)⟩
  · rw [if_neg hn]
    obtain ⟨L, hL⟩ : ∃ L, (if m.clis.length = 4 then delAt m.clis (oldest m.clis 0 0 m.clis) else m.clis) = L := ⟨_, rfl⟩
    have hsub : L.Sublist m.clis ∧ L.length ≤ 3 := by
      rw [← hL]
      split
      · rename_i h4
        have hlt := oldest_lt m.clis m.clis 0 0 (by omega) (by omega)
        exact ⟨del_sub _ _, by have := delE_len hlt; omega⟩
      · exact ⟨List.Sublist.refl _, by have := h.len; omega⟩
    rw [hL]
    have hnx := h.next
    have hnow := h.sto.now
    refine ⟨⟨h.sto, ⟨by show 1 ≤ m.next + 1; omega, by show m.next + 1 ≤ 1048577; omega⟩, by show (L ++ [_]).length ≤ 4; rw [List.length_append]; simp; omega, fun x hx => ?_, ?_⟩, told_small (by omega) (by omega)⟩
    · rcases List.mem_append.1 hx with hx | hx
      · have ho := h.all x (hsub.1.subset hx)
        exact ⟨⟨ho.id.1, by have := ho.id.2; show x.id < m.next + 1; omega⟩, ho.seq, ho.time, ho.reply⟩
      · simp only [List.mem_singleton] at hx
        subst hx
        exact ⟨⟨hnx.1, by show m.next < m.next + 1; omega⟩, ⟨Int.le_refl _, by show (0 : Int) ≤ 1048576; omega⟩, ⟨hnow.1, Int.le_refl _⟩, checkR_iff.2 (told_small (by omega) (by omega))⟩
    · refine List.pairwise_append.2 ⟨h.rise.sub hsub.1, List.pairwise_singleton _ _, fun a ha b hb => ?_⟩
      simp only [List.mem_singleton] at hb
      subst hb
      exact (h.all a (hsub.1.subset ha)).id.2
theorem later_ok {m : Mach} (h : OkM m) {s : Sto} (hs : OkS s) (hn : m.sto.now ≤ s.now) : OkM ⟨s, m.next, m.clis⟩ :=
  ⟨hs, h.next, h.len, fun x hx => by have ho := h.all x hx; exact ⟨ho.id, ho.seq, ⟨ho.time.1, Int.le_trans ho.time.2 hn⟩, ho.reply⟩, h.rise⟩
theorem call_cmd {c : Cal} (h : checkCl c = 0) (hc : c.client ≠ 0) : okNumber c.client = true ∧ okNumber c.seq = true ∧ checkC c.cmd = 0 := by
  unfold checkCl checkCall at h
  rw [if_neg (by simpa using hc)] at h
  split at h
  · rename_i h1
    split at h
    · rename_i h2; exact ⟨h1, h2, h⟩
    · cases h
  · cases h
theorem call_ok {m : Mach} (h : OkM m) {t : Int} (h0 : 0 ≤ t) (h1 : t ≤ 1073741824) {c : Cal} (hc : checkCl c = 0) : OkM (callM m t c).1 ∧ OkR (callM m t c).2 := by
  unfold callM
  by_cases hz : c.client = 0
  · rw [if_pos hz]; exact open_ok h
  · rw [if_neg hz]
    obtain ⟨n1, n2, hcc⟩ := call_cmd hc hz
    by_cases hf : findC m.clis c.client < 0
    · rw [if_pos hf]; exact ⟨h, fail_ok (by omega) (by omega)⟩
    · rw [if_neg hf]
      cases hx : m.clis[(findC m.clis c.client).toNat]? with
      | none => exact ⟨h, fail_ok (by omega) (by omega)⟩
      | some x =>
        have hm := List.mem_of_getElem? hx
        have ho := h.all x hm
        simp only
        by_cases e1 : c.seq = x.seq
        · rw [if_pos e1]; exact ⟨h, checkR_iff.1 ho.reply⟩
        · rw [if_neg e1]
          by_cases e2 : c.seq ≠ x.seq + 1
          · rw [if_pos e2]; exact ⟨h, fail_ok (by omega) (by omega)⟩
          · rw [if_neg e2]
            have hr := apply_okR h.sto h0 h1 hcc
            obtain ⟨e, ok⟩ := apply_ok h.sto h0 h1 hcc
            have hnow : m.sto.now ≤ (ApplyS m.sto t c.cmd).1.now := by rw [e]; exact (maxI_le _ _).1
            have okS : OkS (ApplyS m.sto t c.cmd).1 := by rw [e]; exact ok
            obtain ⟨S, hS⟩ : ∃ S, (ApplyS m.sto t c.cmd).1 = S := ⟨_, rfl⟩
            rw [hS] at hnow okS ⊢
            have hl := later_ok h okS hnow
            have hlt := (List.getElem?_eq_some_iff.1 hx).1
            have hxe := (List.getElem?_eq_some_iff.1 hx).2
            unfold okNumber at n2
            simp only [Bool.and_eq_true, decide_eq_true_eq] at n2
            refine ⟨⟨okS, h.next, by show (m.clis.set _ _).length ≤ 4; rw [List.length_set]; exact h.len, fun y hy => ?_, ?_⟩, hr⟩
            · rcases List.mem_or_eq_of_mem_set hy with hy | hy
              · exact hl.all y hy
              · subst hy
                exact ⟨ho.id, ⟨by show 0 ≤ c.seq; omega, n2.2⟩, ⟨okS.now.1, Int.le_refl _⟩, checkR_iff.2 hr⟩
            · have hri := h.rise
              unfold RiseC at hri ⊢
              rw [← List.pairwise_map (f := Cli.id) (R := fun a b => a < b)] at hri ⊢
              have : (m.clis.set (findC m.clis c.client).toNat ⟨x.id, c.seq, S.now, (ApplyS m.sto t c.cmd).2.1⟩).map Cli.id = m.clis.map Cli.id := by
                rw [List.map_set]
                refine List.ext_getElem? fun q => ?_
                rw [List.getElem?_set]
                split
                · rename_i hq
                  subst hq
                  rw [if_pos (by rw [List.length_map]; exact hlt), List.getElem?_map, hx]; rfl
                · rfl
              show ((m.clis.set (findC m.clis c.client).toNat ⟨x.id, c.seq, S.now, (ApplyS m.sto t c.cmd).2.1⟩).map Cli.id).Pairwise _
              rw [this]; exact hri
theorem do_ok {m : Mach} (h : OkM m) {t : Int} (h0 : 0 ≤ t) (h1 : t ≤ 1073741824) {c : Cal} (hc : checkCl c = 0) :
    DoM m t c = ((callM ⟨⟨maxI m.sto.now t, aliveS (maxI m.sto.now t) m.sto⟩, m.next, m.clis⟩ t c).1, (callM ⟨⟨maxI m.sto.now t, aliveS (maxI m.sto.now t) m.sto⟩, m.next, m.clis⟩ t c).2, 0) ∧
      OkM ⟨⟨maxI m.sto.now t, aliveS (maxI m.sto.now t) m.sto⟩, m.next, m.clis⟩ ∧ OkM (DoM m t c).1 ∧ OkR (DoM m t c).2.1 := by
  obtain ⟨e, ok⟩ := apply_ok h.sto h0 h1 keysC_ok
  rw [doE_keys] at e ok
  have hmid := later_ok h ok (maxI_le _ _).1
  have hd : DoM m t c = ((callM ⟨⟨maxI m.sto.now t, aliveS (maxI m.sto.now t) m.sto⟩, m.next, m.clis⟩ t c).1, (callM ⟨⟨maxI m.sto.now t, aliveS (maxI m.sto.now t) m.sto⟩, m.next, m.clis⟩ t c).2, 0) := by
    unfold DoM
    rw [if_neg (by rw [checkM_iff.2 h]; simp), if_neg (by omega), if_neg (by rw [hc]; simp), e]
  obtain ⟨c1, c2⟩ := call_ok hmid h0 h1 hc
  rw [hd]
  exact ⟨rfl, hmid, c1, c2⟩
def newM : Mach := ⟨zeroS, 1, []⟩
end Go.Proofs.Ytpdcfljbabpakaa

/- Bytes: what the writer of numbers and texts answers. -/
set_option linter.unusedVariables false
set_option linter.unusedSimpArgs false
set_option maxRecDepth 100000
set_option maxHeartbeats 8000000
namespace Go.Proofs.Ytpdcfljbabpakaa
open Go Go.RowKit Go.Proofs.AE
variable {G : Nat → AV}
/-- Bytes as rows. -/
def bR (l : List UInt8) : List (List V) := l.map fun b => [.lit (.int .u8 b.toNat)]
theorem bR_app (a b : List UInt8) : bR (a ++ b) = bR a ++ bR b := by simp [bR]
theorem bR_len (a : List UInt8) : (bR a).length = a.length := by simp [bR]
theorem bR_ul (a : List UInt8) : UL 1 (bR a) := by
  intro r hr
  obtain ⟨b, _, rfl⟩ := List.mem_map.1 hr
  rfl
theorem bR_str (s : ByteArray) : AE.strRows s = bR s.data.toList := rfl
theorem bR_bytes : ∀ l : List UInt8, bytesOf (bR l) = some l
  | [] => rfl
  | b :: l => by
    have := bR_bytes l
    unfold bR at this ⊢
    simp only [List.map_cons, bytesOf, AE.byteOf, this]
    simp
def byteAt' (u s : Nat) : UInt8 := UInt8.ofNat (u / 2 ^ s)
def numU (n : Int) : Nat := (n + 4611686018427387904).toNat
def numB (n : Int) : List UInt8 := [byteAt' (numU n) 56, byteAt' (numU n) 48, byteAt' (numU n) 40, byteAt' (numU n) 32, byteAt' (numU n) 24, byteAt' (numU n) 16, byteAt' (numU n) 8, byteAt' (numU n) 0]
def smallB (n : Int) : UInt8 := UInt8.ofNat (n % 256).toNat
def textB (s : ByteArray) : List UInt8 := smallB s.size :: s.data.toList
theorem wrap_u8 (n : Int) : IntKind.u8.wrap n = ((smallB n).toNat : Int) := by
  unfold smallB
  have h1 := Int.emod_nonneg n (b := 256) (by omega)
  have h2 := Int.emod_lt_of_pos n (b := 256) (by omega)
  rw [UInt8.toNat_ofNat']
  have h3 : IntKind.u8.wrap n = n % 256 := by
    simp [IntKind.wrap, IntKind.bits, IntKind.signed]
  rw [h3]
  omega
theorem byte_row (u s : Nat) : IntKind.u8.wrap ((u : Int).fdiv (2 ^ s)) = ((byteAt' u s).toNat : Int) := by
  rw [wrap_u8]
  unfold smallB byteAt'
  have h : ((u : Int).fdiv (2 ^ s)) = ((u / 2 ^ s : Nat) : Int) := by
    rw [Int.fdiv_eq_ediv_of_nonneg _ (by exact_mod_cast Nat.zero_le _)]
    push_cast
    rfl
  rw [h]
  congr 1
  have h2 : (((u / 2 ^ s : Nat) : Int) % 256).toNat = (u / 2 ^ s) % 256 := by omega
  rw [h2]
  rw [UInt8.toNat_ofNat', UInt8.toNat_ofNat']
  omega
def inNum (n : Int) : Prop := -4611686018427387904 ≤ n ∧ n < 4611686018427387904
theorem numU_conv {n : Int} (h : inNum n) : IntKind.u64.wrap (IntKind.i64.wrap (n + 4611686018427387904)) = (numU n : Int) := by
  unfold inNum at h
  rw [IntWalk.i64_in _ (by omega)]
  unfold numU
  simp [IntKind.wrap, IntKind.bits, IntKind.signed]
  omega
abbrev wHp (l : List UInt8) : Hp := [some (.box 90 [.ar 1]), some (.arr 5 1 (bR l))]
theorem wsmall_c (l : List UInt8) (n : Int) (hl : l.length ≤ 1000000) : DetCall Try.prog G 26 1 (wHp l) [.one (.ptr 0 0), iV n] (.tup []) (wHp (l ++ [smallB n])) := by
  refine gcallc mixed Try.func26 ac_wire_writer_small ?_
  have h1 := bR_len l
  have h2 := bR_ul l
  have h3 := bR_app l [smallB n]
  have h4 : bR [smallB n] = [[.lit (.int .u8 ((smallB n).toNat : Int))]] := rfl
  unfold wHp
  rw [h3, h4]
  have h5 := wrap_u8 n
  repeat' (first | (with_reducible first | refine Cn (fun h => ?_) fun h => ?_ | refine And.intro ?_ ?_ | refine wR ?_ | exact wr _ _ | refine wa ?_ | apply awp_join) | (with_reducible refine CallZ.z ?_) | simp -dsimp [go_sem, h1, h2, h5])
  all_goals first | omega | (simp [UL]; done)
theorem wnumber_c (l : List UInt8) (n : Int) (hl : l.length ≤ 1000000) (hn : inNum n) : DetCall Try.prog G 25 1 (wHp l) [.one (.ptr 0 0), iV n] (.tup []) (wHp (l ++ numB n)) := by
  refine gcallc mixed Try.func25 ac_wire_writer_number ?_
  have hu := numU_conv hn
  unfold wHp
  repeat' (first | (with_reducible first | refine Cn (fun h => ?_) fun h => ?_ | refine And.intro ?_ ?_ | refine wR ?_ | exact wr _ _ | refine wa ?_ | apply awp_join) | (with_reducible refine CallZ.z ?_) | simp -dsimp [go_sem, hu])
  refine awp_loop (fun j : Nat => ⟨[(0, .one (.ptr 0 0)), (4, .one (.v (.lit (.int .u64 (numU n))))), (5, iV (56 - 8 * j))], G, wHp (l ++ (numB n).take j)⟩) (fun j => j ≤ 8) (fun j => 8 - j) 0 (weak_auto ?_) (Nat.zero_le _) ?_
  · unfold wHp
    simp -dsimp [go_sem]
  · intro j hj
    have h1 := bR_len (l ++ (numB n).take j)
    have h2 := bR_ul (l ++ (numB n).take j)
    have hlen : (l ++ (numB n).take j).length ≤ 1000008 := by simp; omega
    unfold wHp
    simp -dsimp [go_sem]
    refine Cnd.intro (fun h => ?_) (fun h => ?_)
    · have hlt : j < 8 := by simp at h; omega
      have e1 : IntKind.i64.wrap (56 - 8 * (j : Int) - 8) = 56 - 8 * ((j + 1 : Nat) : Int) := by rw [IntWalk.i64_in _ (by omega)]; omega
      have e2 : IntKind.u8.wrap ((numU n : Int).fdiv (2 ^ min (56 - 8 * (j : Int)).toNat 64)) = ((byteAt' (numU n) (56 - 8 * j)).toNat : Int) := by
        rw [show min (56 - 8 * (j : Int)).toNat 64 = 56 - 8 * j by omega]; exact byte_row _ _
      have e3 : bR (l ++ (numB n).take (j + 1)) = bR (l ++ (numB n).take j) ++ [[.lit (.int .u8 ((byteAt' (numU n) (56 - 8 * j)).toNat : Int))]] := by
        have : (numB n).take (j + 1) = (numB n).take j ++ [byteAt' (numU n) (56 - 8 * j)] := by
          have hc : j = 0 ∨ j = 1 ∨ j = 2 ∨ j = 3 ∨ j = 4 ∨ j = 5 ∨ j = 6 ∨ j = 7 := by omega
          rcases hc with rfl | rfl | rfl | rfl | rfl | rfl | rfl | rfl <;> rfl
        rw [this, ← List.append_assoc, bR_app]; rfl
      repeat' (first | (with_reducible first | refine Cn (fun h => ?_) fun h => ?_ | refine And.intro ?_ ?_ | refine wR ?_ | exact wr _ _ | refine wa ?_ | apply awp_join) | (with_reducible refine CallZ.z ?_) | simp -dsimp [go_sem, h1, h2, e1, e2])
      all_goals first | omega | (with_reducible refine Again.auto (j + 1) ?_ ?_ ?_) | (simp [UL]; done) | skip
      · simp -dsimp [go_sem, e3]
      · exact hlt
      · show 8 - (j + 1) < 8 - j
        omega
    · have hj8 : j = 8 := by simp at h; omega
      subst hj8
      have e3 : (numB n).take 8 = numB n := rfl
      rw [e3]
      simp -dsimp [go_sem]
theorem wtext_c (l : List UInt8) (t : ByteArray) (hl : l.length ≤ 900000) (ht : t.size ≤ 1000) : DetCall Try.prog G 27 1 (wHp l) [.one (.ptr 0 0), sV t] (.tup []) (wHp (l ++ textB t)) := by
  refine gcallc mixed Try.func27 ac_wire_writer_text ?_
  have h1 := bR_len (l ++ [smallB t.size])
  have h2 := bR_ul (l ++ [smallB t.size])
  have h3 : bR (l ++ textB t) = bR (l ++ [smallB t.size]) ++ bR t.data.toList := by rw [← bR_app]; simp [textB]
  have h4 := bR_ul t.data.toList
  have h5 := bR_len t.data.toList
  have h6 : t.data.toList.length = t.size := by rw [Array.length_toList]; rfl
  have h7 : (l ++ [smallB t.size]).length ≤ 900001 := by simp; omega
  unfold wHp
  rw [h3]
  repeat' (first | (with_reducible first | refine Cn (fun h => ?_) fun h => ?_ | refine And.intro ?_ ?_ | refine wR ?_ | exact wr _ _ | refine wa ?_ | apply awp_join | refine qg (wsmall_c l _ (by omega)) ?_ | refine qgd (wsmall_c l _ (by omega)) ?_) | (with_reducible refine CallZ.z ?_) | simp -dsimp [go_sem, h1, h2, h4, h5, bR_str])
  all_goals omega
theorem textB_len (t : ByteArray) : (textB t).length = t.size + 1 := by unfold textB; rw [List.length_cons, Array.length_toList]; rfl
theorem numB_len (n : Int) : (numB n).length = 8 := rfl
end Go.Proofs.Ytpdcfljbabpakaa

/- Bytes: reading is the other way of writing; plain laws. -/
set_option linter.unusedVariables false
set_option linter.unusedSimpArgs false
set_option maxRecDepth 100000
set_option maxHeartbeats 8000000
namespace Go.Proofs.Ytpdcfljbabpakaa
open Go Go.RowKit Go.Proofs.AE
structure Rd where
  rest : List UInt8
  short : Bool
def takeR (r : Rd) (n : Nat) : List UInt8 × Rd := if r.short = true ∨ r.rest.length < n then ([], ⟨r.rest, true⟩) else (r.rest.take n, ⟨r.rest.drop n, false⟩)
def uOf (l : List UInt8) : Nat := l.foldl (fun u c => (u * 256 + c.toNat) % 18446744073709551616) 0
def numOf (l : List UInt8) : Int := IntKind.i64.wrap ((uOf l : Int) - 4611686018427387904)
def numR (r : Rd) : Int × Rd := (numOf (takeR r 8).1, (takeR r 8).2)
def smallR (r : Rd) : Nat × Rd := ((match (takeR r 1).1 with | c :: _ => c.toNat | [] => 0), (takeR r 1).2)
def txtR (r : Rd) : ByteArray × Rd := (⟨(takeR (smallR r).2 (smallR r).1).1.toArray⟩, (takeR (smallR r).2 (smallR r).1).2)
/-! ### there and back -/
theorem takeR_app (b rest : List UInt8) {n : Nat} (h : b.length = n) : takeR ⟨b ++ rest, false⟩ n = (b, ⟨rest, false⟩) := by
  subst h
  unfold takeR
  rw [if_neg (by simp), List.take_left' rfl, List.drop_left' rfl]
theorem uOf_numB {n : Int} (h : inNum n) : uOf (numB n) = numU n := by
  have hu : numU n < 18446744073709551616 := by unfold inNum at h; unfold numU; omega
  unfold uOf numB byteAt'
  generalize numU n = u at hu
  simp only [List.foldl_cons, List.foldl_nil, UInt8.toNat_ofNat']
  omega
theorem numOf_numB {n : Int} (h : inNum n) : numOf (numB n) = n := by
  unfold numOf
  rw [uOf_numB h]
  unfold inNum at h
  unfold numU
  rw [IntWalk.i64_in _ (by omega)]
  omega
theorem numR_app {n : Int} (h : inNum n) (rest : List UInt8) : numR ⟨numB n ++ rest, false⟩ = (n, ⟨rest, false⟩) := by
  unfold numR
  rw [takeR_app (numB n) rest (n := 8) rfl, numOf_numB h]
theorem smallR_app (c : UInt8) (rest : List UInt8) : smallR ⟨c :: rest, false⟩ = (c.toNat, ⟨rest, false⟩) := by
  have := takeR_app [c] rest (n := 1) rfl
  unfold smallR
  rw [show c :: rest = [c] ++ rest from rfl, this]
theorem smallB_toNat {n : Int} (h : 0 ≤ n) (h2 : n < 256) : (smallB n).toNat = n.toNat := by
  unfold smallB
  rw [UInt8.toNat_ofNat']; omega
theorem txtR_app {t : ByteArray} (h : t.size ≤ 255) (rest : List UInt8) : txtR ⟨textB t ++ rest, false⟩ = (t, ⟨rest, false⟩) := by
  have h1 : smallR ⟨textB t ++ rest, false⟩ = (t.size, ⟨t.data.toList ++ rest, false⟩) := by
    unfold textB
    rw [List.cons_append, smallR_app, smallB_toNat (by omega) (by omega)]
    simp
  unfold txtR
  rw [h1, takeR_app _ _ (by rw [Array.length_toList]; rfl)]
theorem uOf_lt (l : List UInt8) : uOf l < 18446744073709551616 := by
  unfold uOf
  rcases l.eq_nil_or_concat with rfl | ⟨a, b, rfl⟩
  · simp
  · rw [List.concat_eq_append, List.foldl_append]
    simp only [List.foldl_cons, List.foldl_nil]
    omega
theorem uOf_snoc (l : List UInt8) (c : UInt8) : uOf (l ++ [c]) = (uOf l * 256 + c.toNat) % 18446744073709551616 := by
  unfold uOf
  rw [List.foldl_append]
  rfl
theorem takeR_len (r : Rd) (n : Nat) : (takeR r n).1.length ≤ n := by
  unfold takeR
  split
  · simp
  · simp; omega
theorem takeR_short (l : List UInt8) (n : Nat) : (takeR ⟨l, true⟩ n).2.short = true := by simp [takeR]
theorem takeR_ext {l1 : List UInt8} (l2 : List UInt8) {n : Nat} (h : (takeR ⟨l1, false⟩ n).2.short = false) : takeR ⟨l1 ++ l2, false⟩ n = ((takeR ⟨l1, false⟩ n).1, ⟨(takeR ⟨l1, false⟩ n).2.rest ++ l2, false⟩) := by
  unfold takeR at h ⊢
  split at h
  · cases h
  · rename_i h1
    have h2 : ¬ l1.length < n := by simpa using h1
    rw [if_neg (by simp; omega), if_neg h1]
    simp only
    rw [List.take_append_of_le_length (by omega), List.drop_append_of_le_length (by omega)]
/-- Reading on: once short, always short; what is read of the beginning is read of the whole. -/
structure Reads {α : Type} (f : Rd → α × Rd) : Prop where
  stuck : ∀ l, (f ⟨l, true⟩).2.short = true
  ext : ∀ l1 l2, (f ⟨l1, false⟩).2.short = false → f ⟨l1 ++ l2, false⟩ = ((f ⟨l1, false⟩).1, ⟨(f ⟨l1, false⟩).2.rest ++ l2, false⟩)
theorem Reads.take (n : Nat) : Reads (fun r => takeR r n) := ⟨fun l => takeR_short l n, fun l1 l2 h => takeR_ext l2 h⟩
theorem Reads.map {α β : Type} {f : Rd → α × Rd} (h : Reads f) (g : α → β) : Reads (fun r => (g (f r).1, (f r).2)) :=
  ⟨fun l => h.stuck l, fun l1 l2 hs => by
    have := h.ext l1 l2 hs
    simp only [this]⟩
theorem Reads.bind {α β γ : Type} {f : Rd → α × Rd} {g : α → Rd → β × Rd} (c : α → β → γ) (h : Reads f) (hg : ∀ a, Reads (g a)) : Reads (fun r => (c (f r).1 (g (f r).1 (f r).2).1, (g (f r).1 (f r).2).2)) := by
  refine ⟨fun l => ?_, fun l1 l2 hs => ?_⟩
  · have h1 := h.stuck l
    generalize f ⟨l, true⟩ = p at *
    obtain ⟨a, r, s⟩ := p
    simp only at h1 ⊢
    subst h1
    exact (hg a).stuck r
  · simp only at hs ⊢
    have h1 : (f ⟨l1, false⟩).2.short = false := by
      cases hq : (f ⟨l1, false⟩).2.short with
      | false => rfl
      | true =>
        generalize f ⟨l1, false⟩ = p at *
        obtain ⟨a, r, s⟩ := p
        simp only at hq hs
        subst hq
        rw [(hg a).stuck r] at hs; cases hs
    rw [h.ext l1 l2 h1]
    generalize f ⟨l1, false⟩ = p at *
    obtain ⟨a, r, s⟩ := p
    simp only at h1 hs ⊢
    subst h1
    rw [(hg a).ext r l2 hs]
theorem reads_num : Reads numR := (Reads.take 8).map numOf
theorem reads_small : Reads smallR := (Reads.take 1).map fun l => match l with | c :: _ => c.toNat | [] => 0
theorem reads_text : Reads txtR := Reads.bind (f := smallR) (g := fun n r => takeR r n) (fun _ b => (⟨b.toArray⟩ : ByteArray)) reads_small fun n => Reads.take n
theorem numB_numOf {b : List UInt8} (hb : b.length = 8) (h : inNum (numOf b)) : numB (numOf b) = b := by
  have hu := uOf_lt b
  have e : ((uOf b : Nat) : Int) - 4611686018427387904 = numOf b := by
    unfold numOf at h ⊢
    unfold inNum at h
    have hw : IntKind.i64.wrap ((uOf b : Int) - 4611686018427387904) = (uOf b : Int) - 4611686018427387904 ∨ IntKind.i64.wrap ((uOf b : Int) - 4611686018427387904) = (uOf b : Int) - 4611686018427387904 - 18446744073709551616 := by
      by_cases hlt : (uOf b : Int) - 4611686018427387904 ≤ 9223372036854775807
      · left; exact IntWalk.i64_in _ (by omega)
      · right
        simp [IntKind.wrap, IntKind.bits, IntKind.signed]
        omega
    omega
  have hn : numU (numOf b) = uOf b := by unfold numU; omega
  unfold numB
  rw [hn]
  match b, hb with
  | [b7, b6, b5, b4, b3, b2, b1, b0], _ =>
    have l7 := b7.toNat_lt; have l6 := b6.toNat_lt; have l5 := b5.toNat_lt; have l4 := b4.toNat_lt
    have l3 := b3.toNat_lt; have l2 := b2.toNat_lt; have l1 := b1.toNat_lt; have l0 := b0.toNat_lt
    have hU : uOf [b7, b6, b5, b4, b3, b2, b1, b0] = ((((((b7.toNat * 256 + b6.toNat) * 256 + b5.toNat) * 256 + b4.toNat) * 256 + b3.toNat) * 256 + b2.toNat) * 256 + b1.toNat) * 256 + b0.toNat := by
      simp only [uOf, List.foldl_cons, List.foldl_nil]
      omega
    rw [hU]
    have key : ∀ (u s : Nat) (c : UInt8), u / 2 ^ s % 256 = c.toNat → byteAt' u s = c := by
      intro u s c h
      apply UInt8.toNat_inj.1
      unfold byteAt'
      rw [UInt8.toNat_ofNat']; omega
    rw [key _ 56 b7 (by omega), key _ 48 b6 (by omega), key _ 40 b5 (by omega), key _ 32 b4 (by omega), key _ 24 b3 (by omega), key _ 16 b2 (by omega), key _ 8 b1 (by omega), key _ 0 b0 (by omega)]
theorem take_eats {l : List UInt8} {n : Nat} (h : (takeR ⟨l, false⟩ n).2.short = false) : (takeR ⟨l, false⟩ n).1.length = n ∧ l = (takeR ⟨l, false⟩ n).1 ++ (takeR ⟨l, false⟩ n).2.rest := by
  unfold takeR at h ⊢
  split at h
  · cases h
  · rename_i h1
    rw [if_neg h1]
    have h2 : ¬ l.length < n := by simpa using h1
    exact ⟨by simp; omega, (List.take_append_drop n l).symm⟩
theorem num_eats {l : List UInt8} (h : (numR ⟨l, false⟩).2.short = false) (hn : inNum (numR ⟨l, false⟩).1) : l = numB (numR ⟨l, false⟩).1 ++ (numR ⟨l, false⟩).2.rest := by
  unfold numR at h hn ⊢
  obtain ⟨h1, h2⟩ := take_eats h
  rw [numB_numOf h1 hn]
  exact h2
theorem small_eats {l : List UInt8} (h : (smallR ⟨l, false⟩).2.short = false) : l = smallB (smallR ⟨l, false⟩).1 :: (smallR ⟨l, false⟩).2.rest ∧ (smallR ⟨l, false⟩).1 < 256 := by
  unfold smallR at h ⊢
  obtain ⟨h1, h2⟩ := take_eats h
  generalize takeR ⟨l, false⟩ 1 = p at *
  obtain ⟨b, r⟩ := p
  simp only at h1 h2 ⊢
  match b, h1 with
  | [c], _ =>
    have := c.toNat_lt
    simp only
    refine ⟨?_, this⟩
    have hc : smallB (c.toNat : Int) = c := by
      apply UInt8.toNat_inj.1
      rw [smallB_toNat (by omega) (by omega)]
      simp
    rw [hc]; exact h2
theorem text_eats {l : List UInt8} (h : (txtR ⟨l, false⟩).2.short = false) : l = textB (txtR ⟨l, false⟩).1 ++ (txtR ⟨l, false⟩).2.rest := by
  unfold txtR at h ⊢
  have hs : (smallR ⟨l, false⟩).2.short = false := by
    cases hq : (smallR ⟨l, false⟩).2.short with
    | false => rfl
    | true =>
      generalize smallR ⟨l, false⟩ = p at *
      obtain ⟨a, r, s⟩ := p
      simp only at hq h
      subst hq
      rw [takeR_short] at h; cases h
  obtain ⟨h1, h2⟩ := small_eats hs
  generalize smallR ⟨l, false⟩ = p at *
  obtain ⟨n, r, s⟩ := p
  simp only at hs h h1 h2 ⊢
  subst hs
  obtain ⟨h3, h4⟩ := take_eats h
  unfold textB
  have h5 : ((⟨(takeR ⟨r, false⟩ n).1.toArray⟩ : ByteArray).size : Int) = n := by
    show (((takeR ⟨r, false⟩ n).1.toArray.size : Nat) : Int) = n
    simp [h3]
  rw [h5, h1]
  simp only [List.cons_append]
  congr 1
theorem num_eats' {r : Rd} (h : (numR r).2.short = false) (hn : inNum (numR r).1) : r.short = false ∧ r.rest = numB (numR r).1 ++ (numR r).2.rest := by
  obtain ⟨l, s⟩ := r
  cases s with
  | true => rw [reads_num.stuck l] at h; cases h
  | false => exact ⟨rfl, num_eats h hn⟩
theorem small_eats' {r : Rd} (h : (smallR r).2.short = false) : r.short = false ∧ r.rest = smallB (smallR r).1 :: (smallR r).2.rest ∧ (smallR r).1 < 256 := by
  obtain ⟨l, s⟩ := r
  cases s with
  | true => rw [reads_small.stuck l] at h; cases h
  | false => exact ⟨rfl, small_eats h⟩
theorem text_eats' {r : Rd} (h : (txtR r).2.short = false) : r.short = false ∧ r.rest = textB (txtR r).1 ++ (txtR r).2.rest := by
  obtain ⟨l, s⟩ := r
  cases s with
  | true => rw [reads_text.stuck l] at h; cases h
  | false => exact ⟨rfl, text_eats h⟩
end Go.Proofs.Ytpdcfljbabpakaa
