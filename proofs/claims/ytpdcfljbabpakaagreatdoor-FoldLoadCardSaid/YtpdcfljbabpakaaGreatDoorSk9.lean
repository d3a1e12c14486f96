/- Texts joined. -/
import Derived.Test.YtpdcfljbabpakaaGreatDoorSk8
set_option linter.unusedVariables false
set_option linter.unusedSimpArgs false
set_option maxRecDepth 100000
set_option maxHeartbeats 8000000
namespace Go.Proofs.YtpdcfljbabpakaaGreatDoor
open Go Go.RowKit Go.Proofs.AE
variable {G : Nat → AV}
structure Ent where
  key : ByteArray
  val : Val
  till : Int
structure Sto where
  now : Int
  ents : List Ent
def Val.v (v : Val) : List V := [.lit (.int .i64 v.kind), .lit (.string v.text), .lit (.int .i64 v.count), .sl (pR v.pairs), .sl (strRows v.items), .sl (sR v.scores)]
def Ent.row (e : Ent) : List V := [.lit (.string e.key), .lit (.int .i64 e.val.kind), .lit (.string e.val.text), .lit (.int .i64 e.val.count), .sl (pR e.val.pairs), .sl (strRows e.val.items), .sl (sR e.val.scores), .lit (.int .i64 e.till)]
def Ent.c (e : Ent) : List C := [sC e.key, iC e.val.kind, sC e.val.text, iC e.val.count, .v (.sl (pR e.val.pairs)), .v (.sl (strRows e.val.items)), .v (.sl (sR e.val.scores)), iC e.till]
abbrev eR (l : List Ent) : List (List V) := l.map Ent.row
def Sto.c (s : Sto) : List C := [iC s.now, .v (.sl (eR s.ents))]
theorem ul_e (l : List Ent) : UL 8 (eR l) := by
  intro r hr
  obtain ⟨y, _, rfl⟩ := List.mem_map.1 hr
  rfl
def Sto.Small (s : Sto) : Prop := s.ents.length ≤ 1000 ∧ ∀ e ∈ s.ents, e.val.Small
def entBad (now : Int) (e : Ent) : Bool := !okField e.key || checkV e.val != 0 || (e.till != 0 && (decide (e.till ≤ now) || decide (1073741824 < e.till)))
def bE (a b : Ent) : Int := cmpB a.key b.key
def checkS (s : Sto) : Int :=
  if s.now < 0 ∨ 1073741824 < s.now ∨ 12 < s.ents.length then 13
  else if s.ents.any (entBad s.now) = true then 13
  else if rising bE s.ents = true then 0 else 13
def goneE (now : Int) (e : Ent) : Bool := e.till != 0 && decide (e.till ≤ now)
def findE (l : List Ent) (k : ByteArray) : Nat := plc (fun e => decide (cmpB e.key k < 0)) l
def inE (l : List Ent) (k : ByteArray) : Bool := match l[findE l k]? with | some e => cmpB e.key k == 0 | none => false
def setE (l : List Ent) (c : Cmd) (v : Val) : List Ent :=
  match (if inE l c.key then l[findE l c.key]? else none) with
  | some e => l.set (findE l c.key) ⟨e.key, v, if c.kind = 1 then 0 else e.till⟩
  | none => insAt l (findE l c.key) ⟨c.key, v, 0⟩
def timedE (now : Int) (l : List Ent) (c : Cmd) : List Ent × Rep :=
  match (if inE l c.key then l[findE l c.key]? else none) with
  | none => (l, failR 5)
  | some e =>
    if c.kind = 21 then (l, toldR (if e.till - now < 0 then 0 else e.till - now))
    else if c.n < 1 ∨ 1073741824 - now < c.n then (l, failR 2)
    else (l.set (findE l c.key) ⟨e.key, e.val, now + c.n⟩, toldR 0)
def oldV (l : List Ent) (c : Cmd) : Val := match (if inE l c.key then l[findE l c.key]? else none) with | some e => e.val | none => zeroV
def valE (l : List Ent) (c : Cmd) : List Ent × Rep :=
  if (DoV (oldV l c) c).2.1.code ≠ 0 then (l, (DoV (oldV l c) c).2.1)
  else if (DoV (oldV l c) c).1.kind = 0 ∧ inE l c.key = true then (delAt l (findE l c.key), (DoV (oldV l c) c).2.1)
  else if inE l c.key = false ∧ l.length = 12 then (l, failR 6)
  else if (DoV (oldV l c) c).1.kind ≠ 0 then (setE l c (DoV (oldV l c) c).1, (DoV (oldV l c) c).2.1)
  else (l, (DoV (oldV l c) c).2.1)
def doE (now : Int) (l : List Ent) (c : Cmd) : List Ent × Rep :=
  if c.kind = 22 then (l, ⟨0, ⟨#[]⟩, 0, l.map Ent.key⟩)
  else if c.kind = 19 then (if inE l c.key then (delAt l (findE l c.key), toldR 1) else (l, toldR 0))
  else if c.kind = 20 ∨ c.kind = 21 then timedE now l c
  else valE l c
def zeroS : Sto := ⟨0, []⟩
def maxI (a b : Int) : Int := if b < a then a else b
def ApplyS (s : Sto) (time : Int) (c : Cmd) : Sto × Rep × Int :=
  if checkS s ≠ 0 then (zeroS, toldR 0, checkS s)
  else if time < 0 ∨ 1073741824 < time then (zeroS, toldR 0, 2)
  else if checkC c ≠ 0 then (zeroS, toldR 0, checkC c)
  else (⟨maxI s.now time, (doE (maxI s.now time) (s.ents.filter fun e => !goneE (maxI s.now time) e) c).1⟩, (doE (maxI s.now time) (s.ents.filter fun e => !goneE (maxI s.now time) e) c).2, 0)
structure OkE (now : Int) (e : Ent) : Prop where
  key : okField e.key = true
  val : OkV e.val
  till : e.till = 0 ∨ now < e.till ∧ e.till ≤ 1073741824
theorem entBad_iff {now : Int} {e : Ent} : entBad now e = false ↔ OkE now e := by
  unfold entBad
  constructor
  · intro h
    simp only [Bool.or_eq_false_iff, Bool.not_eq_false', bne_eq_false_iff_eq, Bool.and_eq_false_iff, decide_eq_false_iff_not] at h
    exact ⟨h.1.1, checkV_iff.1 h.1.2, by rcases h.2 with h | h; exact .inl h; exact .inr (by omega)⟩
  · rintro ⟨h1, h2, h3⟩
    simp only [Bool.or_eq_false_iff, Bool.not_eq_false', bne_eq_false_iff_eq, Bool.and_eq_false_iff, decide_eq_false_iff_not]
    exact ⟨⟨h1, checkV_iff.2 h2⟩, by rcases h3 with h | h; exact .inl h; exact .inr (by omega)⟩
def Rise (l : List Ent) : Prop := l.Pairwise (fun a b => cmpB a.key b.key < 0)
structure OkS (s : Sto) : Prop where
  now : 0 ≤ s.now ∧ s.now ≤ 1073741824
  len : s.ents.length ≤ 12
  all : ∀ e ∈ s.ents, OkE s.now e
  rise : Rise s.ents
theorem bE_tr : ∀ a b c : Ent, bE a b < 0 → bE b c < 0 → bE a c < 0 := fun a b c h1 h2 => cmpB_tr _ _ _ h1 h2
theorem checkS_iff {s : Sto} : checkS s = 0 ↔ OkS s := by
  unfold checkS
  constructor
  · intro h
    split at h
    · cases h
    · rename_i h1
      split at h
      · cases h
      · rename_i h2
        split at h
        · rename_i h3
          refine ⟨by omega, by omega, fun e he => entBad_iff.1 ?_, (rising_iff bE_tr).1 h3⟩
          cases hb : entBad s.now e with
          | false => rfl
          | true => exact absurd (List.any_eq_true.2 ⟨e, he, hb⟩) h2
        · cases h
  · rintro ⟨h1, h2, h3, h4⟩
    rw [if_neg (by omega), if_neg, if_pos ((rising_iff bE_tr).2 h4)]
    intro h
    obtain ⟨e, he, hb⟩ := List.any_eq_true.1 h
    rw [entBad_iff.2 (h3 e he)] at hb; cases hb
theorem OkS.small {s : Sto} (h : OkS s) : s.Small := ⟨by have := h.len; omega, fun e he => (h.all e he).val.small⟩
def getE (l : List Ent) (k : ByteArray) : Option Ent := l.find? fun e => decide (e.key = k)
theorem getE_none {l : List Ent} {k : ByteArray} : getE l k = none ↔ ∀ e ∈ l, e.key ≠ k := by
  unfold getE
  rw [List.find?_eq_none]
  simp
theorem key_ne {a b : ByteArray} (h : cmpB a b < 0) : a ≠ b := fun e => by
  subst e
  rw [cmpB_self] at h
  omega
theorem getE_append (a b : List Ent) (k : ByteArray) : getE (a ++ b) k = (getE a k).or (getE b k) := List.find?_append
theorem split_E {l : List Ent} {i : Nat} {x : Ent} (h : l[i]? = some x) : l = l.take i ++ x :: l.drop (i + 1) := by
  have hl := (List.getElem?_eq_some_iff.1 h).1
  have hx := (List.getElem?_eq_some_iff.1 h).2
  rw [← hx, ← List.drop_eq_getElem_cons hl, List.take_append_drop]
theorem rise_split {a b : List Ent} {x : Ent} (h : Rise (a ++ x :: b)) : getE a x.key = none ∧ getE b x.key = none := by
  obtain ⟨h1, h2, h3⟩ := List.pairwise_append.1 h
  exact ⟨getE_none.2 fun e he => key_ne (h3 e he _ (List.mem_cons_self ..)), getE_none.2 fun e he => fun e2 => key_ne ((List.pairwise_cons.1 h2).1 e he) e2.symm⟩
theorem getE_at {l : List Ent} (hr : Rise l) {i : Nat} {x : Ent} (hi : l[i]? = some x) : getE l x.key = some x := by
  have hs := split_E hi
  rw [hs] at hr ⊢
  obtain ⟨h1, h2⟩ := rise_split hr
  rw [getE_append, h1]
  simp [getE]
theorem inE_some {l : List Ent} {k : ByteArray} (h : inE l k = true) : ∃ e, l[findE l k]? = some e ∧ e.key = k := by
  unfold inE at h
  cases hx : l[findE l k]? with
  | none => rw [hx] at h; cases h
  | some a => rw [hx] at h; exact ⟨a, rfl, cmpB_eq (by simpa using h)⟩
theorem findE_lt {l : List Ent} {k : ByteArray} : ∀ a ∈ l.take (findE l k), cmpB a.key k < 0 := fun a ha => by
  simpa using take_lt (fun e : Ent => decide (cmpB e.key k < 0)) l a ha
theorem findE_ge {l : List Ent} (hr : Rise l) {k : ByteArray} : ∀ (j : Nat) a, l[j]? = some a → findE l k ≤ j → 0 ≤ cmpB a.key k := fun j a h1 h2 => by
  have := plc_ge (cmp := bE) (fun e : Ent => decide (cmpB e.key k < 0)) bE_tr (fun a b h1 h2 => by
    simp only [decide_eq_true_eq] at h2 ⊢
    exact cmpB_tr _ _ _ h1 h2) l ((rising_iff bE_tr).2 hr) j a h1 h2
  simpa using this
theorem findE_le (l : List Ent) (k : ByteArray) : findE l k ≤ l.length := plc_le _ _
theorem findE_drop {l : List Ent} (hr : Rise l) {k : ByteArray} (h : inE l k = false) : ∀ b ∈ l.drop (findE l k), cmpB k b.key < 0 := by
  intro b hb
  obtain ⟨j, hj, hbj⟩ := mem_drop_get hb
  have hge := findE_ge hr j b hbj hj
  have hne : cmpB b.key k ≠ 0 := by
    intro e
    rcases Nat.lt_or_ge (findE l k) j with hlt | hge'
    · have hlen := lt_of_getElem? hbj
      have ha : l[findE l k]? = some l[findE l k] := List.getElem?_eq_getElem (by omega)
      have h1 := findE_ge hr _ _ ha (Nat.le_refl _)
      have h2 : cmpB l[findE l k].key l[j].key < 0 := List.pairwise_iff_getElem.1 hr _ _ (by omega) hlen hlt
      rw [List.getElem?_eq_getElem hlen] at hbj
      have hb' : l[j] = b := Option.some.inj hbj
      rw [hb'] at h2
      have h3 := cmpB_eq e
      rw [h3] at h2; omega
    · have : j = findE l k := by omega
      subst this
      unfold inE at h
      rw [hbj] at h
      simp at h
      exact h e
  rw [cmpB_anti]; omega
theorem inE_get {l : List Ent} (hr : Rise l) (k : ByteArray) : inE l k = (getE l k).isSome ∧ (if inE l k then l[findE l k]? else none) = getE l k := by
  cases h : inE l k with
  | true =>
    obtain ⟨e, h1, h2⟩ := inE_some h
    have := getE_at hr h1
    rw [h2] at this
    rw [this]
    exact ⟨rfl, h1⟩
  | false =>
    have h1 := findE_drop hr h
    have h2 := findE_lt (l := l) (k := k)
    have : getE l k = none := getE_none.2 fun e he => by
      have hm : e ∈ l.take (findE l k) ++ l.drop (findE l k) := by rw [List.take_append_drop]; exact he
      rcases List.mem_append.1 hm with hm | hm
      · exact key_ne (h2 e hm)
      · exact fun e2 => key_ne (h1 e hm) e2.symm
    rw [this]
    exact ⟨rfl, rfl⟩
theorem getE_mem {l : List Ent} {k : ByteArray} {e : Ent} (h : getE l k = some e) : e ∈ l ∧ e.key = k := by
  unfold getE at h
  exact ⟨List.mem_of_find?_eq_some h, by simpa using List.find?_some h⟩
theorem getE_ins {l : List Ent} (hr : Rise l) {x : Ent} (h : inE l x.key = false) : (∀ k, getE (insAt l (findE l x.key) x) k = if k = x.key then some x else getE l k) ∧ Rise (insAt l (findE l x.key) x) := by
  have hl : getE l x.key = none := by have := (inE_get hr x.key).1; rw [h] at this; cases hg : getE l x.key with | none => rfl | some => rw [hg] at this; cases this
  refine ⟨fun k => ?_, ?_⟩
  · have hg : getE l k = (getE (l.take (findE l x.key)) k).or (getE (l.drop (findE l x.key)) k) := by rw [← getE_append, List.take_append_drop]
    unfold insAt
    rw [getE_append]
    by_cases hk : k = x.key
    · subst hk
      have : getE (l.take (findE l x.key)) x.key = none := getE_none.2 fun e he => key_ne (findE_lt e he)
      rw [this]
      simp [getE]
    · have : getE (x :: l.drop (findE l x.key)) k = getE (l.drop (findE l x.key)) k := by
        unfold getE
        rw [List.find?_cons_of_neg]
        simpa using fun e => hk e.symm
      rw [this, if_neg hk, hg]
  · exact pair_ins hr (fun a ha => findE_lt a ha) (fun b hb => findE_drop hr h b hb)
theorem getE_set {l : List Ent} (hr : Rise l) {i : Nat} {x y : Ent} (hi : l[i]? = some x) (hk : y.key = x.key) : (∀ k, getE (l.set i y) k = if k = x.key then some y else getE l k) ∧ Rise (l.set i y) := by
  have hs := split_E hi
  have hlt := (List.getElem?_eq_some_iff.1 hi).1
  have hr' := hr
  rw [hs] at hr'
  obtain ⟨h1, h2⟩ := rise_split hr'
  have hset : l.set i y = l.take i ++ y :: l.drop (i + 1) := by rw [List.set_eq_take_append_cons_drop, if_pos hlt]
  refine ⟨fun k => ?_, ?_⟩
  · have hg : getE l k = (getE (l.take i) k).or (getE (x :: l.drop (i + 1)) k) := by rw [← getE_append, ← hs]
    rw [hset, getE_append, hg]
    by_cases h : k = x.key
    · subst h; rw [h1, if_pos rfl]; simp [getE, hk]
    · rw [if_neg h]
      congr 1
      unfold getE
      rw [List.find?_cons_of_neg, List.find?_cons_of_neg]
      · simpa using fun e => h e.symm
      · rw [hk]; simpa using fun e => h e.symm
  · rw [hset]
    obtain ⟨a1, a2, a3⟩ := List.pairwise_append.1 hr'
    obtain ⟨b1, b2⟩ := List.pairwise_cons.1 a2
    refine List.pairwise_append.2 ⟨a1, List.pairwise_cons.2 ⟨fun e he => by rw [hk]; exact b1 e he, b2⟩, fun e he f hf => ?_⟩
    rcases List.mem_cons.1 hf with rfl | hf
    · rw [hk]; exact a3 e he x (List.mem_cons_self ..)
    · exact a3 e he f (List.mem_cons_of_mem _ hf)
theorem getE_del {l : List Ent} (hr : Rise l) {i : Nat} {x : Ent} (hi : l[i]? = some x) : (∀ k, getE (delAt l i) k = if k = x.key then none else getE l k) ∧ Rise (delAt l i) := by
  have hs := split_E hi
  have hr' := hr
  rw [hs] at hr'
  obtain ⟨h1, h2⟩ := rise_split hr'
  refine ⟨fun k => ?_, hr.sublist (del_sub l i)⟩
  have hg : getE l k = (getE (l.take i) k).or (getE (x :: l.drop (i + 1)) k) := by rw [← getE_append, ← hs]
  unfold delAt
  rw [getE_append, hg]
  by_cases h : k = x.key
  · subst h; rw [h1, h2, if_pos rfl]; rfl
  · rw [if_neg h]
    congr 1
    unfold getE
    rw [List.find?_cons_of_neg]
    simpa using fun e => h e.symm
theorem vk_there {v : Val} (h : Vk v) (hk : v.kind ≠ 0) : OkV v := by
  rcases h with h | h
  · exact h
  · rw [h] at hk; exact absurd rfl hk
theorem checkC_key {c : Cmd} (hc : checkC c = 0) (hk : c.kind ≠ 22) : okField c.key = true := by
  cases hk' : okField c.key with
  | true => rfl
  | false =>
    exfalso
    have h22 : (c.kind != 22) = true := by simpa using hk
    unfold checkC checkCommand at hc
    rw [hk', h22] at hc
    repeat' split at hc
    all_goals first | (cases hc; done) | (simp at *; done)
theorem mem_getE {l : List Ent} (hr : Rise l) {e : Ent} (h : e ∈ l) : getE l e.key = some e := by
  obtain ⟨i, hi, rfl⟩ := List.getElem_of_mem h
  exact getE_at hr (List.getElem?_eq_getElem hi)
theorem insAt_len {α : Type} (l : List α) (i : Nat) (x : α) : (insAt l i x).length = l.length + 1 := insAt_length l i x
theorem delE_len {α : Type} {l : List α} {i : Nat} (h : i < l.length) : (delAt l i).length + 1 = l.length := by
  unfold delAt
  simp only [List.length_append, List.length_take, List.length_drop]; omega
def putE (l : List Ent) (c : Cmd) (v : Val) : Ent := ⟨c.key, v, match getE l c.key with | some e => if c.kind = 1 then 0 else e.till | none => 0⟩
theorem setE_spec {l : List Ent} (hr : Rise l) (c : Cmd) (v : Val) :
    (∀ k, getE (setE l c v) k = if k = c.key then some (putE l c v) else getE l k) ∧ Rise (setE l c v) ∧ (setE l c v).length = if (getE l c.key).isSome = true then l.length else l.length + 1 := by
  obtain ⟨h1, h2⟩ := inE_get hr c.key
  unfold setE putE
  cases h : inE l c.key with
  | true =>
    obtain ⟨e, h3, h4⟩ := inE_some h
    have hg := getE_at hr h3
    rw [h4] at hg
    rw [if_pos rfl, h3, hg]
    simp only
    obtain ⟨g1, g2⟩ := getE_set hr (y := ⟨e.key, v, if c.kind = 1 then 0 else e.till⟩) h3 rfl
    refine ⟨fun k => ?_, g2, by simp⟩
    rw [g1, h4]
  | false =>
    rw [h] at h1
    have hg : getE l c.key = none := by cases hg : getE l c.key with | none => rfl | some => rw [hg] at h1; cases h1
    rw [hg]
    simp only [Bool.false_eq_true, if_false]
    obtain ⟨g1, g2⟩ := getE_ins hr (x := ⟨c.key, v, 0⟩) h
    exact ⟨g1, g2, by rw [insAt_len]; rfl⟩
theorem oldV_get {l : List Ent} (hr : Rise l) (c : Cmd) : oldV l c = ((getE l c.key).map Ent.val).getD zeroV := by
  unfold oldV
  rw [(inE_get hr c.key).2]
  cases getE l c.key <;> rfl
structure Did (l : List Ent) (k : ByteArray) (x : Option Ent) (l' : List Ent) : Prop where
  rise : Rise l'
  here : getE l' k = x
  other : ∀ k', k' ≠ k → getE l' k' = getE l k'
  len : l'.length = if x.isSome = true then (if (getE l k).isSome = true then l.length else l.length + 1) else (if (getE l k).isSome = true then l.length - 1 else l.length)
theorem Did.none {l : List Ent} (hr : Rise l) (k : ByteArray) : Did l k (getE l k) l := ⟨hr, rfl, fun _ _ => rfl, by split <;> rfl⟩
theorem did_set {l : List Ent} (hr : Rise l) (c : Cmd) (v : Val) : Did l c.key (some (putE l c v)) (setE l c v) := by
  obtain ⟨h1, h2, h3⟩ := setE_spec hr c v
  exact ⟨h2, by rw [h1, if_pos rfl], fun k hk => by rw [h1, if_neg hk], h3⟩
theorem did_del {l : List Ent} (hr : Rise l) {k : ByteArray} (h : inE l k = true) : Did l k .none (delAt l (findE l k)) := by
  obtain ⟨e, h3, h4⟩ := inE_some h
  obtain ⟨g1, g2⟩ := getE_del hr h3
  have hg := getE_at hr h3
  rw [h4] at g1 hg
  refine ⟨g2, by rw [g1, if_pos rfl], fun k' hk => by rw [g1, if_neg hk], ?_⟩
  rw [hg]
  have := delE_len (lt_of_getElem? h3)
  simp
  omega
theorem did_upd {l : List Ent} (hr : Rise l) {k : ByteArray} {e : Ent} (h : getE l k = some e) (n : Int) (y : Ent) (hy : y.key = k) : Did l k (some y) (l.set (findE l k) y) := by
  have h1 := (inE_get hr k)
  rw [h] at h1
  rw [h1.1] at h1
  obtain ⟨g1, g2⟩ := getE_set hr (y := y) (i := findE l k) (x := e) (by simpa using h1.2) (by rw [hy]; exact (getE_mem h).2.symm)
  rw [(getE_mem h).2] at g1
  refine ⟨g2, by rw [g1, if_pos rfl], fun k' hk => by rw [g1, if_neg hk], ?_⟩
  rw [h]; simp
def newV (l : List Ent) (c : Cmd) : Val := (DoV (((getE l c.key).map Ent.val).getD zeroV) c).1
def newR (l : List Ent) (c : Cmd) : Rep := (DoV (((getE l c.key).map Ent.val).getD zeroV) c).2.1
theorem valE_spec {l : List Ent} (hr : Rise l) (c : Cmd) :
    Did l c.key (if (newR l c).code ≠ 0 then getE l c.key else if (newV l c).kind = 0 ∧ (getE l c.key).isSome = true then .none else if (getE l c.key).isSome = false ∧ l.length = 12 then getE l c.key else if (newV l c).kind ≠ 0 then some (putE l c (newV l c)) else getE l c.key) (valE l c).1 ∧
    (valE l c).2 = if (newR l c).code ≠ 0 then newR l c else if (newV l c).kind = 0 ∧ (getE l c.key).isSome = true then newR l c else if (getE l c.key).isSome = false ∧ l.length = 12 then failR 6 else newR l c := by
  have h1 := (inE_get hr c.key).1
  unfold valE
  rw [oldV_get hr, h1]
  simp only [← h1]
  change Did _ _ _ (if (newR l c).code ≠ 0 then (l, newR l c) else if (newV l c).kind = 0 ∧ inE l c.key = true then (delAt l (findE l c.key), newR l c) else if inE l c.key = false ∧ l.length = 12 then (l, failR 6) else if (newV l c).kind ≠ 0 then (setE l c (newV l c), newR l c) else (l, newR l c)).1 ∧ (if (newR l c).code ≠ 0 then (l, newR l c) else if (newV l c).kind = 0 ∧ inE l c.key = true then (delAt l (findE l c.key), newR l c) else if inE l c.key = false ∧ l.length = 12 then (l, failR 6) else if (newV l c).kind ≠ 0 then (setE l c (newV l c), newR l c) else (l, newR l c)).2 = _
  by_cases a1 : (newR l c).code ≠ 0
  · simp only [if_pos a1]
    exact ⟨Did.none hr _, trivial⟩
  · simp only [if_neg a1]
    by_cases a2 : (newV l c).kind = 0 ∧ inE l c.key = true
    · simp only [if_pos a2]
      exact ⟨did_del hr a2.2, trivial⟩
    · simp only [if_neg a2]
      by_cases a3 : inE l c.key = false ∧ l.length = 12
      · simp only [if_pos a3]
        exact ⟨Did.none hr _, trivial⟩
      · simp only [if_neg a3]
        by_cases a4 : (newV l c).kind ≠ 0
        · simp only [if_pos a4]
          exact ⟨did_set hr c _, trivial⟩
        · simp only [if_neg a4]
          exact ⟨Did.none hr _, trivial⟩
theorem timedE_spec {l : List Ent} (hr : Rise l) (now : Int) (c : Cmd) :
    (getE l c.key = none → timedE now l c = (l, failR 5)) ∧
    ∀ e, getE l c.key = some e → (c.kind = 21 → timedE now l c = (l, toldR (if e.till - now < 0 then 0 else e.till - now))) ∧
      (c.kind ≠ 21 → (c.n < 1 ∨ 1073741824 - now < c.n) → timedE now l c = (l, failR 2)) ∧
      (c.kind ≠ 21 → ¬ (c.n < 1 ∨ 1073741824 - now < c.n) → (timedE now l c).2 = toldR 0 ∧ Did l c.key (some ⟨c.key, e.val, now + c.n⟩) (timedE now l c).1) := by
  have h1 := (inE_get hr c.key).2
  unfold timedE
  rw [h1]
  constructor
  · intro h; rw [h]
  · intro e h
    rw [h]
    simp only
    refine ⟨fun hk => by rw [if_pos hk], fun hk hn => by rw [if_neg hk, if_pos hn], fun hk hn => ?_⟩
    rw [if_neg hk, if_neg hn]
    have hke := (getE_mem h).2
    rw [hke]
    exact ⟨rfl, did_upd hr h 0 _ rfl⟩
theorem Did.all {l l' : List Ent} {k : ByteArray} {x : Option Ent} (h : Did l k x l') (hr : Rise l) {p : Ent → Prop} (hp : ∀ e ∈ l, p e) (hx : ∀ e, x = some e → p e) : ∀ e ∈ l', p e := by
  intro e he
  have hg := mem_getE h.rise he
  by_cases hk : e.key = k
  · rw [hk, h.here] at hg; exact hx e hg
  · rw [h.other _ hk] at hg; exact hp e (getE_mem hg).1
theorem doE_ok {now : Int} {l : List Ent} {c : Cmd} (h0 : 0 ≤ now) (hn : now ≤ 1073741824) (hr : Rise l) (ha : ∀ e ∈ l, OkE now e) (hl : l.length ≤ 12) (hc : checkC c = 0) :
    Rise (doE now l c).1 ∧ (∀ e ∈ (doE now l c).1, OkE now e) ∧ (doE now l c).1.length ≤ 12 := by
  have hkind := checkC_kind hc
  have hfacts := checkC_facts hc
  have keep : ∀ {x : Option Ent} {l' : List Ent}, Did l c.key x l' → (x.isSome = true → (getE l c.key).isSome = false → l.length < 12) → (∀ e, x = some e → OkE now e) → Rise l' ∧ (∀ e ∈ l', OkE now e) ∧ l'.length ≤ 12 := by
    intro x l' hd hx ho
    refine ⟨hd.rise, hd.all hr ha ho, ?_⟩
    rw [hd.len]
    by_cases a1 : x.isSome = true
    · rw [if_pos a1]
      by_cases a2 : (getE l c.key).isSome = true
      · rw [if_pos a2]; exact hl
      · rw [if_neg a2]; have := hx a1 (by simpa using a2); omega
    · rw [if_neg a1]; split <;> omega
  have hin : ∀ e, getE l c.key = some e → OkE now e := fun e he => ha e (getE_mem he).1
  unfold doE
  by_cases k1 : c.kind = 22
  · rw [if_pos k1]; exact ⟨hr, ha, hl⟩
  · have hkey := checkC_key hc k1
    rw [if_neg k1]
    by_cases k2 : c.kind = 19
    · rw [if_pos k2]
      cases h : inE l c.key with
      | true => rw [if_pos rfl]; exact keep (did_del hr h) (fun h => by cases h) (fun e h => by cases h)
      | false => rw [if_neg (by simp)]; exact ⟨hr, ha, hl⟩
    · rw [if_neg k2]
      by_cases k3 : c.kind = 20 ∨ c.kind = 21
      · rw [if_pos k3]
        obtain ⟨t1, t2⟩ := timedE_spec hr now c
        cases hg : getE l c.key with
        | none => rw [t1 hg]; exact ⟨hr, ha, hl⟩
        | some e =>
          obtain ⟨t3, t4, t5⟩ := t2 e hg
          have hoe := hin e hg
          by_cases k4 : c.kind = 21
          · rw [t3 k4]; exact ⟨hr, ha, hl⟩
          · by_cases k5 : c.n < 1 ∨ 1073741824 - now < c.n
            · rw [t4 k4 k5]; exact ⟨hr, ha, hl⟩
            · refine keep (t5 k4 k5).2 (fun _ h => by rw [hg] at h; cases h) (fun y hy => ?_)
              cases hy
              exact ⟨hkey, hoe.val, .inr ⟨by show now < now + c.n; omega, by show now + c.n ≤ 1073741824; omega⟩⟩
      · rw [if_neg k3]
        have hk18 : c.kind ≤ 18 := by omega
        have hvk : Vk (((getE l c.key).map Ent.val).getD zeroV) := by
          cases hg : getE l c.key with
          | none => exact .inr rfl
          | some e => exact .inl (hin e hg).val
        have hnv := (DoV_vk hvk hc hk18).2
        change Vk (newV l c) at hnv
        refine keep (valE_spec hr c).1 (fun h1 h2 => ?_) (fun y hy => ?_)
        · have hgn : getE l c.key = none := by cases hg : getE l c.key with | none => rfl | some => rw [hg] at h2; cases h2
          rw [hgn] at h1
          simp only [Option.isSome_none, Bool.false_eq_true, and_false, if_false, true_and] at h1
          by_cases hl12 : l.length = 12
          · rw [if_pos hl12] at h1
            simp at h1
          · omega
        · by_cases a1 : (newR l c).code ≠ 0
          · rw [if_pos a1] at hy; exact hin y hy
          · rw [if_neg a1] at hy
            by_cases a2 : (newV l c).kind = 0 ∧ (getE l c.key).isSome = true
            · rw [if_pos a2] at hy; cases hy
            · rw [if_neg a2] at hy
              by_cases a3 : (getE l c.key).isSome = false ∧ l.length = 12
              · rw [if_pos a3] at hy; exact hin y hy
              · rw [if_neg a3] at hy
                by_cases a4 : (newV l c).kind ≠ 0
                · rw [if_pos a4] at hy
                  cases hy
                  refine ⟨hkey, vk_there hnv a4, ?_⟩
                  unfold putE
                  simp only
                  cases hg : getE l c.key with
                  | none => exact .inl rfl
                  | some e =>
                    simp only
                    by_cases a5 : c.kind = 1
                    · rw [if_pos a5]; exact .inl rfl
                    · rw [if_neg a5]; exact (hin e hg).till
                · rw [if_neg a4] at hy; exact hin y hy
def aliveS (now : Int) (s : Sto) : List Ent := s.ents.filter fun e => !goneE now e
theorem alive_ok {s : Sto} (h : OkS s) {now : Int} (hn : s.now ≤ now) : Rise (aliveS now s) ∧ (∀ e ∈ aliveS now s, OkE now e) ∧ (aliveS now s).length ≤ 12 := by
  refine ⟨h.rise.filter _, fun e he => ?_, Nat.le_trans (List.length_filter_le ..) h.len⟩
  obtain ⟨h1, h2⟩ := List.mem_filter.1 he
  have ho := h.all e h1
  refine ⟨ho.key, ho.val, ?_⟩
  rcases ho.till with h3 | h3
  · exact .inl h3
  · refine .inr ⟨?_, h3.2⟩
    unfold goneE at h2
    simp at h2
    rcases h2 with h2 | h2
    · have := h.now; omega
    · exact h2
theorem maxI_le (a b : Int) : a ≤ maxI a b ∧ b ≤ maxI a b := by unfold maxI; split <;> omega
theorem apply_ok {s : Sto} (h : OkS s) {t : Int} (h0 : 0 ≤ t) (h1 : t ≤ 1073741824) {c : Cmd} (hc : checkC c = 0) :
    ApplyS s t c = (⟨maxI s.now t, (doE (maxI s.now t) (aliveS (maxI s.now t) s) c).1⟩, (doE (maxI s.now t) (aliveS (maxI s.now t) s) c).2, 0) ∧ OkS ⟨maxI s.now t, (doE (maxI s.now t) (aliveS (maxI s.now t) s) c).1⟩ := by
  have hm := maxI_le s.now t
  have hb : maxI s.now t ≤ 1073741824 := by have := h.now; unfold maxI; split <;> omega
  obtain ⟨a1, a2, a3⟩ := alive_ok h hm.1
  obtain ⟨d1, d2, d3⟩ := doE_ok (by have := h.now; omega) hb a1 a2 a3 hc
  refine ⟨?_, ⟨⟨by have := h.now; show 0 ≤ maxI s.now t; omega, hb⟩, d3, d2, d1⟩⟩
  unfold ApplyS
  rw [if_neg (by rw [checkS_iff.2 h]; simp), if_neg (by omega), if_neg (by rw [hc]; simp)]
  rfl
structure Stp where
  raw : Raw
  wait : Int
structure Stp.Ok (x : Stp) : Prop where
  raw : x.raw.Ok
  wait : i64 x.wait
def Stp.row (x : Stp) : List V := [.lit (.int .i64 x.raw.kind), .lit (.int .i64 x.raw.key), .lit (.int .i64 x.raw.field), .lit (.int .i64 x.raw.n), .lit (.string x.raw.text), .lit (.int .i64 x.wait)]
def Stp.c (x : Stp) : List C := [iC x.raw.kind, iC x.raw.key, iC x.raw.field, iC x.raw.n, sC x.raw.text, iC x.wait]
def Few (l : List Ent) : Prop := ∀ e ∈ l, e.key ∈ nine
theorem few_len {l : List Ent} (hr : Rise l) (h : Few l) : l.length ≤ 9 := by
  have := nodup_le (l.map Ent.key) nine (List.pairwise_map.2 (hr.imp fun h => key_ne h)) fun x hx => by
    obtain ⟨p, hp, rfl⟩ := List.mem_map.1 hx
    exact h p hp
  rw [List.length_map] at this
  exact this
structure OkT (s : Sto) : Prop where
  ok : OkS s
  few : Few s.ents
theorem OkT.len {s : Sto} (h : OkT s) : s.ents.length ≤ 9 := few_len h.ok.rise h.few
end Go.Proofs.YtpdcfljbabpakaaGreatDoor
set_option linter.unusedVariables false
set_option linter.unusedSimpArgs false
set_option maxRecDepth 100000
set_option maxHeartbeats 8000000
namespace Go.Proofs.YtpdcfljbabpakaaGreatDoor
open Go Go.RowKit Go.Proofs.AE
variable {G : Nat → AV}
theorem maxI_self (a : Int) : maxI a a = a := by unfold maxI; split <;> rfl
theorem form_plain {k : Int} {key f t : ByteArray} {n : Int} (h1 : 1 ≤ k) (h2 : k ≤ 22) (hkey : k = 22 ∧ key = ⟨#[]⟩ ∨ k ≠ 22 ∧ okField key = true) (hf : (k = 4 ∨ k = 5 ∨ k = 6) ∧ okField f = true ∨ ¬ (k = 4 ∨ k = 5 ∨ k = 6) ∧ f = ⟨#[]⟩)
    (ht : okText t = true ∧ (k = 1 ∨ k = 4 ∨ k = 7 ∨ k = 8 ∨ k = 11 ∨ k = 12 ∨ k = 13 ∨ k = 14 ∨ k = 15 ∨ k = 16) ∨ t = ⟨#[]⟩) (hn : okCount n = true ∧ (k = 3 ∨ k = 14 ∨ k = 20) ∨ n = 0) : checkC ⟨k, key, f, t, n⟩ = 0 := by
  have ht' : okText t = true := by rcases ht with h | h; exact h.1; rw [h]; rfl
  have hn' : okCount n = true := by rcases hn with h | h; exact h.1; rw [h]; rfl
  have hform : formOk k key f t n = true := by
    unfold formOk
    have a1 : ((k != 22) || decide (key = ⟨#[]⟩)) = true := by
      rcases hkey with h | h
      · simp [h.2]
      · simp [h.1]
    have a2 : ((k == 4 || k == 5 || k == 6) || decide (f = ⟨#[]⟩)) = true := by
      rcases hf with h | h
      · rcases h.1 with e | e | e <;> simp [e]
      · simp [h.2]
    have a3 : ((k == 1 || k == 4 || k == 7 || k == 8 || k == 11 || k == 12 || k == 13 || k == 14 || k == 15 || k == 16) || decide (t = ⟨#[]⟩)) = true := by
      rcases ht with h | h
      · rcases h.2 with e | e | e | e | e | e | e | e | e | e <;> simp [e]
      · simp [h]
    have a4 : ((k == 3 || k == 14 || k == 20) || n == 0) = true := by
      rcases hn with h | h
      · rcases h.2 with e | e | e <;> simp [e]
      · simp [h]
    rw [a1, a2, a3, a4]; rfl
  unfold checkC checkCommand
  simp only
  rw [if_neg (by omega), if_neg (by omega), if_neg (by rw [hform]; simp)]
  have b : ((k != 22 && !okField key || ((k == 4 || k == 5 || k == 6) && !okField f)) || !okText t) = false := by
    rw [ht']
    have b1 : (k != 22 && !okField key) = false := by
      rcases hkey with h | h
      · simp [h.1]
      · simp [h.2]
    rw [b1]
    rcases hf with h | h
    · rw [h.2]; simp
    · have : (k == 4 || k == 5 || k == 6) = false := by
        have := h.1
        simp; omega
      rw [this]; simp
  rw [b, hn']
  simp
def keysC : Cmd := ⟨22, ⟨#[]⟩, ⟨#[]⟩, ⟨#[]⟩, 0⟩
theorem keysC_ok : checkC keysC = 0 := form_plain (by omega) (by omega) (.inl ⟨rfl, rfl⟩) (.inr ⟨by omega, rfl⟩) (.inr rfl) (.inr rfl)
theorem doE_keys (now : Int) (l : List Ent) : doE now l keysC = (l, ⟨0, ⟨#[]⟩, 0, l.map Ent.key⟩) := by
  unfold doE
  rw [if_pos (show keysC.kind = 22 from rfl)]
end Go.Proofs.YtpdcfljbabpakaaGreatDoor
set_option linter.unusedVariables false
set_option linter.unusedSimpArgs false
set_option maxRecDepth 100000
set_option maxHeartbeats 8000000
namespace Go.Proofs.YtpdcfljbabpakaaGreatDoor
open Go Go.RowKit Go.Proofs.AE
variable {G : Nat → AV}
structure OkR (r : Rep) : Prop where
  code : 0 ≤ r.code ∧ r.code ≤ 13
  text : okText r.text = true
  len : r.list.length ≤ 20
  list : ∀ s ∈ r.list, okText s = true
  n : okCount r.n = true
theorem told_ok {n : Int} (h : okCount n = true) : OkR (toldR n) := ⟨⟨by show (0 : Int) ≤ 0; omega, by show (0 : Int) ≤ 13; omega⟩, rfl, Nat.zero_le _, (fun s hs => by cases hs), h⟩
theorem told_small {n : Int} (h0 : 0 ≤ n) (h1 : n ≤ 1099511627776) : OkR (toldR n) := told_ok (by unfold okCount; simp; omega)
theorem fail_ok {e : Int} (h0 : 0 ≤ e) (h1 : e ≤ 13) : OkR (failR e) := ⟨⟨h0, h1⟩, rfl, Nat.zero_le _, (fun s hs => by cases hs), rfl⟩
theorem textR_ok {t : ByteArray} (h : okText t = true) : OkR (textR t) := ⟨⟨by show (0 : Int) ≤ 0; omega, by show (0 : Int) ≤ 13; omega⟩, h, Nat.zero_le _, (fun s hs => by cases hs), rfl⟩
theorem flag_ok (b : Bool) : OkR (toldR (flagN b)) := told_small (by cases b <;> decide) (by cases b <;> decide)
theorem hashR_ok {l : List Pr} {c : Cmd} (h : ∀ p ∈ l, okField p.1 = true ∧ okText p.2 = true) (ht : okText c.text = true) : OkR (hashV l c).2 := by
  unfold hashV
  simp only
  repeat' split
  · exact told_small (by omega) (by omega)
  · exact fail_ok (by omega) (by omega)
  · exact told_small (by omega) (by omega)
  · refine textR_ok ?_
    cases hx : l[hashAt l c.field]? with
    | none => exact ht
    | some a => exact (h a (List.mem_of_getElem? hx)).2
  · exact fail_ok (by omega) (by omega)
  · exact told_small (by omega) (by omega)
  · exact told_small (by omega) (by omega)
theorem listR_ok {l : List ByteArray} {c : Cmd} (h : ∀ s ∈ l, okText s = true) (hl : l.length ≤ 20) : OkR (listV l c).2 := by
  have hg : ∀ i : Nat, okText (l[i]?.getD ⟨#[]⟩) = true := fun i => by
    cases hx : l[i]? with
    | none => rfl
    | some a => exact h a (List.mem_of_getElem? hx)
  unfold listV
  repeat' split
  · exact fail_ok (by omega) (by omega)
  · exact told_small (by omega) (by omega)
  · exact told_small (by omega) (by omega)
  · exact textR_ok (hg _)
  · exact textR_ok (hg _)
theorem setR_ok (l : List ByteArray) (c : Cmd) : OkR (setV l c).2 := by
  unfold setV
  simp only
  repeat' split
  all_goals first | exact told_small (by omega) (by omega) | exact fail_ok (by omega) (by omega) | exact flag_ok _
theorem firstI_bound {α : Type} (p : α → Bool) : ∀ (l : List α) (i : Nat), -1 ≤ firstI p i l ∧ firstI p i l < (i : Int) + l.length + 1
  | [], i => by unfold firstI; simp; omega
  | a :: l, i => by
    unfold firstI
    split
    · simp; omega
    · have := firstI_bound p l (i + 1)
      simp only [List.length_cons]
      omega
theorem ranksR_ok {l : List Sc} {c : Cmd} (hl : l.length ≤ 20) : OkR (ranksV l c).2 := by
  have hb := firstI_bound (fun s : Sc => decide (s.1 = c.text)) l 0
  change -1 ≤ rankOf l c.text ∧ rankOf l c.text < _ at hb
  unfold ranksV
  simp only
  repeat' split
  all_goals first | exact told_small (by omega) (by omega) | exact fail_ok (by omega) (by omega)
theorem allV_ok {v : Val} (h : OkB v) : (allV v).length ≤ 20 ∧ ∀ s ∈ allV v, okText s = true := by
  have he := h.els
  unfold Val.els at he
  unfold allV
  refine ⟨by simp; omega, fun s hs => ?_⟩
  rcases List.mem_append.1 hs with hs | hs
  · rcases List.mem_append.1 hs with hs | hs
    · exact h.okI s hs
    · obtain ⟨p, hp, rfl⟩ := List.mem_map.1 hs
      have := (h.okP p hp).1
      unfold okField at this
      unfold okText
      simp only [Bool.and_eq_true, decide_eq_true_eq] at this ⊢
      omega
  · obtain ⟨p, hp, rfl⟩ := List.mem_map.1 hs
    exact (h.okS p hp).1
theorem doV_okR {v : Val} {c : Cmd} (h : OkB v) (ht : okText c.text = true) : OkR (doV v c).2 := by
  have he := h.els
  unfold Val.els at he
  unfold doV
  repeat' split
  · exact told_small (by omega) (by omega)
  · exact textR_ok h.okT
  · rename_i hc; exact told_ok hc
  · exact fail_ok (by omega) (by omega)
  · refine told_small ?_ ?_ <;> (unfold Val.els; omega)
  · obtain ⟨h1, h2⟩ := allV_ok h
    exact ⟨⟨by show (0 : Int) ≤ 0; omega, by show (0 : Int) ≤ 13; omega⟩, rfl, h1, h2, rfl⟩
  · exact hashR_ok h.okP ht
  · exact listR_ok h.okI (by omega)
  · exact setR_ok _ _
  · exact ranksR_ok (by omega)
theorem DoEnd_okR {v : Val} {q : Val × Rep} (h : OkR q.2) : OkR (DoEnd v q).2.1 := by
  unfold DoEnd
  repeat' split
  all_goals exact h
theorem DoV_okR {v : Val} {c : Cmd} (hv : Vk v) (hc : checkC c = 0) (hk : c.kind ≤ 18) : OkR (DoV v c).2.1 := by
  have ht := (checkC_facts hc).2.2.1
  have hk1 := checkC_kind hc
  rcases hv with h | h
  · have hv := checkV_iff.2 h
    by_cases hm : (kindOfC c.kind ≠ 0 ∧ kindOfC c.kind ≠ v.kind) ∨ (17 ≤ c.kind ∧ v.kind < 3)
    · rw [DoV_type hv hc hk hm]; exact fail_ok (by omega) (by omega)
    · rw [DoV_go hv hc hk hm]; exact DoEnd_okR (doV_okR h.b ht)
  · subst h
    rw [DoV_zero hc hk]
    split
    · by_cases e : c.kind = 1
      · have hd : doV ⟨kindOfC c.kind, ⟨#[]⟩, 0, [], [], []⟩ c = doV ⟨1, ⟨#[]⟩, 0, [], [], []⟩ c := by unfold doV; rw [if_pos e, if_pos e]
        rw [hd]
        exact DoEnd_okR (doV_okR (fresh_b (by omega) (by omega)) ht)
      · rename_i hmk
        have hk2 : c.kind ≤ 14 := by
          unfold makesC at hmk
          simp at hmk
          omega
        have hr : 1 ≤ kindOfC c.kind ∧ kindOfC c.kind ≤ 6 := by
          have hne := kindOf_zero hk1 (by omega) e
          unfold kindOfC at hne ⊢
          repeat' split
          all_goals simp_all
        exact DoEnd_okR (doV_okR (fresh_b hr.1 hr.2) ht)
    · exact fail_ok (by omega) (by omega)
theorem doE_okR {now : Int} {l : List Ent} {c : Cmd} (hn0 : 0 ≤ now) (hr : Rise l) (ha : ∀ e ∈ l, OkE now e) (hl : l.length ≤ 12) (hc : checkC c = 0) : OkR (doE now l c).2 := by
  have hk1 := checkC_kind hc
  have hkf := (checkC_facts hc).2.1
  unfold doE
  by_cases k1 : c.kind = 22
  · rw [if_pos k1]
    refine ⟨⟨by show (0 : Int) ≤ 0; omega, by show (0 : Int) ≤ 13; omega⟩, rfl, by show (l.map Ent.key).length ≤ 20; rw [List.length_map]; omega, fun s hs => ?_, rfl⟩
    obtain ⟨e, he, rfl⟩ := List.mem_map.1 hs
    have := (ha e he).key
    unfold okField at this
    unfold okText
    simp only [Bool.and_eq_true, decide_eq_true_eq] at this ⊢
    omega
  · rw [if_neg k1]
    by_cases k2 : c.kind = 19
    · rw [if_pos k2]
      split <;> exact told_small (by omega) (by omega)
    · rw [if_neg k2]
      by_cases k3 : c.kind = 20 ∨ c.kind = 21
      · rw [if_pos k3]
        obtain ⟨t1, t2⟩ := timedE_spec hr now c
        cases hg : getE l c.key with
        | none => rw [t1 hg]; exact fail_ok (by omega) (by omega)
        | some e =>
          obtain ⟨t3, t4, t5⟩ := t2 e hg
          have ht := (ha e (getE_mem hg).1).till
          by_cases k4 : c.kind = 21
          · rw [t3 k4]; refine told_small ?_ ?_ <;> (split <;> omega)
          · by_cases k5 : c.n < 1 ∨ 1073741824 - now < c.n
            · rw [t4 k4 k5]; exact fail_ok (by omega) (by omega)
            · rw [(t5 k4 k5).1]; exact told_small (by omega) (by omega)
      · rw [if_neg k3, (valE_spec hr c).2]
        have hvk : Vk (((getE l c.key).map Ent.val).getD zeroV) := by
          cases hg : getE l c.key with
          | none => exact .inr rfl
          | some e => exact .inl (ha e (getE_mem hg).1).val
        have hn := DoV_okR hvk hc (by omega)
        change OkR (newR l c) at hn
        repeat' split
        all_goals first | exact hn | exact fail_ok (by omega) (by omega)
theorem apply_okR {s : Sto} (h : OkS s) {t : Int} (h0 : 0 ≤ t) (h1 : t ≤ 1073741824) {c : Cmd} (hc : checkC c = 0) : OkR (ApplyS s t c).2.1 := by
  rw [(apply_ok h h0 h1 hc).1]
  obtain ⟨a1, a2, a3⟩ := alive_ok h (maxI_le s.now t).1
  exact doE_okR (by have := h.now; have := maxI_le s.now t; omega) a1 a2 a3 hc
structure Cli where
  id : Int
  seq : Int
  time : Int
  reply : Rep
structure Mach where
  sto : Sto
  next : Int
  clis : List Cli
structure Cal where
  client : Int
  seq : Int
  cmd : Cmd
def Cli.c (x : Cli) : List C := [iC x.id, iC x.seq, iC x.time, iC x.reply.code, sC x.reply.text, iC x.reply.n, .v (.sl (strRows x.reply.list))]
def Cli.row (x : Cli) : List V := [.lit (.int .i64 x.id), .lit (.int .i64 x.seq), .lit (.int .i64 x.time), .lit (.int .i64 x.reply.code), .lit (.string x.reply.text), .lit (.int .i64 x.reply.n), .sl (strRows x.reply.list)]
abbrev clR (l : List Cli) : List (List V) := l.map Cli.row
def Mach.c (m : Mach) : List C := [iC m.sto.now, .v (.sl (eR m.sto.ents)), iC m.next, .v (.sl (clR m.clis))]
def Cal.c (c : Cal) : List C := [iC c.client, iC c.seq, iC c.cmd.kind, sC c.cmd.key, sC c.cmd.field, sC c.cmd.text, iC c.cmd.n]
def checkR (r : Rep) : Int := checkReply r.code r.text r.n r.list
def checkCl (c : Cal) : Int := checkCall c.client c.seq c.cmd.kind c.cmd.key c.cmd.field c.cmd.text c.cmd.n
def badC (next now : Int) (x : Cli) : Bool := decide (x.id < 1) || decide (next ≤ x.id) || decide (x.seq < 0) || decide (1048576 < x.seq) || decide (x.time < 0) || decide (now < x.time) || (checkR x.reply != 0)
def cI (a b : Cli) : Int := a.id - b.id
def checkM (m : Mach) : Int :=
  if checkS m.sto ≠ 0 ∨ m.next < 1 ∨ 1048577 < m.next ∨ 4 < m.clis.length then 13
  else if m.clis.any (badC m.next m.sto.now) = true then 13
  else if rising cI m.clis = true then 0 else 13
def oldest : List Cli → Nat → Nat → List Cli → Nat
  | _, old, _, [] => old
  | all, old, i, x :: r => oldest all (match all[old]? with | some y => if x.time < y.time then i else old | none => old) (i + 1) r
def openM (m : Mach) : Mach × Rep :=
  if 1048576 < m.next then (m, failR 6)
  else (⟨m.sto, m.next + 1, (if m.clis.length = 4 then delAt m.clis (oldest m.clis 0 0 m.clis) else m.clis) ++ [⟨m.next, 0, m.sto.now, toldR 0⟩]⟩, toldR m.next)
def findC (l : List Cli) (id : Int) : Int := firstI (fun x => x.id == id) 0 l
def zeroM : Mach := ⟨zeroS, 0, []⟩
def callM (m : Mach) (time : Int) (c : Cal) : Mach × Rep :=
  if c.client = 0 then openM m
  else if findC m.clis c.client < 0 then (m, failR 11)
  else match m.clis[(findC m.clis c.client).toNat]? with
    | none => (m, failR 11)
    | some x =>
      if c.seq = x.seq then (m, x.reply)
      else if c.seq ≠ x.seq + 1 then (m, failR 10)
      else (⟨(ApplyS m.sto time c.cmd).1, m.next, m.clis.set (findC m.clis c.client).toNat ⟨x.id, c.seq, (ApplyS m.sto time c.cmd).1.now, (ApplyS m.sto time c.cmd).2.1⟩⟩, (ApplyS m.sto time c.cmd).2.1)
def DoM (m : Mach) (time : Int) (c : Cal) : Mach × Rep × Int :=
  if checkM m ≠ 0 then (zeroM, toldR 0, checkM m)
  else if time < 0 ∨ 1073741824 < time then (zeroM, toldR 0, 2)
  else if checkCl c ≠ 0 then (zeroM, toldR 0, checkCl c)
  else ((callM ⟨(ApplyS m.sto time keysC).1, m.next, m.clis⟩ time c).1, (callM ⟨(ApplyS m.sto time keysC).1, m.next, m.clis⟩ time c).2, 0)
structure OkC (next now : Int) (x : Cli) : Prop where
  id : 1 ≤ x.id ∧ x.id < next
  seq : 0 ≤ x.seq ∧ x.seq ≤ 1048576
  time : 0 ≤ x.time ∧ x.time ≤ now
  reply : checkR x.reply = 0
def RiseC (l : List Cli) : Prop := l.Pairwise (fun a b => a.id < b.id)
structure OkM (m : Mach) : Prop where
  sto : OkS m.sto
  next : 1 ≤ m.next ∧ m.next ≤ 1048577
  len : m.clis.length ≤ 4
  all : ∀ x ∈ m.clis, OkC m.next m.sto.now x
  rise : RiseC m.clis
theorem badC_iff {next now : Int} {x : Cli} : badC next now x = false ↔ OkC next now x := by
  unfold badC
  constructor
  · intro h
    simp only [Bool.or_eq_false_iff, decide_eq_false_iff_not, bne_eq_false_iff_eq] at h
    obtain ⟨⟨⟨⟨⟨⟨h1, h2⟩, h3⟩, h4⟩, h5⟩, h6⟩, h7⟩ := h
    exact ⟨by omega, by omega, by omega, h7⟩
  · rintro ⟨h1, h2, h3, h4⟩
    simp only [Bool.or_eq_false_iff, decide_eq_false_iff_not, bne_eq_false_iff_eq]
    exact ⟨⟨⟨⟨⟨⟨by omega, by omega⟩, by omega⟩, by omega⟩, by omega⟩, by omega⟩, h4⟩
theorem cI_tr : ∀ a b c : Cli, cI a b < 0 → cI b c < 0 → cI a c < 0 := fun a b c h1 h2 => by unfold cI at *; omega
theorem riseC_iff {l : List Cli} : rising cI l = true ↔ RiseC l := by
  rw [rising_iff cI_tr]
  unfold RiseC
  constructor <;> exact fun h => h.imp fun h => by unfold cI at *; omega
theorem checkM_iff {m : Mach} : checkM m = 0 ↔ OkM m := by
  unfold checkM
  constructor
  · intro h
    split at h
    · cases h
    · rename_i h1
      simp only [not_or] at h1
      split at h
      · cases h
      · rename_i h2
        split at h
        · rename_i h3
          refine ⟨checkS_iff.1 (Classical.not_not.1 h1.1), by omega, by omega, fun x hx => badC_iff.1 ?_, riseC_iff.1 h3⟩
          cases hb : badC m.next m.sto.now x with
          | false => rfl
          | true => exact absurd (List.any_eq_true.2 ⟨x, hx, hb⟩) h2
        · cases h
  · rintro ⟨h1, h2, h3, h4, h5⟩
    rw [if_neg, if_neg, if_pos (riseC_iff.2 h5)]
    · intro h
      obtain ⟨x, hx, hb⟩ := List.any_eq_true.1 h
      rw [badC_iff.2 (h4 x hx)] at hb; cases hb
    · simp only [not_or]
      exact ⟨fun h => h (checkS_iff.2 h1), by omega, by omega, by omega⟩
theorem checkR_iff {r : Rep} : checkR r = 0 ↔ OkR r := by
  unfold checkR checkReply
  constructor
  · intro h
    repeat' split at h
    all_goals first | (cases h; done) | skip
    rename_i h1 h2 h3 h4 h5 h6 h7
    simp only [decide_eq_true_eq] at h1 h2 h3 h4 h6 h7
    refine ⟨by omega, by unfold okText; simp; omega, by omega, fun s hs => ?_, by unfold okCount; simp; omega⟩
    unfold okText
    simp only [decide_eq_true_eq]
    apply Classical.not_not.1
    intro hh
    exact h5 (List.any_eq_true.2 ⟨s, hs, by simp; omega⟩)
  · rintro ⟨h1, h2, h3, h4, h5⟩
    unfold okText at h2 h4
    unfold okCount at h5
    simp only [decide_eq_true_eq, Bool.and_eq_true] at h2 h4 h5
    have ha : ¬ (r.list.any fun s => decide (20 < (s.size : Int))) = true := fun h => by
      obtain ⟨s, hs, hb⟩ := List.any_eq_true.1 h
      have := h4 s hs
      simp at hb; omega
    rw [if_neg (by simp; omega), if_neg (by simp; omega), if_neg (by simp; omega), if_neg (by simp; omega), if_neg ha, if_neg (by simp; omega), if_neg (by simp; omega)]
theorem oldest_lt (all : List Cli) : ∀ (r : List Cli) (old i : Nat), old < all.length → i + r.length ≤ all.length → oldest all old i r < all.length
  | [], old, _, h, _ => h
  | x :: r, old, i, h, hi => by
    unfold oldest
    simp only [List.length_cons] at hi
    refine oldest_lt all r _ (i + 1) ?_ (by omega)
    split
    · split <;> omega
    · exact h
theorem RiseC.sub {l l' : List Cli} (h : RiseC l) (hs : l'.Sublist l) : RiseC l' := List.Pairwise.sublist hs h
theorem open_ok {m : Mach} (h : OkM m) : OkM (openM m).1 ∧ OkR (openM m).2 := by
  unfold openM
  by_cases hn : 1048576 < m.next
  · rw [if_pos hn]; exact ⟨h, fail_ok (by omega) (by omega)⟩
  · rw [if_neg hn]
    obtain ⟨L, hL⟩ : ∃ L, (if m.clis.length = 4 then delAt m.clis (oldest m.clis 0 0 m.clis) else m.clis) = L := ⟨_, rfl⟩
    have hsub : L.Sublist m.clis ∧ L.length ≤ 3 := by
      rw [← hL]
      split
      · rename_i h4
        have hlt := oldest_lt m.clis m.clis 0 0 (by omega) (by omega)
        exact ⟨del_sub _ _, by have := delE_len hlt; omega⟩
      · exact ⟨List.Sublist.refl _, by have := h.len; omega⟩
    rw [hL]
    have hnx := h.next
    have hnow := h.sto.now
    refine ⟨⟨h.sto, ⟨by show 1 ≤ m.next + 1; omega, by show m.next + 1 ≤ 1048577; omega⟩, by show (L ++ [_]).length ≤ 4; rw [List.length_append]; simp; omega, fun x hx => ?_, ?_⟩, told_small (by omega) (by omega)⟩
    · rcases List.mem_append.1 hx with hx | hx
      · have ho := h.all x (hsub.1.subset hx)
        exact ⟨⟨ho.id.1, by have := ho.id.2; show x.id < m.next + 1; omega⟩, ho.seq, ho.time, ho.reply⟩
      · simp only [List.mem_singleton] at hx
        subst hx
        exact ⟨⟨hnx.1, by show m.next < m.next + 1; omega⟩, ⟨Int.le_refl _, by show (0 : Int) ≤ 1048576; omega⟩, ⟨hnow.1, Int.le_refl _⟩, checkR_iff.2 (told_small (by omega) (by omega))⟩
    · refine List.pairwise_append.2 ⟨h.rise.sub hsub.1, List.pairwise_singleton _ _, fun a ha b hb => ?_⟩
      simp only [List.mem_singleton] at hb
      subst hb
      exact (h.all a (hsub.1.subset ha)).id.2
theorem later_ok {m : Mach} (h : OkM m) {s : Sto} (hs : OkS s) (hn : m.sto.now ≤ s.now) : OkM ⟨s, m.next, m.clis⟩ :=
  ⟨hs, h.next, h.len, fun x hx => by have ho := h.all x hx; exact ⟨ho.id, ho.seq, ⟨ho.time.1, Int.le_trans ho.time.2 hn⟩, ho.reply⟩, h.rise⟩
theorem call_cmd {c : Cal} (h : checkCl c = 0) (hc : c.client ≠ 0) : okNumber c.client = true ∧ okNumber c.seq = true ∧ checkC c.cmd = 0 := by
  unfold checkCl checkCall at h
  rw [if_neg (by simpa using hc)] at h
  split at h
  · rename_i h1
    split at h
    · rename_i h2; exact ⟨h1, h2, h⟩
    · cases h
  · cases h
theorem call_ok {m : Mach} (h : OkM m) {t : Int} (h0 : 0 ≤ t) (h1 : t ≤ 1073741824) {c : Cal} (hc : checkCl c = 0) : OkM (callM m t c).1 ∧ OkR (callM m t c).2 := by
  unfold callM
  by_cases hz : c.client = 0
  · rw [if_pos hz]; exact open_ok h
  · rw [if_neg hz]
    obtain ⟨n1, n2, hcc⟩ := call_cmd hc hz
    by_cases hf : findC m.clis c.client < 0
    · rw [if_pos hf]; exact ⟨h, fail_ok (by omega) (by omega)⟩
    · rw [if_neg hf]
      cases hx : m.clis[(findC m.clis c.client).toNat]? with
      | none => exact ⟨h, fail_ok (by omega) (by omega)⟩
      | some x =>
        have hm := List.mem_of_getElem? hx
        have ho := h.all x hm
        simp only
        by_cases e1 : c.seq = x.seq
        · rw [if_pos e1]; exact ⟨h, checkR_iff.1 ho.reply⟩
        · rw [if_neg e1]
          by_cases e2 : c.seq ≠ x.seq + 1
          · rw [if_pos e2]; exact ⟨h, fail_ok (by omega) (by omega)⟩
          · rw [if_neg e2]
            have hr := apply_okR h.sto h0 h1 hcc
            obtain ⟨e, ok⟩ := apply_ok h.sto h0 h1 hcc
            have hnow : m.sto.now ≤ (ApplyS m.sto t c.cmd).1.now := by rw [e]; exact (maxI_le _ _).1
            have okS : OkS (ApplyS m.sto t c.cmd).1 := by rw [e]; exact ok
            obtain ⟨S, hS⟩ : ∃ S, (ApplyS m.sto t c.cmd).1 = S := ⟨_, rfl⟩
            rw [hS] at hnow okS ⊢
            have hl := later_ok h okS hnow
            have hlt := (List.getElem?_eq_some_iff.1 hx).1
            have hxe := (List.getElem?_eq_some_iff.1 hx).2
            unfold okNumber at n2
            simp only [Bool.and_eq_true, decide_eq_true_eq] at n2
            refine ⟨⟨okS, h.next, by show (m.clis.set _ _).length ≤ 4; rw [List.length_set]; exact h.len, fun y hy => ?_, ?_⟩, hr⟩
            · rcases List.mem_or_eq_of_mem_set hy with hy | hy
              · exact hl.all y hy
              · subst hy
                exact ⟨ho.id, ⟨by show 0 ≤ c.seq; omega, n2.2⟩, ⟨okS.now.1, Int.le_refl _⟩, checkR_iff.2 hr⟩
            · have hri := h.rise
              unfold RiseC at hri ⊢
              rw [← List.pairwise_map (f := Cli.id) (R := fun a b => a < b)] at hri ⊢
              have : (m.clis.set (findC m.clis c.client).toNat ⟨x.id, c.seq, S.now, (ApplyS m.sto t c.cmd).2.1⟩).map Cli.id = m.clis.map Cli.id := by
                rw [List.map_set]
                refine List.ext_getElem? fun q => ?_
                rw [List.getElem?_set]
                split
                · rename_i hq
                  subst hq
                  rw [if_pos (by rw [List.length_map]; exact hlt), List.getElem?_map, hx]; rfl
                · rfl
              show ((m.clis.set (findC m.clis c.client).toNat ⟨x.id, c.seq, S.now, (ApplyS m.sto t c.cmd).2.1⟩).map Cli.id).Pairwise _
              rw [this]; exact hri
theorem do_ok {m : Mach} (h : OkM m) {t : Int} (h0 : 0 ≤ t) (h1 : t ≤ 1073741824) {c : Cal} (hc : checkCl c = 0) :
    DoM m t c = ((callM ⟨⟨maxI m.sto.now t, aliveS (maxI m.sto.now t) m.sto⟩, m.next, m.clis⟩ t c).1, (callM ⟨⟨maxI m.sto.now t, aliveS (maxI m.sto.now t) m.sto⟩, m.next, m.clis⟩ t c).2, 0) ∧
      OkM ⟨⟨maxI m.sto.now t, aliveS (maxI m.sto.now t) m.sto⟩, m.next, m.clis⟩ ∧ OkM (DoM m t c).1 ∧ OkR (DoM m t c).2.1 := by
  obtain ⟨e, ok⟩ := apply_ok h.sto h0 h1 keysC_ok
  rw [doE_keys] at e ok
  have hmid := later_ok h ok (maxI_le _ _).1
  have hd : DoM m t c = ((callM ⟨⟨maxI m.sto.now t, aliveS (maxI m.sto.now t) m.sto⟩, m.next, m.clis⟩ t c).1, (callM ⟨⟨maxI m.sto.now t, aliveS (maxI m.sto.now t) m.sto⟩, m.next, m.clis⟩ t c).2, 0) := by
    unfold DoM
    rw [if_neg (by rw [checkM_iff.2 h]; simp), if_neg (by omega), if_neg (by rw [hc]; simp), e]
  obtain ⟨c1, c2⟩ := call_ok hmid h0 h1 hc
  rw [hd]
  exact ⟨rfl, hmid, c1, c2⟩
def newM : Mach := ⟨zeroS, 1, []⟩
end Go.Proofs.YtpdcfljbabpakaaGreatDoor
set_option linter.unusedVariables false
set_option linter.unusedSimpArgs false
set_option maxRecDepth 100000
set_option maxHeartbeats 8000000
namespace Go.Proofs.YtpdcfljbabpakaaGreatDoor
open Go Go.RowKit Go.Proofs.AE
variable {G : Nat → AV}
def bR (l : List UInt8) : List (List V) := l.map fun b => [.lit (.int .u8 b.toNat)]
theorem bR_app (a b : List UInt8) : bR (a ++ b) = bR a ++ bR b := by simp [bR]
theorem bR_len (a : List UInt8) : (bR a).length = a.length := by simp [bR]
theorem bR_ul (a : List UInt8) : UL 1 (bR a) := by
  intro r hr
  obtain ⟨b, _, rfl⟩ := List.mem_map.1 hr
  rfl
theorem bR_str (s : ByteArray) : AE.strRows s = bR s.data.toList := rfl
theorem bR_bytes : ∀ l : List UInt8, bytesOf (bR l) = some l
  | [] => rfl
  | b :: l => by
    have := bR_bytes l
    unfold bR at this ⊢
    simp only [List.map_cons, bytesOf, AE.byteOf, this]
    simp
def byteAt' (u s : Nat) : UInt8 := UInt8.ofNat (u / 2 ^ s)
def numU (n : Int) : Nat := (n + 4611686018427387904).toNat
def numB (n : Int) : List UInt8 := [byteAt' (numU n) 56, byteAt' (numU n) 48, byteAt' (numU n) 40, byteAt' (numU n) 32, byteAt' (numU n) 24, byteAt' (numU n) 16, byteAt' (numU n) 8, byteAt' (numU n) 0]
def smallB (n : Int) : UInt8 := UInt8.ofNat (n % 256).toNat
def textB (s : ByteArray) : List UInt8 := smallB s.size :: s.data.toList
theorem wrap_u8 (n : Int) : IntKind.u8.wrap n = ((smallB n).toNat : Int) := by
  unfold smallB
  have h1 := Int.emod_nonneg n (b := 256) (by omega)
  have h2 := Int.emod_lt_of_pos n (b := 256) (by omega)
  rw [UInt8.toNat_ofNat']
  have h3 : IntKind.u8.wrap n = n % 256 := by
    simp [IntKind.wrap, IntKind.bits, IntKind.signed]
  rw [h3]
  omega
theorem byte_row (u s : Nat) : IntKind.u8.wrap ((u : Int).fdiv (2 ^ s)) = ((byteAt' u s).toNat : Int) := by
  rw [wrap_u8]
  unfold smallB byteAt'
  have h : ((u : Int).fdiv (2 ^ s)) = ((u / 2 ^ s : Nat) : Int) := by
    rw [Int.fdiv_eq_ediv_of_nonneg _ (by exact_mod_cast Nat.zero_le _)]
    push_cast
    rfl
  rw [h]
  congr 1
  have h2 : (((u / 2 ^ s : Nat) : Int) % 256).toNat = (u / 2 ^ s) % 256 := by omega
  rw [h2]
  rw [UInt8.toNat_ofNat', UInt8.toNat_ofNat']
  omega
def inNum (n : Int) : Prop := -4611686018427387904 ≤ n ∧ n < 4611686018427387904
theorem numU_conv {n : Int} (h : inNum n) : IntKind.u64.wrap (IntKind.i64.wrap (n + 4611686018427387904)) = (numU n : Int) := by
  unfold inNum at h
  rw [IntWalk.i64_in _ (by omega)]
  unfold numU
  simp [IntKind.wrap, IntKind.bits, IntKind.signed]
  omega
abbrev wHp (l : List UInt8) : Hp := [some (.box 112 [.ar 1]), some (.arr 5 1 (bR l))]
theorem wsmall_c (l : List UInt8) (n : Int) (hl : l.length ≤ 1000000) : DetCall Tryz.prog G 50 1 (wHp l) [.one (.ptr 0 0), iV n] (.tup []) (wHp (l ++ [smallB n])) := by
  refine gcallc mixed Tryz.func50 ac_wire_writer_small ?_
  have h1 := bR_len l
  have h2 := bR_ul l
  have h3 := bR_app l [smallB n]
  have h4 : bR [smallB n] = [[.lit (.int .u8 ((smallB n).toNat : Int))]] := rfl
  unfold wHp
  rw [h3, h4]
  have h5 := wrap_u8 n
  repeat' (first | (with_reducible first | refine Cn (fun h => ?_) fun h => ?_ | refine And.intro ?_ ?_ | refine wR ?_ | exact wr _ _ | refine wa ?_ | apply awp_join) | (with_reducible refine CallZ.z ?_) | simp -dsimp [go_sem, h1, h2, h5])
  all_goals first | omega | (simp [UL]; done)
theorem wnumber_c (l : List UInt8) (n : Int) (hl : l.length ≤ 1000000) (hn : inNum n) : DetCall Tryz.prog G 49 1 (wHp l) [.one (.ptr 0 0), iV n] (.tup []) (wHp (l ++ numB n)) := by
  refine gcallc mixed Tryz.func49 ac_wire_writer_number ?_
  have hu := numU_conv hn
  unfold wHp
  repeat' (first | (with_reducible first | refine Cn (fun h => ?_) fun h => ?_ | refine And.intro ?_ ?_ | refine wR ?_ | exact wr _ _ | refine wa ?_ | apply awp_join) | (with_reducible refine CallZ.z ?_) | simp -dsimp [go_sem, hu])
  refine awp_loop (fun j : Nat => ⟨[(0, .one (.ptr 0 0)), (4, .one (.v (.lit (.int .u64 (numU n))))), (5, iV (56 - 8 * j))], G, wHp (l ++ (numB n).take j)⟩) (fun j => j ≤ 8) (fun j => 8 - j) 0 (weak_auto ?_) (Nat.zero_le _) ?_
  · unfold wHp
    simp -dsimp [go_sem]
  · intro j hj
    have h1 := bR_len (l ++ (numB n).take j)
    have h2 := bR_ul (l ++ (numB n).take j)
    have hlen : (l ++ (numB n).take j).length ≤ 1000008 := by simp; omega
    unfold wHp
    simp -dsimp [go_sem]
    refine Cnd.intro (fun h => ?_) (fun h => ?_)
    · have hlt : j < 8 := by simp at h; omega
      have e1 : IntKind.i64.wrap (56 - 8 * (j : Int) - 8) = 56 - 8 * ((j + 1 : Nat) : Int) := by rw [IntWalk.i64_in _ (by omega)]; omega
      have e2 : IntKind.u8.wrap ((numU n : Int).fdiv (2 ^ min (56 - 8 * (j : Int)).toNat 64)) = ((byteAt' (numU n) (56 - 8 * j)).toNat : Int) := by
        rw [show min (56 - 8 * (j : Int)).toNat 64 = 56 - 8 * j by omega]; exact byte_row _ _
      have e3 : bR (l ++ (numB n).take (j + 1)) = bR (l ++ (numB n).take j) ++ [[.lit (.int .u8 ((byteAt' (numU n) (56 - 8 * j)).toNat : Int))]] := by
        have : (numB n).take (j + 1) = (numB n).take j ++ [byteAt' (numU n) (56 - 8 * j)] := by
          have hc : j = 0 ∨ j = 1 ∨ j = 2 ∨ j = 3 ∨ j = 4 ∨ j = 5 ∨ j = 6 ∨ j = 7 := by omega
          rcases hc with rfl | rfl | rfl | rfl | rfl | rfl | rfl | rfl <;> rfl
        rw [this, ← List.append_assoc, bR_app]; rfl
      repeat' (first | (with_reducible first | refine Cn (fun h => ?_) fun h => ?_ | refine And.intro ?_ ?_ | refine wR ?_ | exact wr _ _ | refine wa ?_ | apply awp_join) | (with_reducible refine CallZ.z ?_) | simp -dsimp [go_sem, h1, h2, e1, e2])
      all_goals first | omega | (with_reducible refine Again.auto (j + 1) ?_ ?_ ?_) | (simp [UL]; done) | skip
      · simp -dsimp [go_sem, e3]
      · exact hlt
      · show 8 - (j + 1) < 8 - j
        omega
    · have hj8 : j = 8 := by simp at h; omega
      subst hj8
      have e3 : (numB n).take 8 = numB n := rfl
      rw [e3]
      simp -dsimp [go_sem]
theorem wtext_c (l : List UInt8) (t : ByteArray) (hl : l.length ≤ 900000) (ht : t.size ≤ 1000) : DetCall Tryz.prog G 51 1 (wHp l) [.one (.ptr 0 0), sV t] (.tup []) (wHp (l ++ textB t)) := by
  refine gcallc mixed Tryz.func51 ac_wire_writer_text ?_
  have h1 := bR_len (l ++ [smallB t.size])
  have h2 := bR_ul (l ++ [smallB t.size])
  have h3 : bR (l ++ textB t) = bR (l ++ [smallB t.size]) ++ bR t.data.toList := by rw [← bR_app]; simp [textB]
  have h4 := bR_ul t.data.toList
  have h5 := bR_len t.data.toList
  have h6 : t.data.toList.length = t.size := by rw [Array.length_toList]; rfl
  have h7 : (l ++ [smallB t.size]).length ≤ 900001 := by simp; omega
  unfold wHp
  rw [h3]
  repeat' (first | (with_reducible first | refine Cn (fun h => ?_) fun h => ?_ | refine And.intro ?_ ?_ | refine wR ?_ | exact wr _ _ | refine wa ?_ | apply awp_join | refine qg (wsmall_c l _ (by omega)) ?_ | refine qgd (wsmall_c l _ (by omega)) ?_) | (with_reducible refine CallZ.z ?_) | simp -dsimp [go_sem, h1, h2, h4, h5, bR_str])
  all_goals omega
theorem textB_len (t : ByteArray) : (textB t).length = t.size + 1 := by unfold textB; rw [List.length_cons, Array.length_toList]; rfl
theorem numB_len (n : Int) : (numB n).length = 8 := rfl
end Go.Proofs.YtpdcfljbabpakaaGreatDoor
set_option linter.unusedVariables false
set_option linter.unusedSimpArgs false
set_option maxRecDepth 100000
set_option maxHeartbeats 8000000
namespace Go.Proofs.YtpdcfljbabpakaaGreatDoor
open Go Go.RowKit Go.Proofs.AE
structure Rd where
  rest : List UInt8
  short : Bool
def takeR (r : Rd) (n : Nat) : List UInt8 × Rd := if r.short = true ∨ r.rest.length < n then ([], ⟨r.rest, true⟩) else (r.rest.take n, ⟨r.rest.drop n, false⟩)
def uOf (l : List UInt8) : Nat := l.foldl (fun u c => (u * 256 + c.toNat) % 18446744073709551616) 0
def numOf (l : List UInt8) : Int := IntKind.i64.wrap ((uOf l : Int) - 4611686018427387904)
def numR (r : Rd) : Int × Rd := (numOf (takeR r 8).1, (takeR r 8).2)
def smallR (r : Rd) : Nat × Rd := ((match (takeR r 1).1 with | c :: _ => c.toNat | [] => 0), (takeR r 1).2)
def txtR (r : Rd) : ByteArray × Rd := (⟨(takeR (smallR r).2 (smallR r).1).1.toArray⟩, (takeR (smallR r).2 (smallR r).1).2)
theorem takeR_app (b rest : List UInt8) {n : Nat} (h : b.length = n) : takeR ⟨b ++ rest, false⟩ n = (b, ⟨rest, false⟩) := by
  subst h
  unfold takeR
  rw [if_neg (by simp), List.take_left' rfl, List.drop_left' rfl]
theorem uOf_numB {n : Int} (h : inNum n) : uOf (numB n) = numU n := by
  have hu : numU n < 18446744073709551616 := by unfold inNum at h; unfold numU; omega
  unfold uOf numB byteAt'
  generalize numU n = u at hu
  simp only [List.foldl_cons, List.foldl_nil, UInt8.toNat_ofNat']
  omega
theorem numOf_numB {n : Int} (h : inNum n) : numOf (numB n) = n := by
  unfold numOf
  rw [uOf_numB h]
  unfold inNum at h
  unfold numU
  rw [IntWalk.i64_in _ (by omega)]
  omega
theorem numR_app {n : Int} (h : inNum n) (rest : List UInt8) : numR ⟨numB n ++ rest, false⟩ = (n, ⟨rest, false⟩) := by
  unfold numR
  rw [takeR_app (numB n) rest (n := 8) rfl, numOf_numB h]
theorem smallR_app (c : UInt8) (rest : List UInt8) : smallR ⟨c :: rest, false⟩ = (c.toNat, ⟨rest, false⟩) := by
  have := takeR_app [c] rest (n := 1) rfl
  unfold smallR
  rw [show c :: rest = [c] ++ rest from rfl, this]
theorem smallB_toNat {n : Int} (h : 0 ≤ n) (h2 : n < 256) : (smallB n).toNat = n.toNat := by
  unfold smallB
  rw [UInt8.toNat_ofNat']; omega
theorem txtR_app {t : ByteArray} (h : t.size ≤ 255) (rest : List UInt8) : txtR ⟨textB t ++ rest, false⟩ = (t, ⟨rest, false⟩) := by
  have h1 : smallR ⟨textB t ++ rest, false⟩ = (t.size, ⟨t.data.toList ++ rest, false⟩) := by
    unfold textB
    rw [List.cons_append, smallR_app, smallB_toNat (by omega) (by omega)]
    simp
  unfold txtR
  rw [h1, takeR_app _ _ (by rw [Array.length_toList]; rfl)]
theorem uOf_lt (l : List UInt8) : uOf l < 18446744073709551616 := by
  unfold uOf
  rcases l.eq_nil_or_concat with rfl | ⟨a, b, rfl⟩
  · simp
  · rw [List.concat_eq_append, List.foldl_append]
    simp only [List.foldl_cons, List.foldl_nil]
    omega
theorem uOf_snoc (l : List UInt8) (c : UInt8) : uOf (l ++ [c]) = (uOf l * 256 + c.toNat) % 18446744073709551616 := by
  unfold uOf
  rw [List.foldl_append]
  rfl
theorem takeR_len (r : Rd) (n : Nat) : (takeR r n).1.length ≤ n := by
  unfold takeR
  split
  · simp
  · simp; omega
theorem takeR_short (l : List UInt8) (n : Nat) : (takeR ⟨l, true⟩ n).2.short = true := by simp [takeR]
theorem takeR_ext {l1 : List UInt8} (l2 : List UInt8) {n : Nat} (h : (takeR ⟨l1, false⟩ n).2.short = false) : takeR ⟨l1 ++ l2, false⟩ n = ((takeR ⟨l1, false⟩ n).1, ⟨(takeR ⟨l1, false⟩ n).2.rest ++ l2, false⟩) := by
  unfold takeR at h ⊢
  split at h
  · cases h
  · rename_i h1
    have h2 : ¬ l1.length < n := by simpa using h1
    rw [if_neg (by simp; omega), if_neg h1]
    simp only
    rw [List.take_append_of_le_length (by omega), List.drop_append_of_le_length (by omega)]
structure Reads {α : Type} (f : Rd → α × Rd) : Prop where
  stuck : ∀ l, (f ⟨l, true⟩).2.short = true
  ext : ∀ l1 l2, (f ⟨l1, false⟩).2.short = false → f ⟨l1 ++ l2, false⟩ = ((f ⟨l1, false⟩).1, ⟨(f ⟨l1, false⟩).2.rest ++ l2, false⟩)
theorem Reads.take (n : Nat) : Reads (fun r => takeR r n) := ⟨fun l => takeR_short l n, fun l1 l2 h => takeR_ext l2 h⟩
theorem Reads.map {α β : Type} {f : Rd → α × Rd} (h : Reads f) (g : α → β) : Reads (fun r => (g (f r).1, (f r).2)) :=
  ⟨fun l => h.stuck l, fun l1 l2 hs => by
    have := h.ext l1 l2 hs
    simp only [this]⟩
theorem Reads.bind {α β γ : Type} {f : Rd → α × Rd} {g : α → Rd → β × Rd} (c : α → β → γ) (h : Reads f) (hg : ∀ a, Reads (g a)) : Reads (fun r => (c (f r).1 (g (f r).1 (f r).2).1, (g (f r).1 (f r).2).2)) := by
  refine ⟨fun l => ?_, fun l1 l2 hs => ?_⟩
  · have h1 := h.stuck l
    generalize f ⟨l, true⟩ = p at *
    obtain ⟨a, r, s⟩ := p
    simp only at h1 ⊢
    subst h1
    exact (hg a).stuck r
  · simp only at hs ⊢
    have h1 : (f ⟨l1, false⟩).2.short = false := by
      cases hq : (f ⟨l1, false⟩).2.short with
      | false => rfl
      | true =>
        generalize f ⟨l1, false⟩ = p at *
        obtain ⟨a, r, s⟩ := p
        simp only at hq hs
        subst hq
        rw [(hg a).stuck r] at hs; cases hs
    rw [h.ext l1 l2 h1]
    generalize f ⟨l1, false⟩ = p at *
    obtain ⟨a, r, s⟩ := p
    simp only at h1 hs ⊢
    subst h1
    rw [(hg a).ext r l2 hs]
theorem reads_num : Reads numR := (Reads.take 8).map numOf
theorem reads_small : Reads smallR := (Reads.take 1).map fun l => match l with | c :: _ => c.toNat | [] => 0
theorem reads_text : Reads txtR := Reads.bind (f := smallR) (g := fun n r => takeR r n) (fun _ b => (⟨b.toArray⟩ : ByteArray)) reads_small fun n => Reads.take n
theorem numB_numOf {b : List UInt8} (hb : b.length = 8) (h : inNum (numOf b)) : numB (numOf b) = b := by
  have hu := uOf_lt b
  have e : ((uOf b : Nat) : Int) - 4611686018427387904 = numOf b := by
    unfold numOf at h ⊢
    unfold inNum at h
    have hw : IntKind.i64.wrap ((uOf b : Int) - 4611686018427387904) = (uOf b : Int) - 4611686018427387904 ∨ IntKind.i64.wrap ((uOf b : Int) - 4611686018427387904) = (uOf b : Int) - 4611686018427387904 - 18446744073709551616 := by
      by_cases hlt : (uOf b : Int) - 4611686018427387904 ≤ 9223372036854775807
      · left; exact IntWalk.i64_in _ (by omega)
      · right
        simp [IntKind.wrap, IntKind.bits, IntKind.signed]
        omega
    omega
  have hn : numU (numOf b) = uOf b := by unfold numU; omega
  unfold numB
  rw [hn]
  match b, hb with
  | [b7, b6, b5, b4, b3, b2, b1, b0], _ =>
    have l7 := b7.toNat_lt; have l6 := b6.toNat_lt; have l5 := b5.toNat_lt; have l4 := b4.toNat_lt
    have l3 := b3.toNat_lt; have l2 := b2.toNat_lt; have l1 := b1.toNat_lt; have l0 := b0.toNat_lt
    have hU : uOf [b7, b6, b5, b4, b3, b2, b1, b0] = ((((((b7.toNat * 256 + b6.toNat) * 256 + b5.toNat) * 256 + b4.toNat) * 256 + b3.toNat) * 256 + b2.toNat) * 256 + b1.toNat) * 256 + b0.toNat := by
      simp only [uOf, List.foldl_cons, List.foldl_nil]
      omega
    rw [hU]
    have key : ∀ (u s : Nat) (c : UInt8), u / 2 ^ s % 256 = c.toNat → byteAt' u s = c := by
      intro u s c h
      apply UInt8.toNat_inj.1
      unfold byteAt'
      rw [UInt8.toNat_ofNat']; omega
    rw [key _ 56 b7 (by omega), key _ 48 b6 (by omega), key _ 40 b5 (by omega), key _ 32 b4 (by omega), key _ 24 b3 (by omega), key _ 16 b2 (by omega), key _ 8 b1 (by omega), key _ 0 b0 (by omega)]
theorem take_eats {l : List UInt8} {n : Nat} (h : (takeR ⟨l, false⟩ n).2.short = false) : (takeR ⟨l, false⟩ n).1.length = n ∧ l = (takeR ⟨l, false⟩ n).1 ++ (takeR ⟨l, false⟩ n).2.rest := by
  unfold takeR at h ⊢
  split at h
  · cases h
  · rename_i h1
    rw [if_neg h1]
    have h2 : ¬ l.length < n := by simpa using h1
    exact ⟨by simp; omega, (List.take_append_drop n l).symm⟩
theorem num_eats {l : List UInt8} (h : (numR ⟨l, false⟩).2.short = false) (hn : inNum (numR ⟨l, false⟩).1) : l = numB (numR ⟨l, false⟩).1 ++ (numR ⟨l, false⟩).2.rest := by
  unfold numR at h hn ⊢
  obtain ⟨h1, h2⟩ := take_eats h
  rw [numB_numOf h1 hn]
  exact h2
theorem small_eats {l : List UInt8} (h : (smallR ⟨l, false⟩).2.short = false) : l = smallB (smallR ⟨l, false⟩).1 :: (smallR ⟨l, false⟩).2.rest ∧ (smallR ⟨l, false⟩).1 < 256 := by
  unfold smallR at h ⊢
  obtain ⟨h1, h2⟩ := take_eats h
  generalize takeR ⟨l, false⟩ 1 = p at *
  obtain ⟨b, r⟩ := p
  simp only at h1 h2 ⊢
  match b, h1 with
  | [c], _ =>
    have := c.toNat_lt
    simp only
    refine ⟨?_, this⟩
    have hc : smallB (c.toNat : Int) = c := by
      apply UInt8.toNat_inj.1
      rw [smallB_toNat (by omega) (by omega)]
      simp
    rw [hc]; exact h2
theorem text_eats {l : List UInt8} (h : (txtR ⟨l, false⟩).2.short = false) : l = textB (txtR ⟨l, false⟩).1 ++ (txtR ⟨l, false⟩).2.rest := by
  unfold txtR at h ⊢
  have hs : (smallR ⟨l, false⟩).2.short = false := by
    cases hq : (smallR ⟨l, false⟩).2.short with
    | false => rfl
    | true =>
      generalize smallR ⟨l, false⟩ = p at *
      obtain ⟨a, r, s⟩ := p
      simp only at hq h
      subst hq
      rw [takeR_short] at h; cases h
  obtain ⟨h1, h2⟩ := small_eats hs
  generalize smallR ⟨l, false⟩ = p at *
  obtain ⟨n, r, s⟩ := p
  simp only at hs h h1 h2 ⊢
  subst hs
  obtain ⟨h3, h4⟩ := take_eats h
  unfold textB
  have h5 : ((⟨(takeR ⟨r, false⟩ n).1.toArray⟩ : ByteArray).size : Int) = n := by
    show (((takeR ⟨r, false⟩ n).1.toArray.size : Nat) : Int) = n
    simp [h3]
  rw [h5, h1]
  simp only [List.cons_append]
  congr 1
theorem num_eats' {r : Rd} (h : (numR r).2.short = false) (hn : inNum (numR r).1) : r.short = false ∧ r.rest = numB (numR r).1 ++ (numR r).2.rest := by
  obtain ⟨l, s⟩ := r
  cases s with
  | true => rw [reads_num.stuck l] at h; cases h
  | false => exact ⟨rfl, num_eats h hn⟩
theorem small_eats' {r : Rd} (h : (smallR r).2.short = false) : r.short = false ∧ r.rest = smallB (smallR r).1 :: (smallR r).2.rest ∧ (smallR r).1 < 256 := by
  obtain ⟨l, s⟩ := r
  cases s with
  | true => rw [reads_small.stuck l] at h; cases h
  | false => exact ⟨rfl, small_eats h⟩
theorem text_eats' {r : Rd} (h : (txtR r).2.short = false) : r.short = false ∧ r.rest = textB (txtR r).1 ++ (txtR r).2.rest := by
  obtain ⟨l, s⟩ := r
  cases s with
  | true => rw [reads_text.stuck l] at h; cases h
  | false => exact ⟨rfl, text_eats h⟩
end Go.Proofs.YtpdcfljbabpakaaGreatDoor
set_option linter.unusedVariables false
set_option linter.unusedSimpArgs false
set_option maxRecDepth 100000
set_option maxHeartbeats 8000000
namespace Go.Proofs.YtpdcfljbabpakaaGreatDoor
open Go Go.RowKit Go.Proofs.AE
structure Codec {α : Type} (f : Rd → α × Rd) (g : α → List UInt8) (ok : α → Prop) : Prop where
  back : ∀ a rest, ok a → f ⟨g a ++ rest, false⟩ = (a, ⟨rest, false⟩)
  reads : Reads f
  eats : ∀ r, (f r).2.short = false → ok (f r).1 → r.short = false ∧ r.rest = g (f r).1 ++ (f r).2.rest
theorem Codec.num : Codec numR numB inNum := ⟨fun n rest h => numR_app h rest, reads_num, fun r h hn => num_eats' h hn⟩
theorem Codec.text : Codec txtR textB (fun t => t.size ≤ 255) := ⟨fun t rest h => txtR_app h rest, reads_text, fun r h _ => text_eats' h⟩
def smR (r : Rd) : Int × Rd := ((smallR r).1, (smallR r).2)
theorem Codec.small : Codec smR (fun n => [smallB n]) (fun n => 0 ≤ n ∧ n < 256) := by
  refine ⟨fun n rest h => ?_, reads_small.map fun n : Nat => (n : Int), fun r h hn => ?_⟩
  · have := smallR_app (smallB n) rest
    unfold smR
    rw [show [smallB n] ++ rest = smallB n :: rest from rfl, this, smallB_toNat h.1 h.2]
    simp only [Prod.mk.injEq, and_true]
    omega
  · obtain ⟨h1, h2, _⟩ := small_eats' (r := r) h
    exact ⟨h1, h2⟩
theorem Codec.seq {α β : Type} {f : Rd → α × Rd} {g : α → List UInt8} {ok : α → Prop} {f' : Rd → β × Rd} {g' : β → List UInt8} {ok' : β → Prop} (A : Codec f g ok) (B : Codec f' g' ok') :
    Codec (fun r => (((f r).1, (f' (f r).2).1), (f' (f r).2).2)) (fun p => g p.1 ++ g' p.2) (fun p => ok p.1 ∧ ok' p.2) := by
  refine ⟨fun p rest h => ?_, Reads.bind (g := fun _ => f') Prod.mk A.reads fun _ => B.reads, fun r h ho => ?_⟩
  · simp only [List.append_assoc, A.back p.1 _ h.1, B.back p.2 _ h.2]
  · simp only at h ho ⊢
    obtain ⟨h1, h2⟩ := B.eats (f r).2 h ho.2
    obtain ⟨h3, h4⟩ := A.eats r h1 ho.1
    exact ⟨h3, by rw [h4, h2, List.append_assoc]⟩
theorem Codec.iso {α β : Type} {f : Rd → α × Rd} {g : α → List UInt8} {ok : α → Prop} (A : Codec f g ok) (to : α → β) (of : β → α) (h1 : ∀ b, to (of b) = b) (h2 : ∀ a, of (to a) = a) :
    Codec (fun r => (to (f r).1, (f r).2)) (fun b => g (of b)) (fun b => ok (of b)) := by
  refine ⟨fun b rest h => ?_, A.reads.map to, fun r h ho => ?_⟩
  · simp only [A.back (of b) rest h, h1]
  · simp only [h2] at h ho ⊢
    exact A.eats r h ho
def eachN {α : Type} (f : Rd → α × Rd) : Nat → Rd → List α × Rd
  | 0, r => ([], r)
  | n + 1, r => if r.short = true then ([], r) else ((f r).1 :: (eachN f n (f r).2).1, (eachN f n (f r).2).2)
def eachR {α : Type} (f : Rd → α × Rd) (r : Rd) : List α × Rd := eachN f (smallR r).1 (smallR r).2
def manyB {α : Type} (g : α → List UInt8) (l : List α) : List UInt8 := smallB l.length :: l.flatMap g
theorem eachN_back {α : Type} {f : Rd → α × Rd} {g : α → List UInt8} {ok : α → Prop} (A : Codec f g ok) : ∀ (l : List α) (rest : List UInt8), (∀ a ∈ l, ok a) → eachN f l.length ⟨l.flatMap g ++ rest, false⟩ = (l, ⟨rest, false⟩)
  | [], rest, _ => rfl
  | a :: l, rest, h => by
    have ih := eachN_back A l rest fun b hb => h b (List.mem_cons_of_mem _ hb)
    have ha := A.back a (l.flatMap g ++ rest) (h a (List.mem_cons_self ..))
    simp only [List.length_cons, eachN, List.flatMap_cons, List.append_assoc, Bool.false_eq_true, if_false, ha, ih]
theorem eachN_stuck {α : Type} {f : Rd → α × Rd} : ∀ (n : Nat) (l : List UInt8), (eachN f n ⟨l, true⟩).2.short = true
  | 0, _ => rfl
  | n + 1, l => by simp [eachN]
theorem eachN_reads {α : Type} {f : Rd → α × Rd} (A : Reads f) : ∀ n, Reads (eachN f n)
  | 0 => ⟨fun l => rfl, fun l1 l2 _ => rfl⟩
  | n + 1 => by
    have ih := eachN_reads A n
    have hb := Reads.bind (f := f) (g := fun _ => eachN f n) (fun a l => a :: l) A fun _ => ih
    refine ⟨fun l => eachN_stuck (n + 1) l, fun l1 l2 h => ?_⟩
    simp only [eachN, Bool.false_eq_true, if_false] at h ⊢
    exact hb.ext l1 l2 h
theorem eachN_eats {α : Type} {f : Rd → α × Rd} {g : α → List UInt8} {ok : α → Prop} (A : Codec f g ok) : ∀ (n : Nat) (r : Rd), (eachN f n r).2.short = false → (∀ a ∈ (eachN f n r).1, ok a) → r.short = false ∧ (eachN f n r).1.length = n ∧ r.rest = (eachN f n r).1.flatMap g ++ (eachN f n r).2.rest
  | 0, r, h, _ => ⟨h, rfl, rfl⟩
  | n + 1, r, h, ho => by
    unfold eachN at h ho ⊢
    by_cases hs : r.short = true
    · rw [if_pos hs] at h; rw [hs] at h; cases h
    · rw [if_neg hs] at h ho ⊢
      simp only [List.mem_cons] at h ho ⊢
      obtain ⟨i1, i2, i3⟩ := eachN_eats A n (f r).2 h fun a ha => ho a (.inr ha)
      obtain ⟨j1, j2⟩ := A.eats r i1 (ho _ (.inl rfl))
      exact ⟨j1, by simp [i2], by rw [j2, i3]; simp⟩
theorem Codec.many {α : Type} {f : Rd → α × Rd} {g : α → List UInt8} {ok : α → Prop} (A : Codec f g ok) : Codec (eachR f) (manyB g) (fun l => l.length ≤ 255 ∧ ∀ a ∈ l, ok a) := by
  refine ⟨fun l rest h => ?_, ?_, fun r h ho => ?_⟩
  · unfold eachR manyB
    rw [List.cons_append, smallR_app, smallB_toNat (by omega) (by omega)]
    simp only [Int.toNat_natCast]
    exact eachN_back A l rest h.2
  · exact Reads.bind (f := smallR) (g := fun n => eachN f n) (fun _ l => l) reads_small fun n => eachN_reads A.reads n
  · unfold eachR at h ho ⊢
    obtain ⟨h1, h2, h3⟩ := eachN_eats A _ _ h ho.2
    obtain ⟨h4, h5, _⟩ := small_eats' (r := r) h1
    refine ⟨h4, ?_⟩
    unfold manyB
    rw [h5, h3, h2]
    rfl
def prR (r : Rd) : Pr × Rd := (((txtR r).1, (txtR (txtR r).2).1), (txtR (txtR r).2).2)
def prB (p : Pr) : List UInt8 := textB p.1 ++ textB p.2
theorem Codec.pr : Codec prR prB (fun p => p.1.size ≤ 255 ∧ p.2.size ≤ 255) := Codec.seq Codec.text Codec.text
def scR (r : Rd) : Sc × Rd := (((txtR r).1, (numR (txtR r).2).1), (numR (txtR r).2).2)
def scB (s : Sc) : List UInt8 := textB s.1 ++ numB s.2
theorem Codec.sc : Codec scR scB (fun s => s.1.size ≤ 255 ∧ inNum s.2) := Codec.seq Codec.text Codec.num
abbrev ValT : Type := Int × ByteArray × Int × List Pr × List ByteArray × List Sc
def valT (v : Val) : ValT := (v.kind, v.text, v.count, v.pairs, v.items, v.scores)
def tVal (p : ValT) : Val := ⟨p.1, p.2.1, p.2.2.1, p.2.2.2.1, p.2.2.2.2.1, p.2.2.2.2.2⟩
def sqR {α β : Type} (f : Rd → α × Rd) (g : Rd → β × Rd) (r : Rd) : (α × β) × Rd := (((f r).1, (g (f r).2).1), (g (f r).2).2)
def mapR {α β : Type} (t : α → β) (f : Rd → α × Rd) (r : Rd) : β × Rd := (t (f r).1, (f r).2)
def valR : Rd → Val × Rd := mapR tVal (sqR smR (sqR txtR (sqR numR (sqR (eachR prR) (sqR (eachR txtR) (eachR scR))))))
def valB (v : Val) : List UInt8 := [smallB v.kind] ++ (textB v.text ++ (numB v.count ++ (manyB prB v.pairs ++ (manyB textB v.items ++ manyB scB v.scores))))
structure SizV (v : Val) : Prop where
  kind : 0 ≤ v.kind ∧ v.kind < 256
  text : v.text.size ≤ 255
  count : inNum v.count
  pairs : v.pairs.length ≤ 255 ∧ ∀ p ∈ v.pairs, p.1.size ≤ 255 ∧ p.2.size ≤ 255
  items : v.items.length ≤ 255 ∧ ∀ t ∈ v.items, t.size ≤ 255
  scores : v.scores.length ≤ 255 ∧ ∀ s ∈ v.scores, s.1.size ≤ 255 ∧ inNum s.2
theorem Codec.ok {α : Type} {f : Rd → α × Rd} {g : α → List UInt8} {ok ok' : α → Prop} (A : Codec f g ok) (h : ∀ a, ok' a → ok a) : Codec f g ok' := ⟨fun a rest ha => A.back a rest (h a ha), A.reads, fun r hs ha => A.eats r hs (h _ ha)⟩
theorem Codec.val : Codec valR valB SizV :=
  ((Codec.small.seq (Codec.text.seq (Codec.num.seq (Codec.pr.many.seq (Codec.text.many.seq Codec.sc.many))))).iso tVal valT (fun v => rfl) (fun p => rfl)).ok
    fun v h => ⟨h.kind, h.text, h.count, h.pairs, h.items, h.scores⟩
abbrev EntT : Type := ByteArray × Val × Int
def tEnt (p : EntT) : Ent := ⟨p.1, p.2.1, p.2.2⟩
def entR : Rd → Ent × Rd := mapR tEnt (sqR txtR (sqR valR numR))
def entB (e : Ent) : List UInt8 := textB e.key ++ (valB e.val ++ numB e.till)
structure SizE (e : Ent) : Prop where
  key : e.key.size ≤ 255
  val : SizV e.val
  till : inNum e.till
theorem Codec.ent : Codec entR entB SizE :=
  ((Codec.text.seq (Codec.val.seq Codec.num)).iso tEnt (fun e => (e.key, e.val, e.till)) (fun e => rfl) (fun p => rfl)).ok fun e h => ⟨h.key, h.val, h.till⟩
abbrev CliT : Type := Int × Int × Int × Int × ByteArray × Int × List ByteArray
def tCli (p : CliT) : Cli := ⟨p.1, p.2.1, p.2.2.1, ⟨p.2.2.2.1, p.2.2.2.2.1, p.2.2.2.2.2.1, p.2.2.2.2.2.2⟩⟩
def cliR : Rd → Cli × Rd := mapR tCli (sqR numR (sqR numR (sqR numR (sqR smR (sqR txtR (sqR numR (eachR txtR)))))))
def cliB (x : Cli) : List UInt8 := numB x.id ++ (numB x.seq ++ (numB x.time ++ ([smallB x.reply.code] ++ (textB x.reply.text ++ (numB x.reply.n ++ manyB textB x.reply.list)))))
structure SizC (x : Cli) : Prop where
  id : inNum x.id
  seq : inNum x.seq
  time : inNum x.time
  code : 0 ≤ x.reply.code ∧ x.reply.code < 256
  text : x.reply.text.size ≤ 255
  n : inNum x.reply.n
  list : x.reply.list.length ≤ 255 ∧ ∀ t ∈ x.reply.list, t.size ≤ 255
theorem Codec.cli : Codec cliR cliB SizC :=
  ((Codec.num.seq (Codec.num.seq (Codec.num.seq (Codec.small.seq (Codec.text.seq (Codec.num.seq Codec.text.many)))))).iso tCli (fun x => (x.id, x.seq, x.time, x.reply.code, x.reply.text, x.reply.n, x.reply.list)) (fun x => rfl) (fun p => rfl)).ok
    fun x h => ⟨h.id, h.seq, h.time, h.code, h.text, h.n, h.list⟩
abbrev MachT : Type := Int × List Ent × Int × List Cli
def tMach (p : MachT) : Mach := ⟨⟨p.1, p.2.1⟩, p.2.2.1, p.2.2.2⟩
def machR : Rd → Mach × Rd := mapR tMach (sqR numR (sqR (eachR entR) (sqR numR (eachR cliR))))
def machB (m : Mach) : List UInt8 := numB m.sto.now ++ (manyB entB m.sto.ents ++ (numB m.next ++ manyB cliB m.clis))
structure SizM (m : Mach) : Prop where
  now : inNum m.sto.now
  ents : m.sto.ents.length ≤ 255 ∧ ∀ e ∈ m.sto.ents, SizE e
  next : inNum m.next
  clis : m.clis.length ≤ 255 ∧ ∀ x ∈ m.clis, SizC x
theorem Codec.mach : Codec machR machB SizM :=
  ((Codec.num.seq (Codec.ent.many.seq (Codec.num.seq Codec.cli.many))).iso tMach (fun m => (m.sto.now, m.sto.ents, m.next, m.clis)) (fun m => rfl) (fun p => rfl)).ok fun m h => ⟨h.now, h.ents, h.next, h.clis⟩
theorem okT_size {t : ByteArray} (h : okText t = true) : t.size ≤ 20 := by unfold okText at h; simp at h; omega
theorem okF_size {t : ByteArray} (h : okField t = true) : t.size ≤ 12 := by unfold okField at h; simp at h; omega
theorem okC_num {n : Int} (h : okCount n = true) : inNum n := by unfold okCount at h; simp at h; unfold inNum; omega
theorem OkV.siz {v : Val} (h : OkV v) : SizV v := by
  have hb := h.b
  have he := hb.els
  unfold Val.els at he
  refine ⟨by have := h.kind; omega, by have := okT_size h.okT; omega, okC_num h.okC, ⟨by omega, fun p hp => ?_⟩, ⟨by omega, fun t ht => ?_⟩, ⟨by omega, fun s hs => ?_⟩⟩
  · have := h.okP p hp; have h1 := okF_size this.1; have h2 := okT_size this.2; omega
  · have := okT_size (h.okI t ht); omega
  · have := h.okS s hs; have h1 := okT_size this.1; exact ⟨by omega, okC_num this.2⟩
theorem OkE.siz {now : Int} (h0 : 0 ≤ now) {e : Ent} (h : OkE now e) : SizE e := by
  refine ⟨by have := okF_size h.key; omega, h.val.siz, ?_⟩
  have := h.till
  unfold inNum; omega
theorem OkC.siz {next now : Int} (hn : next ≤ 1048577) (hw : now ≤ 1073741824) {x : Cli} (h : OkC next now x) : SizC x := by
  have hr := checkR_iff.1 h.reply
  have h1 := h.id; have h2 := h.seq; have h3 := h.time
  refine ⟨by unfold inNum; omega, by unfold inNum; omega, by unfold inNum; omega, by have := hr.code; omega, by have := okT_size hr.text; omega, okC_num hr.n, ⟨by have := hr.len; omega, fun t ht => by have := okT_size (hr.list t ht); omega⟩⟩
theorem OkM.siz {m : Mach} (h : OkM m) : SizM m := by
  have h1 := h.sto.now; have h2 := h.next
  exact ⟨by unfold inNum; omega, ⟨by have := h.sto.len; omega, fun e he => (h.sto.all e he).siz h1.1⟩, by unfold inNum; omega, ⟨by have := h.len; omega, fun x hx => (h.all x hx).siz h2.2 h1.2⟩⟩
def endR (r : Rd) : Int := if r.short = true then 9 else if 0 < r.rest.length then 8 else 0
def decM (l : List UInt8) : Mach × Int :=
  if 20000 < l.length then (zeroM, 1)
  else if endR (machR ⟨l, false⟩).2 ≠ 0 then (zeroM, endR (machR ⟨l, false⟩).2)
  else if checkM (machR ⟨l, false⟩).1 ≠ 0 then (zeroM, checkM (machR ⟨l, false⟩).1)
  else ((machR ⟨l, false⟩).1, 0)
theorem decM_back {m : Mach} (h : OkM m) (hl : (machB m).length ≤ 20000) : decM (machB m) = (m, 0) := by
  have e := Codec.mach.back m [] h.siz
  rw [List.append_nil] at e
  unfold decM
  rw [if_neg (by omega), e]
  simp only [endR]
  rw [if_neg (by simp), if_neg (by rw [checkM_iff.2 h]; simp)]
theorem decM_more {m : Mach} (h : OkM m) (t : UInt8) (hl : (machB m).length < 20000) : decM (machB m ++ [t]) = (zeroM, 8) := by
  have e := Codec.mach.back m [t] h.siz
  unfold decM
  rw [if_neg (by simp; omega), e]
  simp [endR]
theorem decM_torn {m : Mach} (h : OkM m) {k : Nat} (hk : k < (machB m).length) (hl : (machB m).length ≤ 20000) : decM ((machB m).take k) = (zeroM, 9) := by
  have hs : (machR ⟨(machB m).take k, false⟩).2.short = true := by
    cases hq : (machR ⟨(machB m).take k, false⟩).2.short with
    | true => rfl
    | false =>
      have e := Codec.mach.back m [] h.siz
      rw [List.append_nil] at e
      have e2 := Codec.mach.reads.ext ((machB m).take k) ((machB m).drop k) hq
      rw [List.take_append_drop, e] at e2
      have e3 := congrArg (fun q => q.2.rest) e2
      simp only at e3
      have e4 := congrArg List.length e3
      simp at e4
      omega
  unfold decM
  rw [if_neg (by rw [List.length_take]; omega)]
  have he : endR (machR ⟨(machB m).take k, false⟩).2 = 9 := by unfold endR; rw [if_pos hs]
  rw [he, if_pos (by omega)]
theorem flat_len {α : Type} {g : α → List UInt8} {b : Nat} : ∀ (l : List α), (∀ a ∈ l, (g a).length ≤ b) → (l.flatMap g).length ≤ l.length * b
  | [], _ => by simp
  | a :: l, h => by
    have ih := flat_len l fun x hx => h x (List.mem_cons_of_mem _ hx)
    have ha := h a (List.mem_cons_self ..)
    rw [List.flatMap_cons, List.length_append, List.length_cons, Nat.add_mul]
    omega
theorem many_len {α : Type} {g : α → List UInt8} {b : Nat} {l : List α} (h : ∀ a ∈ l, (g a).length ≤ b) : (manyB g l).length ≤ 1 + l.length * b := by
  unfold manyB
  rw [List.length_cons]
  have := flat_len l h
  omega
theorem valB_len' {v : Val} (h : OkV v) : (valB v).length ≤ 900 := by
  have hb := h.b
  have he := hb.els
  unfold Val.els at he
  have h1 := okT_size h.okT
  have p := many_len (g := prB) (b := 34) (l := v.pairs) fun p hp => by
    have := h.okP p hp; have a := okF_size this.1; have b := okT_size this.2
    unfold prB; rw [List.length_append, textB_len, textB_len]; omega
  have i := many_len (g := textB) (b := 34) (l := v.items) fun t ht => by have := okT_size (h.okI t ht); rw [textB_len]; omega
  have s := many_len (g := scB) (b := 34) (l := v.scores) fun s hs => by
    have := h.okS s hs; have a := okT_size this.1
    unfold scB; rw [List.length_append, textB_len, numB_len]; omega
  unfold valB
  simp only [List.length_append, textB_len, numB_len, List.length_cons, List.length_nil]
  omega
theorem machB_len {m : Mach} (h : OkM m) : (machB m).length ≤ 13500 := by
  have e := many_len (g := entB) (b := 930) (l := m.sto.ents) fun e he => by
    have ok := h.sto.all e he
    have a := okF_size ok.key; have b := valB_len' ok.val
    unfold entB; simp only [List.length_append, textB_len, numB_len]; omega
  have c := many_len (g := cliB) (b := 500) (l := m.clis) fun x hx => by
    have hr := checkR_iff.1 (h.all x hx).reply
    have a := okT_size hr.text
    have b := many_len (g := textB) (b := 21) (l := x.reply.list) fun t ht => by have := okT_size (hr.list t ht); rw [textB_len]; omega
    have l := hr.len
    unfold cliB; simp only [List.length_append, textB_len, numB_len, List.length_cons, List.length_nil]; omega
  have h1 := h.sto.len
  have h2 := h.len
  unfold machB
  simp only [List.length_append, numB_len]
  omega
theorem machB_pos (m : Mach) : 0 < (machB m).length := by unfold machB; simp [numB_len]; omega
end Go.Proofs.YtpdcfljbabpakaaGreatDoor
set_option linter.unusedVariables false
set_option linter.unusedSimpArgs false
set_option maxRecDepth 100000
set_option maxHeartbeats 8000000
namespace Go.Proofs.YtpdcfljbabpakaaGreatDoor
open Go Go.RowKit Go.Proofs.AE
variable {G : Nat → AV}
abbrev bC (b : Bool) : C := .v (.lit (.bool b))
def noCall (client seq k : Int) (key field text : ByteArray) (n : Int) : Bool := client == 0 && (seq == 0 && (k == 0 && (decide (key = ⟨#[]⟩) && (decide (field = ⟨#[]⟩) && (decide (text = ⟨#[]⟩) && n == 0)))))
def checkItem (term time : Int) (nop : Bool) (client seq k : Int) (key field text : ByteArray) (n : Int) : Int :=
  if decide (term < 1) then 2 else if decide (1048576 < term) then 2 else if decide (time < 0) then 2 else if decide (1073741824 < time) then 2
  else if nop then (if noCall client seq k key field text n then 0 else 8) else checkCall client seq k key field text n
theorem checkItem_c (term time : Int) (nop : Bool) (client seq k : Int) (key field text : ByteArray) (n : Int) :
    PCall Tryz.prog G 43 [.agg [iC term, iC time, bC nop, iC client, iC seq, iC k, sC key, sC field, sC text, iC n]] (iV (checkItem term time nop client seq k key field text n)) := by
  refine pcallc mixed Tryz.func43 ac_wire_CheckItem ?_
  repeat' (first | (with_reducible first | refine Cn (fun h => ?_) fun h => ?_ | refine And.intro ?_ ?_ | refine wR ?_ | exact wr _ _ | refine wa ?_ | apply awp_join | refine q (checkCall_c _ _ _ _ _ _ _) ?_ | refine qd (checkCall_c _ _ _ _ _ _ _) ?_ | refine qz (checkCall_c _ _ _ _ _ _ _) ?_) | (with_reducible refine CallZ.z ?_) | simp -dsimp [go_sem])
  all_goals simp_all [checkItem, noCall]
  all_goals ((repeat' split) <;> first | rfl | omega | (exfalso; simp_all; done))
def itemCall (client off kind key field n : Int) (text : ByteArray) : List C :=
  if pk client 5 = 0 ∨ pk client 5 = 1 then [iC 0, iC 0, iC 0, sC ⟨#[]⟩, sC ⟨#[]⟩, sC ⟨#[]⟩, iC 0] else iC (pk client 50 + 1) :: iC (1 + pk off 100) :: cmdOf (1 + pk kind 22) key field n text
theorem item_c (client off wait kind key field n : Int) (text : ByteArray) (term time : Int) (hc : i64 client) (ho : i64 off) (h1 : i64 kind) (h2 : i64 key) (h3 : i64 field) (h4 : i64 n) (ht : i64 term) (hi : i64 time) :
    PCall Tryz.prog G 68 [.agg [iC client, iC off, iC wait, iC kind, iC key, iC field, iC n, sC text], iV term, iV time]
      (.agg (iC (1 + pk term 1000) :: iC (pk time 100000) :: bC (decide (pk client 5 = 0)) :: itemCall client off kind key field n text)) := by
  have r1 := pk_range (n := term) (m := 1000) (by omega)
  have r2 := pk_range (n := client) (m := 50) (by omega)
  have r3 := pk_range (n := off) (m := 100) (by omega)
  have e1 : IntKind.i64.wrap (1 + pk term 1000) = 1 + pk term 1000 := IntWalk.i64_in _ (by omega)
  have e2 : IntKind.i64.wrap (pk client 50 + 1) = pk client 50 + 1 := IntWalk.i64_in _ (by omega)
  have e3 : IntKind.i64.wrap (1 + pk off 100) = 1 + pk off 100 := IntWalk.i64_in _ (by omega)
  refine pcallc mixed Tryz.func68 ac_rostrumkeep_Item ?_
  repeat' (first | (with_reducible first | refine Cn (fun h => ?_) fun h => ?_ | refine And.intro ?_ ?_ | refine wR ?_ | exact wr _ _ | refine wa ?_ | apply awp_join | refine q1 (by exact picked_c _ _ (by assumption) (by simp)) ?_ | refine q1d (by exact picked_c _ _ (by assumption) (by simp)) ?_ | refine q1 (by exact picked_c _ _ (by assumption) (by simp)) ?_ | refine q1d (by exact picked_c _ _ (by assumption) (by simp)) ?_ | refine q1 (by exact command_c _ _ _ _ _ (by assumption) (by assumption) (by assumption) (by assumption)) ?_ | refine q1d (by exact command_c _ _ _ _ _ (by assumption) (by assumption) (by assumption) (by assumption)) ?_) | (with_reducible refine CallZ.z ?_) | simp -dsimp [go_sem, cmdOf, e1, e2, e3])
  all_goals simp_all [itemCall, cmdOf, coeCs, coeC]
end Go.Proofs.YtpdcfljbabpakaaGreatDoor
set_option linter.unusedVariables false
set_option linter.unusedSimpArgs false
set_option maxRecDepth 100000
set_option maxHeartbeats 8000000
namespace Go.Proofs.YtpdcfljbabpakaaGreatDoor
open Go Go.RowKit Go.Proofs.AE
variable {G : Nat → AV}
theorem callGood {client off kind key field n : Int} {text : ByteArray} (h4 : i64 n) : ∀ c s k a b d m, itemCall client off kind key field n text = [iC c, iC s, iC k, sC a, sC b, sC d, iC m] → checkCall c s k a b d m = 0 := by
  intro c s k a b d m h
  have r2 := pk_range (n := client) (m := 50) (by omega)
  have r3 := pk_range (n := off) (m := 100) (by omega)
  unfold itemCall at h
  split at h
  · simp only [List.cons.injEq, C.v.injEq, V.lit.injEq, Value.int.injEq, Value.string.injEq, and_true, true_and] at h
    obtain ⟨rfl, rfl, rfl, rfl, rfl, rfl, rfl⟩ := h
    decide
  · simp only [List.cons.injEq, C.v.injEq, V.lit.injEq, Value.int.injEq, true_and] at h
    obtain ⟨rfl, rfl, h⟩ := h
    have hc := cmd_ok kind key field n text h4 k a b d m h
    have h1 : okNumber (pk client 50 + 1) = true := by simp only [okNumber, Bool.and_eq_true, decide_eq_true_eq]; omega
    have h2 : okNumber (1 + pk off 100) = true := by simp only [okNumber, Bool.and_eq_true, decide_eq_true_eq]; omega
    have h3 : ¬ pk client 50 + 1 = 0 := by omega
    simp [checkCall, h1, h2, h3, hc]
end Go.Proofs.YtpdcfljbabpakaaGreatDoor
set_option linter.unusedVariables false
set_option linter.unusedSimpArgs false
set_option maxRecDepth 100000
set_option maxHeartbeats 8000000
namespace Go.Proofs.YtpdcfljbabpakaaGreatDoor
open Go Go.RowKit Go.Proofs.AE
variable {G : Nat → AV}
structure Item where
  term : Int
  time : Int
  nop : Bool
  client : Int
  seq : Int
  k : Int
  key : ByteArray
  field : ByteArray
  text : ByteArray
  n : Int
def Item.row (x : Item) : List V := [iL x.term, iL x.time, .lit (.bool x.nop), iL x.client, iL x.seq, iL x.k, sL x.key, sL x.field, sL x.text, iL x.n]
def Item.check (x : Item) : Int := checkItem x.term x.time x.nop x.client x.seq x.k x.key x.field x.text x.n
noncomputable def itemOf (d : Deed) (term time : Int) : Item :=
  if pk d.client 5 = 0 ∨ pk d.client 5 = 1 then ⟨term, time, decide (pk d.client 5 = 0), 0, 0, 0, ⟨#[]⟩, ⟨#[]⟩, ⟨#[]⟩, 0⟩
  else match cmdOf (1 + pk d.kind 22) d.key d.field d.n d.text with
    | [.v (.lit (.int _ k)), .v (.lit (.string a)), .v (.lit (.string b)), .v (.lit (.string c)), .v (.lit (.int _ m))] => ⟨term, time, false, pk d.client 50 + 1, 1 + pk d.off 100, k, a, b, c, m⟩
    | _ => ⟨0, 0, false, 0, 0, 0, ⟨#[]⟩, ⟨#[]⟩, ⟨#[]⟩, 0⟩
theorem itemOf_call (d : Deed) (term time : Int) : itemCall d.client d.off d.kind d.key d.field d.n d.text = [iC (itemOf d term time).client, iC (itemOf d term time).seq, iC (itemOf d term time).k, sC (itemOf d term time).key, sC (itemOf d term time).field, sC (itemOf d term time).text, iC (itemOf d term time).n] := by
  unfold itemCall itemOf
  split
  · rfl
  · simp [cmdOf]
theorem itemOf_head (d : Deed) (term time : Int) : (itemOf d term time).term = term ∧ (itemOf d term time).time = time ∧ (itemOf d term time).nop = decide (pk d.client 5 = 0) := by
  unfold itemOf
  split
  · exact ⟨rfl, rfl, rfl⟩
  · rename_i h
    have : ¬ pk d.client 5 = 0 := fun e => h (.inl e)
    simp [cmdOf, this]
noncomputable def itemsGo : List Deed → Int → Int → List Item
  | [], _, _ => []
  | d :: l, term, time => itemOf d (term + (pk d.off 4).tdiv 3) (time + pk d.wait 3) :: itemsGo l (term + (pk d.off 4).tdiv 3) (time + pk d.wait 3)
noncomputable def itemsOf (l : List Deed) (term : Int) : List Item := itemsGo (l.take 30) term 0
theorem itemsO_c (l : List Deed) (term : Int) (hl : (l.length : Int) ≤ 9223372036854775807) (hd : ∀ d ∈ l, d.Ok) (ht : 0 ≤ term ∧ term ≤ 1000) :
    DetCall Tryz.prog G 33 0 [] [.one (.v (.sl (l.map Deed.row))), iV term] (.one (.ar 0)) [some (.arr 41 10 ((itemsOf l term).map Item.row))] := by
  refine gcallc mixed Tryz.func33 ac_rostrumkeep_items ?_
  simp -dsimp [go_sem]
  refine awp_loop (fun x : Nat × Int × Int × List Item => ⟨[(0, .one (.v (.sl (l.map Deed.row)))), (1, iV x.2.1), (5, .one (.ar 0)), (6, iV x.2.2.1), (7, iV x.1)], G, [some (.arr 41 10 (x.2.2.2.map Item.row))]⟩)
    (fun x => x.1 ≤ 30 ∧ x.1 ≤ l.length ∧ x.2.2.2.length = x.1 ∧ 0 ≤ x.2.1 ∧ x.2.1 ≤ term + x.1 ∧ 0 ≤ x.2.2.1 ∧ x.2.2.1 ≤ 2 * x.1 ∧ x.2.2.2 ++ itemsGo ((l.take 30).drop x.1) x.2.1 x.2.2.1 = itemsOf l term)
    (fun x => 30 - x.1) (0, term, 0, []) (Weak.trans (weak_nil 5 41 10 ?_ (by omega)) (weak_auto ?_)) ?_ ?_
  · simp -dsimp [go_sem]
  · simp -dsimp [go_sem]
  · exact ⟨by omega, by simp, rfl, ht.1, by simp, by simp, by simp, by simp [itemsOf]⟩
  · rintro ⟨i, te, ti, acc⟩ ⟨a1, a2, a3, a4, a5, a6, a7, a8⟩
    simp only at a1 a2 a3 a4 a5 a6 a7 a8
    have hend : (l.take 30).length ≤ i → itemsOf l term = acc := by
      intro h
      rw [List.drop_eq_nil_of_le h] at a8
      simp only [itemsGo, List.append_nil] at a8
      exact a8.symm
    simp -dsimp [go_sem]
    refine Cnd.intro (fun h => ?_) (fun h => ?_)
    · have hlt : i < l.length := by simpa using h
      simp -dsimp [go_sem]
      refine Cnd.intro (fun h' => ?_) (fun h' => ?_)
      · have hlt' : i < 30 := by simp at h'; omega
        obtain ⟨d, hdi⟩ : ∃ d, l[i]? = some d := ⟨_, List.getElem?_eq_getElem hlt⟩
        have hgi : (l.map Deed.row)[i]? = some d.row := by simp [hdi]
        obtain ⟨o1, o2, o3, o4, o5, o6, o7⟩ := hd d (List.mem_of_getElem? hdi)
        have z0 : i64 0 := by unfold i64; omega
        have p1 : pk 0 1000 = 0 := by decide
        have p2 : pk 0 100000 = 0 := by decide
        have q1 := pk_range (n := d.off) (m := 4) (by omega)
        have q2 := pk_range (n := d.wait) (m := 3) (by omega)
        have q3 : 0 ≤ (pk d.off 4).tdiv 3 ∧ (pk d.off 4).tdiv 3 ≤ 1 := by
          rw [Int.tdiv_eq_ediv_of_nonneg q1.1]; omega
        have e1 : IntKind.i64.wrap ((pk d.off 4).tdiv 3) = (pk d.off 4).tdiv 3 := IntWalk.i64_in _ (by omega)
        have e2 : IntKind.i64.wrap (te + (pk d.off 4).tdiv 3) = te + (pk d.off 4).tdiv 3 := IntWalk.i64_in _ (by omega)
        have e3 : IntKind.i64.wrap (ti + pk d.wait 3) = ti + pk d.wait 3 := IntWalk.i64_in _ (by omega)
        have e4 : IntKind.i64.wrap ((i : Int) + 1) = (i : Int) + 1 := IntWalk.i64_in _ (by omega)
        have hI := itemOf_call d (te + (pk d.off 4).tdiv 3) (ti + pk d.wait 3)
        repeat' (first | (with_reducible first | refine Cn (fun h => ?_) fun h => ?_ | refine And.intro ?_ ?_ | refine wR ?_ | exact wr _ _ | refine wa ?_ | apply awp_join | refine q1 (by exact picked_c _ _ (by assumption) (by simp)) ?_ | refine q1d (by exact picked_c _ _ (by assumption) (by simp)) ?_ | refine q1 (by exact item_c _ _ _ _ _ _ _ _ _ _ (by assumption) (by assumption) (by assumption) (by assumption) (by assumption) (by assumption) (by assumption) (by assumption)) ?_ | refine q1d (by exact item_c _ _ _ _ _ _ _ _ _ _ (by assumption) (by assumption) (by assumption) (by assumption) (by assumption) (by assumption) (by assumption) (by assumption)) ?_) | (with_reducible refine CallZ.z ?_) | simp -dsimp [go_sem, Deed.row, hgi, hI, p1, p2, e1, e2, e3, e4])
        all_goals (try omega)
        all_goals (try (simp [UL]; done))
        have hdrop : (l.take 30).drop i = d :: (l.take 30).drop (i + 1) := by
          have hi : i < (l.take 30).length := by simp; omega
          rw [List.drop_eq_getElem_cons hi]
          congr 1
          rw [List.getElem_take]
          rw [List.getElem?_eq_getElem hlt] at hdi
          exact Option.some.inj hdi
        obtain ⟨t1, t2, t3⟩ := itemOf_head d (te + (pk d.off 4).tdiv 3) (ti + pk d.wait 3)
        refine Again.auto (i + 1, te + (pk d.off 4).tdiv 3, ti + pk d.wait 3, acc ++ [itemOf d (te + (pk d.off 4).tdiv 3) (ti + pk d.wait 3)]) ?_ ⟨by simp; omega, by simp; omega, by simp [a3], by simp; omega, by simp; omega, by simp; omega, by simp; omega, ?_⟩ (by simp; omega)
        · simp -dsimp [go_sem, Item.row, t1, t2, t3, e1, e2, e3, e4]
        · rw [hdrop] at a8
          simp only [itemsGo] at a8
          simpa using a8
      · have : (l.take 30).length ≤ i := by simp at h' ⊢; omega
        rw [hend this]
        simp -dsimp [go_sem]
    · have : (l.take 30).length ≤ i := by simp at h ⊢; omega
      rw [hend this]
      simp -dsimp [go_sem]
theorem items_c (l : List Deed) (term : Int) (hl : (l.length : Int) ≤ 9223372036854775807) (hd : ∀ d ∈ l, d.Ok) (ht : 0 ≤ term ∧ term ≤ 1000) :
    PCall Tryz.prog G 33 [.one (.v (.sl (l.map Deed.row))), iV term] (.one (.v (.sl ((itemsOf l term).map Item.row)))) :=
  (itemsO_c l term hl hd ht).plain (by simp -dsimp [go_sem])
end Go.Proofs.YtpdcfljbabpakaaGreatDoor
set_option linter.unusedVariables false
set_option linter.unusedSimpArgs false
set_option maxRecDepth 100000
set_option maxHeartbeats 8000000
namespace Go.Proofs.YtpdcfljbabpakaaGreatDoor
open Go Go.RowKit Go.Proofs.AE
variable {G : Nat → AV}
theorem noCall_iff {client seq k : Int} {a b c : ByteArray} {n : Int} : noCall client seq k a b c n = true ↔ client = 0 ∧ seq = 0 ∧ k = 0 ∧ a = ⟨#[]⟩ ∧ b = ⟨#[]⟩ ∧ c = ⟨#[]⟩ ∧ n = 0 := by
  simp [noCall]
theorem call_bounds {client seq k : Int} {a b c : ByteArray} {n : Int} (h : checkCall client seq k a b c n = 0) :
    (client = 0 ∧ seq = 0 ∧ k = 0 ∧ a = ⟨#[]⟩ ∧ b = ⟨#[]⟩ ∧ c = ⟨#[]⟩ ∧ n = 0) ∨ (1 ≤ client ∧ client ≤ 1048576 ∧ 1 ≤ seq ∧ seq ≤ 1048576 ∧ checkCommand k a b c n = 0) := by
  unfold checkCall at h
  split at h
  · rename_i h0
    left
    split at h
    · rename_i h1
      simp only [decide_eq_true_eq] at h0
      simp only [Bool.and_eq_true, beq_iff_eq, decide_eq_true_eq] at h1
      exact ⟨h0, h1⟩
    · cases h
  · split at h
    · rename_i h1
      split at h
      · rename_i h2
        right
        simp only [okNumber, Bool.and_eq_true, decide_eq_true_eq] at h1 h2
        exact ⟨h1.1, h1.2, h2.1, h2.2, h⟩
      · cases h
    · cases h
theorem item_ok {x : Item} (h : x.check = 0) : 1 ≤ x.term ∧ x.term ≤ 1048576 ∧ 0 ≤ x.time ∧ x.time ≤ 1073741824 ∧ (x.nop = true → x.client = 0) ∧
    ((x.client = 0 ∧ x.seq = 0 ∧ x.k = 0 ∧ x.key = ⟨#[]⟩ ∧ x.field = ⟨#[]⟩ ∧ x.text = ⟨#[]⟩ ∧ x.n = 0) ∨ (1 ≤ x.client ∧ x.client ≤ 1048576 ∧ 1 ≤ x.seq ∧ x.seq ≤ 1048576 ∧ checkCommand x.k x.key x.field x.text x.n = 0)) := by
  unfold Item.check checkItem at h
  simp only [decide_eq_true_eq] at h
  by_cases h1 : x.term < 1
  · simp [h1] at h
  by_cases h2 : 1048576 < x.term
  · simp [h1, h2] at h
  by_cases h3 : x.time < 0
  · simp [h1, h2, h3] at h
  by_cases h4 : 1073741824 < x.time
  · simp [h1, h2, h3, h4] at h
  simp only [h1, h2, h3, h4, if_false] at h
  refine ⟨by omega, by omega, by omega, by omega, ?_⟩
  cases hx : x.nop
  · rw [hx] at h
    exact ⟨fun h => (by cases h), call_bounds (by simpa using h)⟩
  · rw [hx] at h
    simp only [if_true] at h
    split at h
    · rename_i hn
      have := noCall_iff.1 hn
      exact ⟨fun _ => this.1, .inl this⟩
    · cases h
structure WCmd where
  k : Int
  key : ByteArray
  field : ByteArray
  text : ByteArray
  n : Int
end Go.Proofs.YtpdcfljbabpakaaGreatDoor
set_option linter.unusedVariables false
set_option linter.unusedSimpArgs false
set_option maxRecDepth 100000
set_option maxHeartbeats 8000000
namespace Go.Proofs.YtpdcfljbabpakaaGreatDoor
open Go Go.RowKit Go.Proofs.AE
variable {G : Nat → AV}
abbrev rHp (r : Rd) : Hp := [some (.box 128 [.v (.sl (bR r.rest)), .v (.lit (.bool r.short))])]
theorem bR_take (l : List UInt8) (n : Nat) : (bR l).take n = bR (l.take n) := by simp [bR, List.map_take]
theorem bR_drop (l : List UInt8) (n : Nat) : (bR l).drop n = bR (l.drop n) := by simp [bR, List.map_drop]
theorem take_c (r : Rd) (n : Int) (hn : 0 ≤ n) : DetCall Tryz.prog G 88 1 (rHp r) [.one (.ptr 0 0), iV n] (.one (.v (.sl (bR (takeR r n.toNat).1)))) (rHp (takeR r n.toNat).2) := by
  refine gcallc mixed Tryz.func88 ac_wire_reader_take ?_
  have h1 := bR_len r.rest
  have h2 := bR_ul r.rest
  have h3 := bR_take r.rest n.toNat
  have h4 := bR_drop r.rest n.toNat
  unfold rHp
  by_cases hs : r.short = true
  · have ht : takeR r n.toNat = ([], ⟨r.rest, true⟩) := by unfold takeR; rw [if_pos (.inl hs)]
    rw [ht, hs]
    repeat' (first | (with_reducible first | refine Cn (fun h => ?_) fun h => ?_ | refine And.intro ?_ ?_ | refine wR ?_ | exact wr _ _ | refine wa ?_ | apply awp_join) | (with_reducible refine CallZ.z ?_) | simp -dsimp [go_sem, bR])
  · have hs' : r.short = false := by simpa using hs
    rw [hs']
    by_cases hl : (r.rest.length : Int) < n
    · have ht : takeR r n.toNat = ([], ⟨r.rest, true⟩) := by unfold takeR; rw [if_pos (.inr (by omega))]
      rw [ht]
      repeat' (first | (with_reducible first | refine Cn (fun h => ?_) fun h => ?_ | refine And.intro ?_ ?_ | refine wR ?_ | exact wr _ _ | refine wa ?_ | apply awp_join) | (with_reducible refine CallZ.z ?_) | simp -dsimp [go_sem, h1, hl])
      all_goals simp [bR]
    · have ht : takeR r n.toNat = (r.rest.take n.toNat, ⟨r.rest.drop n.toNat, false⟩) := by unfold takeR; rw [if_neg (by simp [hs']; omega)]
      rw [ht]
      have h5 : (bR r.rest).take r.rest.length = bR r.rest := by rw [bR_take, List.take_length]
      repeat' (first | (with_reducible first | refine Cn (fun h => ?_) fun h => ?_ | refine And.intro ?_ ?_ | refine wR ?_ | exact wr _ _ | refine wa ?_ | apply awp_join) | (with_reducible refine CallZ.z ?_) | simp -dsimp [go_sem, h1, hl, h2, h3, h4, h5])
      all_goals first | omega | skip
theorem shl_or (u : Nat) (c : UInt8) (hu : u < 18446744073709551616) : bitsV .or .u64 (IntKind.u64.wrap ((u : Int) * 256)) (c.toNat : Int) = ((u : Int) * 256 + c.toNat) % 18446744073709551616 := by
  have hc := c.toNat_lt
  have w64 : ∀ n : Nat, n < 18446744073709551616 → IntKind.u64.wrap (n : Int) = n := by
    intro n hn
    simp [IntKind.wrap, IntKind.bits, IntKind.signed]
    omega
  have h1 : IntKind.u64.wrap ((u : Int) * 256) = ((u * 256 % 18446744073709551616 : Nat) : Int) := by
    simp [IntKind.wrap, IntKind.bits, IntKind.signed]
  rw [h1]
  obtain ⟨v, hv⟩ : ∃ v, u * 256 % 18446744073709551616 = v * 256 := ⟨u * 256 % 18446744073709551616 / 256, by omega⟩
  have hv2 : v * 256 < 18446744073709551616 := by omega
  rw [hv, show ((u : Int) * 256 + c.toNat) % 18446744073709551616 = ((v * 256 + c.toNat : Nat) : Int) by omega]
  unfold bitsV
  simp only [IntKind.bits]
  have e1 : (BitVec.ofInt 64 ((v * 256 : Nat) : Int)) = BitVec.ofNat 64 (v * 256) := rfl
  have e2 : (BitVec.ofInt 64 (c.toNat : Int)) = BitVec.ofNat 64 c.toNat := rfl
  rw [e1, e2]
  change IntKind.u64.wrap (((BitVec.ofNat 64 (v * 256) ||| BitVec.ofNat 64 c.toNat : BitVec 64).toNat : Nat) : Int) = _
  simp only [BitVec.toNat_or, BitVec.toNat_ofNat]
  rw [Nat.mod_eq_of_lt (by omega), Nat.mod_eq_of_lt (by omega)]
  have e3 : v * 256 ||| c.toNat = v * 256 + c.toNat := by
    have := Nat.shiftLeft_add_eq_or_of_lt (i := 8) (b := c.toNat) (by omega) v
    rw [Nat.shiftLeft_eq] at this
    exact this.symm
  rw [e3, w64 _ (by omega)]
theorem wrap_back (u : Nat) : IntKind.i64.wrap (IntKind.u64.wrap ((u : Int) - 4611686018427387904)) = IntKind.i64.wrap ((u : Int) - 4611686018427387904) := by
  simp [IntKind.wrap, IntKind.bits, IntKind.signed]
theorem rnumber_c (r : Rd) : DetCall Tryz.prog G 55 1 (rHp r) [.one (.ptr 0 0)] (iV (numR r).1) (rHp (numR r).2) := by
  refine gcallc mixed Tryz.func55 ac_wire_reader_number ?_
  have ht := take_c (G := G) r 8 (by omega)
  have hl := takeR_len r 8
  unfold numR
  simp only [show (8 : Int).toNat = 8 from rfl] at ht
  generalize hq : takeR r 8 = q at *
  obtain ⟨b, r'⟩ := q
  simp only at ht hl ⊢
  have h1 := bR_len b
  unfold rHp
  repeat' (first | (with_reducible first | refine Cn (fun h => ?_) fun h => ?_ | refine And.intro ?_ ?_ | refine wR ?_ | exact wr _ _ | refine wa ?_ | apply awp_join | refine qg ht ?_ | refine qgd ht ?_) | (with_reducible refine CallZ.z ?_) | simp -dsimp [go_sem, h1])
  refine awp_loop (fun i : Nat => ⟨[(3, .one (.v (.lit (.int .u64 (uOf (b.take i)))))), (7, .one (.v (.sl (bR b)))), (8, iV b.length), (9, iV i)], G, rHp r'⟩) (fun i => i ≤ b.length) (fun i => b.length - i) 0 (weak_auto ?_) (Nat.zero_le _) ?_
  · simp -dsimp [go_sem]
    rfl
  · intro i hi
    unfold rHp
    simp -dsimp [go_sem]
    refine Cnd.intro (fun h => ?_) (fun h => ?_)
    · have hlt : i < b.length := by simpa using h
      have hgi : (bR b)[i]? = some [.lit (.int .u8 (b[i].toNat : Int))] := by simp [bR, hlt]
      have e1 : IntKind.i64.wrap ((i : Int) + 1) = i + 1 := IntWalk.i64_in _ (by omega)
      have e2 := shl_or (uOf (b.take i)) b[i] (uOf_lt _)
      have e3 : IntKind.u64.wrap (b[i].toNat : Int) = b[i].toNat := by
        have := b[i].toNat_lt
        simp [IntKind.wrap, IntKind.bits, IntKind.signed]
        omega
      have e4 : uOf (b.take (i + 1)) = (uOf (b.take i) * 256 + b[i].toNat) % 18446744073709551616 := by rw [List.take_succ_eq_append_getElem hlt, uOf_snoc]
      repeat' (first | (with_reducible first | refine Cn (fun h => ?_) fun h => ?_ | refine And.intro ?_ ?_ | refine wR ?_ | exact wr _ _ | refine wa ?_ | apply awp_join) | (with_reducible refine CallZ.z ?_) | simp -dsimp [go_sem, hgi, e1, e2, e3])
      all_goals first | omega | (with_reducible refine Again.auto (i + 1) ?_ ?_ ?_) | skip
      · simp -dsimp [go_sem, e4, e2]
      · exact hlt
      · show b.length - (i + 1) < b.length - i
        omega
    · have hij : i = b.length := by simp at h; omega
      subst hij
      have e5 : b.take b.length = b := List.take_length
      have e6 : IntKind.i64.wrap (IntKind.u64.wrap ((uOf b : Int) - 4611686018427387904)) = numOf b := wrap_back _
      rw [e5]
      repeat' (first | (with_reducible first | refine Cn (fun h => ?_) fun h => ?_ | refine And.intro ?_ ?_ | refine wR ?_ | exact wr _ _ | refine wa ?_ | apply awp_join) | (with_reducible refine CallZ.z ?_) | simp -dsimp [go_sem, e6])
theorem rsmall_c (r : Rd) : DetCall Tryz.prog G 61 1 (rHp r) [.one (.ptr 0 0)] (iV (smallR r).1) (rHp (smallR r).2) := by
  refine gcallc mixed Tryz.func61 ac_wire_reader_small ?_
  have ht := take_c (G := G) r 1 (by omega)
  unfold smallR
  simp only [show (1 : Int).toNat = 1 from rfl] at ht
  generalize hq : takeR r 1 = q at *
  obtain ⟨b, r'⟩ := q
  simp only at ht ⊢
  have h1 := bR_len b
  unfold rHp
  repeat' (first | (with_reducible first | refine Cn (fun h => ?_) fun h => ?_ | refine And.intro ?_ ?_ | refine wR ?_ | exact wr _ _ | refine wa ?_ | apply awp_join | refine qg ht ?_ | refine qgd ht ?_) | (with_reducible refine CallZ.z ?_) | simp -dsimp [go_sem, h1])
  refine awp_loop (fun _ : Unit => ⟨[(6, .one (.v (.sl (bR b)))), (7, iV b.length), (8, iV 0)], G, rHp r'⟩) (fun _ => True) (fun _ => 0) () (weak_auto ?_) trivial ?_
  · simp -dsimp [go_sem]
  · intro _ _
    unfold rHp
    cases b with
    | nil => repeat' (first | (with_reducible first | refine Cn (fun h => ?_) fun h => ?_ | refine And.intro ?_ ?_ | refine wR ?_ | exact wr _ _ | refine wa ?_ | apply awp_join) | (with_reducible refine CallZ.z ?_) | simp -dsimp [go_sem])
    | cons c b =>
      have hgi : (bR (c :: b))[0]? = some [.lit (.int .u8 (c.toNat : Int))] := by simp [bR]
      have e3 : IntKind.i64.wrap (c.toNat : Int) = c.toNat := by
        have := c.toNat_lt
        exact IntWalk.i64_in _ (by omega)
      repeat' (first | (with_reducible first | refine Cn (fun h => ?_) fun h => ?_ | refine And.intro ?_ ?_ | refine wR ?_ | exact wr _ _ | refine wa ?_ | apply awp_join) | (with_reducible refine CallZ.z ?_) | simp -dsimp [go_sem, hgi, e3])
theorem rtext_c (r : Rd) : DetCall Tryz.prog G 58 1 (rHp r) [.one (.ptr 0 0)] (sV (txtR r).1) (rHp (txtR r).2) := by
  refine gcallc mixed Tryz.func58 ac_wire_reader_text ?_
  have h1 := bR_bytes
  unfold txtR rHp
  repeat' (first | (with_reducible first | refine Cn (fun h => ?_) fun h => ?_ | refine And.intro ?_ ?_ | refine wR ?_ | exact wr _ _ | refine wa ?_ | apply awp_join | refine qg (rsmall_c _) ?_ | refine qgd (rsmall_c _) ?_ | refine qg (take_c _ _ (Int.natCast_nonneg _)) ?_ | refine qgd (take_c _ _ (Int.natCast_nonneg _)) ?_) | (with_reducible refine CallZ.z ?_) | simp -dsimp [go_sem, h1])
theorem rend_c (r : Rd) (ok : Bool) : DetCall Tryz.prog G 63 1 (rHp r) [.one (.ptr 0 0), bV ok] (iV (if r.short then 9 else if ok = false ∨ 0 < r.rest.length then 8 else 0)) (rHp r) := by
  refine gcallc mixed Tryz.func63 ac_wire_reader_end ?_
  have h1 := bR_len r.rest
  unfold rHp
  cases hs : r.short <;> cases ok
  all_goals
    repeat' (first | (with_reducible first | refine Cn (fun h => ?_) fun h => ?_ | refine And.intro ?_ ?_ | refine wR ?_ | exact wr _ _ | refine wa ?_ | apply awp_join) | (with_reducible refine CallZ.z ?_) | simp -dsimp [go_sem, h1])
  all_goals first | (simp_all; done) | (intro hh; simp_all)
end Go.Proofs.YtpdcfljbabpakaaGreatDoor
set_option linter.unusedVariables false
set_option linter.unusedSimpArgs false
set_option maxRecDepth 100000
set_option maxHeartbeats 8000000
namespace Go.Proofs.YtpdcfljbabpakaaGreatDoor
open Go Go.RowKit Go.Proofs.AE
variable {G : Nat → AV}
abbrev WCmd.cells (c : WCmd) : List C := [iC c.k, sC c.key, sC c.field, sC c.text, iC c.n]
def zeroItem : Item := ⟨0, 0, false, 0, 0, 0, ⟨#[]⟩, ⟨#[]⟩, ⟨#[]⟩, 0⟩
end Go.Proofs.YtpdcfljbabpakaaGreatDoor
set_option linter.unusedVariables false
set_option linter.unusedSimpArgs false
set_option maxRecDepth 100000
set_option maxHeartbeats 8000000
namespace Go.Proofs.YtpdcfljbabpakaaGreatDoor
open Go Go.RowKit Go.Proofs.AE
variable {G : Nat → AV}
theorem Reads.pure {α : Type} (a : α) : Reads (fun r => (a, r)) := ⟨fun _ => rfl, fun _ _ _ => rfl⟩
end Go.Proofs.YtpdcfljbabpakaaGreatDoor
set_option linter.unusedVariables false
set_option linter.unusedSimpArgs false
set_option maxRecDepth 100000
set_option maxHeartbeats 8000000
namespace Go.Proofs.YtpdcfljbabpakaaGreatDoor
open Go Go.RowKit Go.Proofs.AE
variable {G : Nat → AV}
noncomputable def logItems (l : List Deed) (base : Int) : List Item := itemsOf l (if pk base 12 = 0 then 1 else 2)
abbrev logC (base bt : Int) (x : List Item) : List C := [iC base, iC bt, .v (.sl (x.map Item.row))]
theorem log_c (l : List Deed) (base : Int) (hl : (l.length : Int) ≤ 9223372036854775807) (hd : ∀ d ∈ l, d.Ok) (hb : i64 base) :
    PCall Tryz.prog G 19 [.one (.v (.sl (l.map Deed.row))), iV base] (.agg (logC (pk base 12) (if pk base 12 = 0 then 0 else 2) (logItems l base))) := by
  refine pcallc mixed Tryz.func19 ac_rostrumkeep_Log ?_
  repeat' (first | (with_reducible first | refine Cn (fun h => ?_) fun h => ?_ | refine And.intro ?_ ?_ | refine wR ?_ | exact wr _ _ | refine wa ?_ | apply awp_join | refine q1 (by exact picked_c _ _ (by assumption) (by simp)) ?_ | refine q1d (by exact picked_c _ _ (by assumption) (by simp)) ?_ | refine q1 (by exact items_c _ _ (by assumption) (by assumption) (by simp)) ?_ | refine q1d (by exact items_c _ _ (by assumption) (by assumption) (by simp)) ?_) | (with_reducible refine CallZ.z ?_) | simp -dsimp [go_sem])
  all_goals simp_all [logItems, coeCs, coeC]
def chk : List Item → Int → Int → Bool
  | [], _, _ => true
  | x :: l, t, m => x.check == 0 && (decide (t ≤ x.term) && (decide (m ≤ x.time) && chk l x.term x.time))
def headOk (base bt : Int) (len : Nat) : Bool :=
  !decide (base < 0) && (!decide (bt < 0) && (!decide (1048576 < bt) && ((base == 0) == (bt == 0) && (!decide (200 < (len : Int)) && !decide (1048576 - (len : Int) < base)))))
def checkLog (base bt : Int) (x : List Item) : Int := if headOk base bt x.length then (if chk x bt 0 then 0 else 13) else 13
theorem checkLog_c (base bt : Int) (x : List Item) (hx : (x.length : Int) ≤ 9223372036854775807) :
    PCall Tryz.prog G 22 [.agg (logC base bt x)] (iV (checkLog base bt x)) := by
  refine pcallc mixed Tryz.func22 ac_ledger_Check ?_
  have e1 : IntKind.i64.wrap (1048576 - (x.length : Int)) = 1048576 - (x.length : Int) := IntWalk.i64_in _ (by omega)
  repeat' (first | (with_reducible first | refine Cn (fun h => ?_) fun h => ?_ | refine And.intro ?_ ?_ | refine wR ?_ | exact wr _ _ | refine wa ?_ | apply awp_join) | (with_reducible refine CallZ.z ?_) | simp -dsimp [go_sem, e1])
  all_goals first
    | (with_reducible refine awp_loop (fun y : Nat × Int × Int => ⟨[(3, iV y.2.1), (4, iV y.2.2), (47, .one (.v (.sl (x.map Item.row)))), (48, iV x.length), (49, iV y.1)], G, []⟩) (fun y => y.1 ≤ x.length ∧ chk x bt 0 = chk (x.drop y.1) y.2.1 y.2.2) (fun y => x.length - y.1) (0, bt, 0) ?_ ?_ ?_)
    | (simp only [Bool.not_true, Bool.not_false] at *; simp only [checkLog, headOk, *]; rfl)
    | (simp_all [checkLog, headOk]; done)
  · refine weak_auto ?_
    simp -dsimp [go_sem]
  · simp
  · have hh : headOk base bt x.length = true := by simp_all [headOk]
    have hcl : checkLog base bt x = if chk x bt 0 then 0 else 13 := by simp [checkLog, hh]
    rintro ⟨i, t, m⟩ ⟨a1, a2⟩
    simp only at a1 a2
    rw [a2] at hcl
    simp -dsimp [go_sem]
    refine Cnd.intro (fun h => ?_) (fun h => ?_)
    · have hlt : i < x.length := by simpa using h
      obtain ⟨y, hy⟩ : ∃ y, x[i]? = some y := ⟨_, List.getElem?_eq_getElem hlt⟩
      have hgi : (x.map Item.row)[i]? = some y.row := by simp [hy]
      have hdrop : x.drop i = y :: x.drop (i + 1) := by
        rw [List.drop_eq_getElem_cons hlt]
        congr 1
        rw [List.getElem?_eq_getElem hlt] at hy
        exact Option.some.inj hy
      rw [hdrop] at hcl a2
      have n1 : decide (t ≤ y.term) = !decide (y.term < t) := by by_cases h : t ≤ y.term <;> simp [h] <;> omega
      have n2 : decide (m ≤ y.time) = !decide (y.time < m) := by by_cases h : m ≤ y.time <;> simp [h] <;> omega
      have n3 : (y.check == 0) = !(y.check != 0) := by simp [bne]
      simp only [chk, n1, n2, n3] at hcl a2
      have hck : checkItem y.term y.time y.nop y.client y.seq y.k y.key y.field y.text y.n = y.check := rfl
      have e4 : IntKind.i64.wrap ((i : Int) + 1) = (i : Int) + 1 := IntWalk.i64_in _ (by omega)
      repeat' (first | (with_reducible first | refine Cn (fun h => ?_) fun h => ?_ | refine And.intro ?_ ?_ | refine wR ?_ | exact wr _ _ | refine wa ?_ | apply awp_join | refine q (checkItem_c _ _ _ _ _ _ _ _ _ _) ?_ | refine qd (checkItem_c _ _ _ _ _ _ _ _ _ _) ?_ | refine qz (checkItem_c _ _ _ _ _ _ _ _ _ _) ?_) | (with_reducible refine CallZ.z ?_) | simp -dsimp [go_sem, hgi, Item.row, hck, e4])
      all_goals first
        | (with_reducible refine Again.view (i + 1, y.term, y.time) [] [] ?_ ?_ ?_ ?_ ?_ ?_ ?_ ?_)
        | (simp only [Bool.not_true, Bool.not_false] at *; simp only [hcl, *]; rfl)
        | (simp_all; done)
      · rfl
      · rfl
      · simp
      · simp
      · simp -dsimp [go_sem]
      · exact trivial
      · refine ⟨hlt, ?_⟩
        simp only [Bool.not_true, Bool.not_false] at *
        simp only [a2, *]
        simp
      · show x.length - (i + 1) < x.length - i
        omega
    · have hge : ¬ i < x.length := by simpa using h
      have : i = x.length := by omega
      subst this
      simp [chk] at hcl
      simp -dsimp [go_sem, hcl]
end Go.Proofs.YtpdcfljbabpakaaGreatDoor
set_option linter.unusedVariables false
set_option linter.unusedSimpArgs false
set_option maxRecDepth 100000
set_option maxHeartbeats 8000000
namespace Go.Proofs.YtpdcfljbabpakaaGreatDoor
open Go Go.RowKit Go.Proofs.AE
variable {G : Nat → AV}
def lastTerm (bt : Int) (x : List Item) : Int := match x[x.length - 1]? with | some y => y.term | none => bt
theorem last_c (base bt : Int) (x : List Item) (hb : 0 ≤ base ∧ base ≤ 1048576) (hx : x.length ≤ 200) : PCall Tryz.prog G 112 [.agg (logC base bt x)] (.tup [iV (base + x.length), iV (lastTerm bt x)]) := by
  have e1 : IntKind.i64.wrap (base + x.length) = base + x.length := IntWalk.i64_in _ (by omega)
  have e2 : IntKind.i64.wrap ((x.length : Int) - 1) = (x.length : Int) - 1 := IntWalk.i64_in _ (by omega)
  refine pcallc mixed Tryz.func112 ac_ledger_last ?_
  by_cases h0 : 0 < x.length
  · obtain ⟨y, hy⟩ : ∃ y, x[x.length - 1]? = some y := ⟨_, List.getElem?_eq_getElem (by omega)⟩
    have hl : lastTerm bt x = y.term := by unfold lastTerm; rw [hy]
    have hn : ((x.length : Int) - 1).toNat = x.length - 1 := by omega
    have hgi : (x.map Item.row)[x.length - 1]? = some y.row := by rw [List.getElem?_map, hy]; rfl
    have hne : ¬ x = [] := by intro h; rw [h] at h0; simp at h0
    rw [hl]
    repeat' (first | (with_reducible first | refine Cn (fun h => ?_) fun h => ?_ | refine And.intro ?_ ?_ | refine wR ?_ | exact wr _ _ | refine wa ?_ | apply awp_join) | (with_reducible refine CallZ.z ?_) | simp -dsimp [go_sem, e1, e2, hn, hgi, Item.row])
    all_goals first | omega | simp_all
  · have hx0 : x = [] := List.eq_nil_of_length_eq_zero (by omega)
    subst hx0
    repeat' (first | (with_reducible first | refine Cn (fun h => ?_) fun h => ?_ | refine And.intro ?_ ?_ | refine wR ?_ | exact wr _ _ | refine wa ?_ | apply awp_join) | (with_reducible refine CallZ.z ?_) | simp -dsimp [go_sem, lastTerm])
    all_goals simp_all [lastTerm]
theorem last_c' (base bt : Int) (x : List Item) (h : checkLog base bt x = 0) : 0 ≤ base ∧ base ≤ 1048576 ∧ x.length ≤ 200 ∧ 0 ≤ bt ∧ bt ≤ 1048576 := by
  unfold checkLog at h
  split at h
  · rename_i hh
    simp [headOk] at hh
    omega
  · cases h
theorem lastGood_c (base bt : Int) (x : List Item) (h : checkLog base bt x = 0) : PCall Tryz.prog G 95 [.agg (logC base bt x)] (.tup [iV (base + x.length), iV (lastTerm bt x), iV 0]) := by
  obtain ⟨b1, b2, b3, b4, b5⟩ := last_c' base bt x h
  refine pcallc mixed Tryz.func95 ac_ledger_Last ?_
  repeat' (first | (with_reducible first | refine Cn (fun h => ?_) fun h => ?_ | refine And.intro ?_ ?_ | refine wR ?_ | exact wr _ _ | refine wa ?_ | apply awp_join | refine q1 (by exact checkLog_c _ _ _ (by omega)) ?_ | refine q1d (by exact checkLog_c _ _ _ (by omega)) ?_ | refine q (last_c _ _ _ ⟨b1, b2⟩ b3) ?_ | refine qd (last_c _ _ _ ⟨b1, b2⟩ b3) ?_ | refine qz (last_c _ _ _ ⟨b1, b2⟩ b3) ?_) | (with_reducible refine CallZ.z ?_) | simp -dsimp [go_sem, h])
def termAt (base bt : Int) (x : List Item) (place : Int) : Int := if place < base then 0 else if place = base then bt else if (x.length : Int) < place - base then 0 else match x[(place - base - 1).toNat]? with | some y => y.term | none => 0
def termErr (base : Int) (len : Nat) (place : Int) : Int := if place < base then 11 else if place = base then 0 else if (len : Int) < place - base then 5 else 0
theorem term_c (base bt : Int) (x : List Item) (place : Int) (hb : 0 ≤ base ∧ base ≤ 1048576) (hx : x.length ≤ 200) (hp : 0 ≤ place ∧ place ≤ 1048576) : PCall Tryz.prog G 45 [.agg (logC base bt x), iV place] (.tup [iV (termAt base bt x place), iV (termErr base x.length place)]) := by
  have e1 : IntKind.i64.wrap (place - base) = place - base := IntWalk.i64_in _ (by omega)
  have e2 : IntKind.i64.wrap (place - base - 1) = place - base - 1 := IntWalk.i64_in _ (by omega)
  by_cases h1 : place < base
  · refine pcallc mixed Tryz.func45 ac_ledger_term ?_
    repeat' (first | (with_reducible first | refine Cn (fun h => ?_) fun h => ?_ | refine And.intro ?_ ?_ | refine wR ?_ | exact wr _ _ | refine wa ?_ | apply awp_join) | (with_reducible refine CallZ.z ?_) | simp -dsimp [go_sem, h1, termAt, termErr])
  by_cases h2 : place = base
  · refine pcallc mixed Tryz.func45 ac_ledger_term ?_
    subst h2
    repeat' (first | (with_reducible first | refine Cn (fun h => ?_) fun h => ?_ | refine And.intro ?_ ?_ | refine wR ?_ | exact wr _ _ | refine wa ?_ | apply awp_join) | (with_reducible refine CallZ.z ?_) | simp -dsimp [go_sem, termAt, termErr])
  by_cases h3 : (x.length : Int) < place - base
  · refine pcallc mixed Tryz.func45 ac_ledger_term ?_
    repeat' (first | (with_reducible first | refine Cn (fun h => ?_) fun h => ?_ | refine And.intro ?_ ?_ | refine wR ?_ | exact wr _ _ | refine wa ?_ | apply awp_join) | (with_reducible refine CallZ.z ?_) | simp -dsimp [go_sem, h1, h2, h3, e1, termAt, termErr])
    all_goals simp_all
  · obtain ⟨y, hy⟩ : ∃ y, x[(place - base - 1).toNat]? = some y := ⟨_, List.getElem?_eq_getElem (by omega)⟩
    have hgi : (x.map Item.row)[(place - base - 1).toNat]? = some y.row := by rw [List.getElem?_map, hy]; rfl
    have hgi' : (x.map Item.row)[(place - base).toNat - 1]? = some y.row := by rw [show (place - base).toNat - 1 = (place - base - 1).toNat by omega]; exact hgi
    have hpos : 0 ≤ place - base - 1 := by omega
    have hta : termAt base bt x place = y.term := by unfold termAt; rw [if_neg h1, if_neg h2, if_neg h3, hy]
    have hte : termErr base x.length place = 0 := by unfold termErr; rw [if_neg h1, if_neg h2, if_neg h3]
    refine pcallc mixed Tryz.func45 ac_ledger_term ?_
    rw [hta, hte]
    repeat' (first | (with_reducible first | refine Cn (fun h => ?_) fun h => ?_ | refine And.intro ?_ ?_ | refine wR ?_ | exact wr _ _ | refine wa ?_ | apply awp_join) | (with_reducible refine CallZ.z ?_) | simp -dsimp [go_sem, h1, h2, h3, e1, e2, hgi, hgi', Item.row])
    all_goals first | omega | simp_all
theorem termGood_c (base bt : Int) (x : List Item) (place : Int) (h : checkLog base bt x = 0) (hp : 0 ≤ place ∧ place ≤ 1048576) : PCall Tryz.prog G 21 [.agg (logC base bt x), iV place] (.tup [iV (termAt base bt x place), iV (termErr base x.length place)]) := by
  obtain ⟨b1, b2, b3, b4, b5⟩ := last_c' base bt x h
  have p1 : ¬ place < 0 := by omega
  have p2 : ¬ 1048576 < place := by omega
  refine pcallc mixed Tryz.func21 ac_ledger_Term ?_
  repeat' (first | (with_reducible first | refine Cn (fun h => ?_) fun h => ?_ | refine And.intro ?_ ?_ | refine wR ?_ | exact wr _ _ | refine wa ?_ | apply awp_join | refine q1 (by exact checkLog_c _ _ _ (by omega)) ?_ | refine q1d (by exact checkLog_c _ _ _ (by omega)) ?_ | refine q (term_c _ _ _ _ ⟨b1, b2⟩ b3 hp) ?_ | refine qd (term_c _ _ _ _ ⟨b1, b2⟩ b3 hp) ?_ | refine qz (term_c _ _ _ _ ⟨b1, b2⟩ b3 hp) ?_) | (with_reducible refine CallZ.z ?_) | simp -dsimp [go_sem, h, p1, p2])
end Go.Proofs.YtpdcfljbabpakaaGreatDoor
set_option linter.unusedVariables false
set_option linter.unusedSimpArgs false
set_option maxRecDepth 100000
set_option maxHeartbeats 8000000
namespace Go.Proofs.YtpdcfljbabpakaaGreatDoor
open Go Go.RowKit Go.Proofs.AE
theorem itemOf_check (d : Deed) (hd : d.Ok) {term time : Int} (h1 : 1 ≤ term ∧ term ≤ 1048576) (h2 : 0 ≤ time ∧ time ≤ 1073741824) : (itemOf d term time).check = 0 := by
  have hI := itemOf_call d term time
  obtain ⟨t1, t2, t3⟩ := itemOf_head d term time
  unfold Item.check
  rw [t1, t2, t3]
  generalize itemOf d term time = x at *
  have hg := callGood hd.n _ _ _ _ _ _ _ hI
  have n1 : ¬ term < 1 := by omega
  have n2 : ¬ 1048576 < term := by omega
  have n3 : ¬ time < 0 := by omega
  have n4 : ¬ 1073741824 < time := by omega
  by_cases h : pk d.client 5 = 0
  · unfold itemCall at hI
    rw [if_pos (.inl h)] at hI
    simp only [List.cons.injEq, C.v.injEq, V.lit.injEq, Value.int.injEq, Value.string.injEq, and_true, true_and] at hI
    obtain ⟨e1, e2, e3, e4, e5, e6, e7⟩ := hI
    have hnc : noCall x.client x.seq x.k x.key x.field x.text x.n = true := by
      rw [← e1, ← e2, ← e3, ← e4, ← e5, ← e6, ← e7]; decide
    simp [checkItem, n1, n2, n3, n4, h, hnc]
  · simp [checkItem, n1, n2, n3, n4, h, hg]
theorem itemsGo_length : ∀ (l : List Deed) (a b : Int), (itemsGo l a b).length = l.length
  | [], _, _ => rfl
  | d :: l, a, b => by simp [itemsGo, itemsGo_length l]
theorem step_range (d : Deed) : 0 ≤ (pk d.off 4).tdiv 3 ∧ (pk d.off 4).tdiv 3 ≤ 1 ∧ 0 ≤ pk d.wait 3 ∧ pk d.wait 3 ≤ 2 := by
  have q1 := pk_range (n := d.off) (m := 4) (by omega)
  have q2 := pk_range (n := d.wait) (m := 3) (by omega)
  rw [Int.tdiv_eq_ediv_of_nonneg q1.1]
  omega
theorem chk_go : ∀ (l : List Deed) (term time t m : Int), (∀ d ∈ l, d.Ok) → t ≤ term → m ≤ time → 1 ≤ term → 0 ≤ time → term + l.length ≤ 1000 → time + 2 * l.length ≤ 1000 → chk (itemsGo l term time) t m = true
  | [], _, _, _, _, _, _, _, _, _, _, _ => rfl
  | d :: l, term, time, t, m, hd, h1, h2, h3, h4, h5, h6 => by
    obtain ⟨s1, s2, s3, s4⟩ := step_range d
    simp only [List.length_cons] at h5 h6
    push_cast at h5 h6
    obtain ⟨t1, t2, _⟩ := itemOf_head d (term + (pk d.off 4).tdiv 3) (time + pk d.wait 3)
    have hc := itemOf_check d (hd d (List.mem_cons_self ..)) (term := term + (pk d.off 4).tdiv 3) (time := time + pk d.wait 3) (by omega) (by omega)
    simp only [itemsGo, chk, t1, t2, hc]
    rw [chk_go l _ _ _ _ (fun d h => hd d (List.mem_cons_of_mem _ h)) (Int.le_refl _) (Int.le_refl _) (by omega) (by omega) (by omega) (by omega)]
    simp
    omega
theorem logItems_length (l : List Deed) (base : Int) : (logItems l base).length ≤ 30 := by
  unfold logItems itemsOf
  rw [itemsGo_length]
  simp
  omega
abbrev logBT (base : Int) : Int := if pk base 12 = 0 then 0 else 2
theorem made_ok (l : List Deed) (base : Int) (hd : ∀ d ∈ l, d.Ok) : checkLog (pk base 12) (logBT base) (logItems l base) = 0 := by
  have hb := pk_range (n := base) (m := 12) (by omega)
  have hl := logItems_length l base
  have hh : headOk (pk base 12) (logBT base) (logItems l base).length = true := by
    unfold headOk logBT
    by_cases h : pk base 12 = 0 <;> simp [h] <;> omega
  have hc : chk (logItems l base) (logBT base) 0 = true := by
    unfold logItems itemsOf
    have h30 : (l.take 30).length ≤ 30 := by simp; omega
    refine chk_go _ _ _ _ _ (fun d h => hd d (List.mem_of_mem_take h)) ?_ (Int.le_refl _) ?_ (by omega) ?_ (by omega)
    · unfold logBT; split <;> omega
    · split <;> omega
    · split <;> omega
  simp [checkLog, hh, hc]
end Go.Proofs.YtpdcfljbabpakaaGreatDoor
set_option linter.unusedVariables false
set_option linter.unusedSimpArgs false
set_option maxRecDepth 100000
set_option maxHeartbeats 8000000
namespace Go.Proofs.YtpdcfljbabpakaaGreatDoor
open Go Go.RowKit Go.Proofs.AE
variable {G : Nat → AV}
end Go.Proofs.YtpdcfljbabpakaaGreatDoor
set_option linter.unusedVariables false
set_option linter.unusedSimpArgs false
set_option maxRecDepth 100000
set_option maxHeartbeats 8000000
namespace Go.Proofs.YtpdcfljbabpakaaGreatDoor
open Go Go.RowKit Go.Proofs.AE
end Go.Proofs.YtpdcfljbabpakaaGreatDoor
