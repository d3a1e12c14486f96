/- Texts joined. -/
import Derived.Test.YtkkleopmambcnaaGreatDoorSk3
set_option linter.unusedVariables false
set_option linter.unusedSimpArgs false
set_option maxRecDepth 100000
set_option maxHeartbeats 8000000
namespace Go.Proofs.YtkkleopmambcnaaGreatDoor
open Go Go.RowKit Go.Proofs.AE
variable {G : Nat → AV}
structure OkR (r : Rep) : Prop where
  code : 0 ≤ r.code ∧ r.code ≤ 13
  text : okText r.text = true
  len : r.list.length ≤ 20
  list : ∀ s ∈ r.list, okText s = true
  n : okCount r.n = true
theorem told_ok {n : Int} (h : okCount n = true) : OkR (toldR n) := ⟨⟨by show (0 : Int) ≤ 0; omega, by show (0 : Int) ≤ 13; omega⟩, rfl, Nat.zero_le _, (fun s hs => by cases hs), h⟩
theorem told_small {n : Int} (h0 : 0 ≤ n) (h1 : n ≤ 1099511627776) : OkR (toldR n) := told_ok (by unfold okCount; simp; omega)
theorem fail_ok {e : Int} (h0 : 0 ≤ e) (h1 : e ≤ 13) : OkR (failR e) := ⟨⟨h0, h1⟩, rfl, Nat.zero_le _, (fun s hs => by cases hs), rfl⟩
theorem textR_ok {t : ByteArray} (h : okText t = true) : OkR (textR t) := ⟨⟨by show (0 : Int) ≤ 0; omega, by show (0 : Int) ≤ 13; omega⟩, h, Nat.zero_le _, (fun s hs => by cases hs), rfl⟩
theorem flag_ok (b : Bool) : OkR (toldR (flagN b)) := told_small (by cases b <;> decide) (by cases b <;> decide)
theorem hashR_ok {l : List Pr} {c : Cmd} (h : ∀ p ∈ l, okField p.1 = true ∧ okText p.2 = true) (ht : okText c.text = true) : OkR (hashV l c).2 := by
  unfold hashV
  simp only
  repeat' split
  · exact told_small (by omega) (by omega)
  · exact fail_ok (by omega) (by omega)
  · exact told_small (by omega) (by omega)
  · refine textR_ok ?_
    cases hx : l[hashAt l c.field]? with
    | none => exact ht
    | some a => exact (h a (List.mem_of_getElem? hx)).2
  · exact fail_ok (by omega) (by omega)
  · exact told_small (by omega) (by omega)
  · exact told_small (by omega) (by omega)
theorem listR_ok {l : List ByteArray} {c : Cmd} (h : ∀ s ∈ l, okText s = true) (hl : l.length ≤ 20) : OkR (listV l c).2 := by
  have hg : ∀ i : Nat, okText (l[i]?.getD ⟨#[]⟩) = true := fun i => by
    cases hx : l[i]? with
    | none => rfl
    | some a => exact h a (List.mem_of_getElem? hx)
  unfold listV
  repeat' split
  · exact fail_ok (by omega) (by omega)
  · exact told_small (by omega) (by omega)
  · exact told_small (by omega) (by omega)
  · exact textR_ok (hg _)
  · exact textR_ok (hg _)
theorem setR_ok (l : List ByteArray) (c : Cmd) : OkR (setV l c).2 := by
  unfold setV
  simp only
  repeat' split
  all_goals first | exact told_small (by omega) (by omega) | exact fail_ok (by omega) (by omega) | exact flag_ok _
theorem firstI_bound {α : Type} (p : α → Bool) : ∀ (l : List α) (i : Nat), -1 ≤ firstI p i l ∧ firstI p i l < (i : Int) + l.length + 1
  | [], i => by unfold firstI; simp; omega
  | a :: l, i => by
    unfold firstI
    split
    · simp; omega
    · have := firstI_bound p l (i + 1)
      simp only [List.length_cons]
      omega
theorem ranksR_ok {l : List Sc} {c : Cmd} (hl : l.length ≤ 20) : OkR (ranksV l c).2 := by
  have hb := firstI_bound (fun s : Sc => decide (s.1 = c.text)) l 0
  change -1 ≤ rankOf l c.text ∧ rankOf l c.text < _ at hb
  unfold ranksV
  simp only
  repeat' split
  all_goals first | exact told_small (by omega) (by omega) | exact fail_ok (by omega) (by omega)
theorem allV_ok {v : Val} (h : OkB v) : (allV v).length ≤ 20 ∧ ∀ s ∈ allV v, okText s = true := by
  have he := h.els
  unfold Val.els at he
  unfold allV
  refine ⟨by simp; omega, fun s hs => ?_⟩
  rcases List.mem_append.1 hs with hs | hs
  · rcases List.mem_append.1 hs with hs | hs
    · exact h.okI s hs
    · obtain ⟨p, hp, rfl⟩ := List.mem_map.1 hs
      have := (h.okP p hp).1
      unfold okField at this
      unfold okText
      simp only [Bool.and_eq_true, decide_eq_true_eq] at this ⊢
      omega
  · obtain ⟨p, hp, rfl⟩ := List.mem_map.1 hs
    exact (h.okS p hp).1
theorem doV_okR {v : Val} {c : Cmd} (h : OkB v) (ht : okText c.text = true) : OkR (doV v c).2 := by
  have he := h.els
  unfold Val.els at he
  unfold doV
  repeat' split
  · exact told_small (by omega) (by omega)
  · exact textR_ok h.okT
  · rename_i hc; exact told_ok hc
  · exact fail_ok (by omega) (by omega)
  · refine told_small ?_ ?_ <;> (unfold Val.els; omega)
  · obtain ⟨h1, h2⟩ := allV_ok h
    exact ⟨⟨by show (0 : Int) ≤ 0; omega, by show (0 : Int) ≤ 13; omega⟩, rfl, h1, h2, rfl⟩
  · exact hashR_ok h.okP ht
  · exact listR_ok h.okI (by omega)
  · exact setR_ok _ _
  · exact ranksR_ok (by omega)
theorem DoEnd_okR {v : Val} {q : Val × Rep} (h : OkR q.2) : OkR (DoEnd v q).2.1 := by
  unfold DoEnd
  repeat' split
  all_goals exact h
theorem DoV_okR {v : Val} {c : Cmd} (hv : Vk v) (hc : checkC c = 0) (hk : c.kind ≤ 18) : OkR (DoV v c).2.1 := by
  have ht := (checkC_facts hc).2.2.1
  have hk1 := checkC_kind hc
  rcases hv with h | h
  · have hv := checkV_iff.2 h
    by_cases hm : (kindOfC c.kind ≠ 0 ∧ kindOfC c.kind ≠ v.kind) ∨ (17 ≤ c.kind ∧ v.kind < 3)
    · rw [DoV_type hv hc hk hm]; exact fail_ok (by omega) (by omega)
    · rw [DoV_go hv hc hk hm]; exact DoEnd_okR (doV_okR h.b ht)
  · subst h
    rw [DoV_zero hc hk]
    split
    · by_cases e : c.kind = 1
      · have hd : doV ⟨kindOfC c.kind, ⟨#[]⟩, 0, [], [], []⟩ c = doV ⟨1, ⟨#[]⟩, 0, [], [], []⟩ c := by unfold doV; rw [if_pos e, if_pos e]
        rw [hd]
        exact DoEnd_okR (doV_okR (fresh_b (by omega) (by omega)) ht)
      · rename_i hmk
        have hk2 : c.kind ≤ 14 := by
          unfold makesC at hmk
          simp at hmk
          omega
        have hr : 1 ≤ kindOfC c.kind ∧ kindOfC c.kind ≤ 6 := by
          have hne := kindOf_zero hk1 (by omega) e
          unfold kindOfC at hne ⊢
          repeat' split
          all_goals simp_all
        exact DoEnd_okR (doV_okR (fresh_b hr.1 hr.2) ht)
    · exact fail_ok (by omega) (by omega)
theorem doE_okR {now : Int} {l : List Ent} {c : Cmd} (hn0 : 0 ≤ now) (hr : Rise l) (ha : ∀ e ∈ l, OkE now e) (hl : l.length ≤ 12) (hc : checkC c = 0) : OkR (doE now l c).2 := by
  have hk1 := checkC_kind hc
  have hkf := (checkC_facts hc).2.1
  unfold doE
  by_cases k1 : c.kind = 22
  · rw [if_pos k1]
    refine ⟨⟨by show (0 : Int) ≤ 0; omega, by show (0 : Int) ≤ 13; omega⟩, rfl, by show (l.map Ent.key).length ≤ 20; rw [List.length_map]; omega, fun s hs => ?_, rfl⟩
    obtain ⟨e, he, rfl⟩ := List.mem_map.1 hs
    have := (ha e he).key
    unfold okField at this
    unfold okText
    simp only [Bool.and_eq_true, decide_eq_true_eq] at this ⊢
    omega
  · rw [if_neg k1]
    by_cases k2 : c.kind = 19
    · rw [if_pos k2]
      split <;> exact told_small (by omega) (by omega)
    · rw [if_neg k2]
      by_cases k3 : c.kind = 20 ∨ c.kind = 21
      · rw [if_pos k3]
        obtain ⟨t1, t2⟩ := timedE_spec hr now c
        cases hg : getE l c.key with
        | none => rw [t1 hg]; exact fail_ok (by omega) (by omega)
        | some e =>
          obtain ⟨t3, t4, t5⟩ := t2 e hg
          have ht := (ha e (getE_mem hg).1).till
          by_cases k4 : c.kind = 21
          · rw [t3 k4]; refine told_small ?_ ?_ <;> (split <;> omega)
          · by_cases k5 : c.n < 1 ∨ 1073741824 - now < c.n
            · rw [t4 k4 k5]; exact fail_ok (by omega) (by omega)
            · rw [(t5 k4 k5).1]; exact told_small (by omega) (by omega)
      · rw [if_neg k3, (valE_spec hr c).2]
        have hvk : Vk (((getE l c.key).map Ent.val).getD zeroV) := by
          cases hg : getE l c.key with
          | none => exact .inr rfl
          | some e => exact .inl (ha e (getE_mem hg).1).val
        have hn := DoV_okR hvk hc (by omega)
        change OkR (newR l c) at hn
        repeat' split
        all_goals first | exact hn | exact fail_ok (by omega) (by omega)
theorem apply_okR {s : Sto} (h : OkS s) {t : Int} (h0 : 0 ≤ t) (h1 : t ≤ 1073741824) {c : Cmd} (hc : checkC c = 0) : OkR (ApplyS s t c).2.1 := by
  rw [(apply_ok h h0 h1 hc).1]
  obtain ⟨a1, a2, a3⟩ := alive_ok h (maxI_le s.now t).1
  exact doE_okR (by have := h.now; have := maxI_le s.now t; omega) a1 a2 a3 hc
structure Cli where
  id : Int
  seq : Int
  time : Int
  reply : Rep
structure Mach where
  sto : Sto
  next : Int
  clis : List Cli
structure Cal where
  client : Int
  seq : Int
  cmd : Cmd
def Cli.c (x : Cli) : List C := [iC x.id, iC x.seq, iC x.time, iC x.reply.code, sC x.reply.text, iC x.reply.n, .v (.sl (strRows x.reply.list))]
def Cli.row (x : Cli) : List V := [.lit (.int .i64 x.id), .lit (.int .i64 x.seq), .lit (.int .i64 x.time), .lit (.int .i64 x.reply.code), .lit (.string x.reply.text), .lit (.int .i64 x.reply.n), .sl (strRows x.reply.list)]
abbrev clR (l : List Cli) : List (List V) := l.map Cli.row
def Mach.c (m : Mach) : List C := [iC m.sto.now, .v (.sl (eR m.sto.ents)), iC m.next, .v (.sl (clR m.clis))]
def Cal.c (c : Cal) : List C := [iC c.client, iC c.seq, iC c.cmd.kind, sC c.cmd.key, sC c.cmd.field, sC c.cmd.text, iC c.cmd.n]
def checkR (r : Rep) : Int := checkReply r.code r.text r.n r.list
def checkCl (c : Cal) : Int := checkCall c.client c.seq c.cmd.kind c.cmd.key c.cmd.field c.cmd.text c.cmd.n
def badC (next now : Int) (x : Cli) : Bool := decide (x.id < 1) || decide (next ≤ x.id) || decide (x.seq < 0) || decide (1048576 < x.seq) || decide (x.time < 0) || decide (now < x.time) || (checkR x.reply != 0)
def cI (a b : Cli) : Int := a.id - b.id
def checkM (m : Mach) : Int :=
  if checkS m.sto ≠ 0 ∨ m.next < 1 ∨ 1048577 < m.next ∨ 4 < m.clis.length then 13
  else if m.clis.any (badC m.next m.sto.now) = true then 13
  else if rising cI m.clis = true then 0 else 13
def oldest : List Cli → Nat → Nat → List Cli → Nat
  | _, old, _, [] => old
  | all, old, i, x :: r => oldest all (match all[old]? with | some y => if x.time < y.time then i else old | none => old) (i + 1) r
def openM (m : Mach) : Mach × Rep :=
  if 1048576 < m.next then (m, failR 6)
  else (⟨m.sto, m.next + 1, (if m.clis.length = 4 then delAt m.clis (oldest m.clis 0 0 m.clis) else m.clis) ++ [⟨m.next, 0, m.sto.now, toldR 0⟩]⟩, toldR m.next)
def findC (l : List Cli) (id : Int) : Int := firstI (fun x => x.id == id) 0 l
def zeroM : Mach := ⟨zeroS, 0, []⟩
def callM (m : Mach) (time : Int) (c : Cal) : Mach × Rep :=
  if c.client = 0 then openM m
  else if findC m.clis c.client < 0 then (m, failR 11)
  else match m.clis[(findC m.clis c.client).toNat]? with
    | none => (m, failR 11)
    | some x =>
      if c.seq = x.seq then (m, x.reply)
      else if c.seq ≠ x.seq + 1 then (m, failR 10)
      else (⟨(ApplyS m.sto time c.cmd).1, m.next, m.clis.set (findC m.clis c.client).toNat ⟨x.id, c.seq, (ApplyS m.sto time c.cmd).1.now, (ApplyS m.sto time c.cmd).2.1⟩⟩, (ApplyS m.sto time c.cmd).2.1)
def DoM (m : Mach) (time : Int) (c : Cal) : Mach × Rep × Int :=
  if checkM m ≠ 0 then (zeroM, toldR 0, checkM m)
  else if time < 0 ∨ 1073741824 < time then (zeroM, toldR 0, 2)
  else if checkCl c ≠ 0 then (zeroM, toldR 0, checkCl c)
  else ((callM ⟨(ApplyS m.sto time keysC).1, m.next, m.clis⟩ time c).1, (callM ⟨(ApplyS m.sto time keysC).1, m.next, m.clis⟩ time c).2, 0)
structure OkC (next now : Int) (x : Cli) : Prop where
  id : 1 ≤ x.id ∧ x.id < next
  seq : 0 ≤ x.seq ∧ x.seq ≤ 1048576
  time : 0 ≤ x.time ∧ x.time ≤ now
  reply : checkR x.reply = 0
def RiseC (l : List Cli) : Prop := l.Pairwise (fun a b => a.id < b.id)
structure OkM (m : Mach) : Prop where
  sto : OkS m.sto
  next : 1 ≤ m.next ∧ m.next ≤ 1048577
  len : m.clis.length ≤ 4
  all : ∀ x ∈ m.clis, OkC m.next m.sto.now x
  rise : RiseC m.clis
theorem badC_iff {next now : Int} {x : Cli} : badC next now x = false ↔ OkC next now x := by
  unfold badC
  constructor
  · intro h
    simp only [Bool.or_eq_false_iff, decide_eq_false_iff_not, bne_eq_false_iff_eq] at h
    obtain ⟨⟨⟨⟨⟨⟨h1, h2⟩, h3⟩, h4⟩, h5⟩, h6⟩, h7⟩ := h
    exact ⟨by omega, by omega, by omega, h7⟩
  · rintro ⟨h1, h2, h3, h4⟩
    simp only [Bool.or_eq_false_iff, decide_eq_false_iff_not, bne_eq_false_iff_eq]
    exact ⟨⟨⟨⟨⟨⟨by omega, by omega⟩, by omega⟩, by omega⟩, by omega⟩, by omega⟩, h4⟩
theorem cI_tr : ∀ a b c : Cli, cI a b < 0 → cI b c < 0 → cI a c < 0 := fun a b c h1 h2 => by unfold cI at *; omega
theorem riseC_iff {l : List Cli} : rising cI l = true ↔ RiseC l := by
  rw [rising_iff cI_tr]
  unfold RiseC
  constructor <;> exact fun h => h.imp fun h => by unfold cI at *; omega
theorem checkM_iff {m : Mach} : checkM m = 0 ↔ OkM m := by
  unfold checkM
  constructor
  · intro h
    split at h
    · cases h
    · rename_i h1
      simp only [not_or] at h1
      split at h
      · cases h
      · rename_i h2
        split at h
        · rename_i h3
          refine ⟨checkS_iff.1 (Classical.not_not.1 h1.1), by omega, by omega, fun x hx => badC_iff.1 ?_, riseC_iff.1 h3⟩
          cases hb : badC m.next m.sto.now x with
          | false => rfl
          | true => exact absurd (List.any_eq_true.2 ⟨x, hx, hb⟩) h2
        · cases h
  · rintro ⟨h1, h2, h3, h4, h5⟩
    rw [if_neg, if_neg, if_pos (riseC_iff.2 h5)]
    · intro h
      obtain ⟨x, hx, hb⟩ := List.any_eq_true.1 h
      rw [badC_iff.2 (h4 x hx)] at hb; cases hb
    · simp only [not_or]
      exact ⟨fun h => h (checkS_iff.2 h1), by omega, by omega, by omega⟩
theorem checkR_iff {r : Rep} : checkR r = 0 ↔ OkR r := by
  unfold checkR checkReply
  constructor
  · intro h
    repeat' split at h
    all_goals first | (cases h; done) | skip
    rename_i h1 h2 h3 h4 h5 h6 h7
    simp only [decide_eq_true_eq] at h1 h2 h3 h4 h6 h7
    refine ⟨by omega, by unfold okText; simp; omega, by omega, fun s hs => ?_, by unfold okCount; simp; omega⟩
    unfold okText
    simp only [decide_eq_true_eq]
    apply Classical.not_not.1
    intro hh
    exact h5 (List.any_eq_true.2 ⟨s, hs, by simp; omega⟩)
  · rintro ⟨h1, h2, h3, h4, h5⟩
    unfold okText at h2 h4
    unfold okCount at h5
    simp only [decide_eq_true_eq, Bool.and_eq_true] at h2 h4 h5
    have ha : ¬ (r.list.any fun s => decide (20 < (s.size : Int))) = true := fun h => by
      obtain ⟨s, hs, hb⟩ := List.any_eq_true.1 h
      have := h4 s hs
      simp at hb; omega
    rw [if_neg (by simp; omega), if_neg (by simp; omega), if_neg (by simp; omega), if_neg (by simp; omega), if_neg ha, if_neg (by simp; omega), if_neg (by simp; omega)]
theorem oldest_lt (all : List Cli) : ∀ (r : List Cli) (old i : Nat), old < all.length → i + r.length ≤ all.length → oldest all old i r < all.length
  | [], old, _, h, _ => h
  | x :: r, old, i, h, hi => by
    unfold oldest
    simp only [List.length_cons] at hi
    refine oldest_lt all r _ (i + 1) ?_ (by omega)
    split
    · split <;> omega
    · exact h
theorem RiseC.sub {l l' : List Cli} (h : RiseC l) (hs : l'.Sublist l) : RiseC l' := List.Pairwise.sublist hs h
theorem open_ok {m : Mach} (h : OkM m) : OkM (openM m).1 ∧ OkR (openM m).2 := by
  unfold openM
  by_cases hn : 1048576 < m.next
  · rw [if_pos hn]; exact ⟨h, fail_ok (by omega) (by omega)⟩
  · rw [if_neg hn]
    obtain ⟨L, hL⟩ : ∃ L, (if m.clis.length = 4 then delAt m.clis (oldest m.clis 0 0 m.clis) else m.clis) = L := ⟨_, rfl⟩
    have hsub : L.Sublist m.clis ∧ L.length ≤ 3 := by
      rw [← hL]
      split
      · rename_i h4
        have hlt := oldest_lt m.clis m.clis 0 0 (by omega) (by omega)
        exact ⟨del_sub _ _, by have := delE_len hlt; omega⟩
      · exact ⟨List.Sublist.refl _, by have := h.len; omega⟩
    rw [hL]
    have hnx := h.next
    have hnow := h.sto.now
    refine ⟨⟨h.sto, ⟨by show 1 ≤ m.next + 1; omega, by show m.next + 1 ≤ 1048577; omega⟩, by show (L ++ [_]).length ≤ 4; rw [List.length_append]; simp; omega, fun x hx => ?_, ?_⟩, told_small (by omega) (by omega)⟩
    · rcases List.mem_append.1 hx with hx | hx
      · have ho := h.all x (hsub.1.subset hx)
        exact ⟨⟨ho.id.1, by have := ho.id.2; show x.id < m.next + 1; omega⟩, ho.seq, ho.time, ho.reply⟩
      · simp only [List.mem_singleton] at hx
        subst hx
        exact ⟨⟨hnx.1, by show m.next < m.next + 1; omega⟩, ⟨Int.le_refl _, by show (0 : Int) ≤ 1048576; omega⟩, ⟨hnow.1, Int.le_refl _⟩, checkR_iff.2 (told_small (by omega) (by omega))⟩
    · refine List.pairwise_append.2 ⟨h.rise.sub hsub.1, List.pairwise_singleton _ _, fun a ha b hb => ?_⟩
      simp only [List.mem_singleton] at hb
      subst hb
      exact (h.all a (hsub.1.subset ha)).id.2
theorem later_ok {m : Mach} (h : OkM m) {s : Sto} (hs : OkS s) (hn : m.sto.now ≤ s.now) : OkM ⟨s, m.next, m.clis⟩ :=
  ⟨hs, h.next, h.len, fun x hx => by have ho := h.all x hx; exact ⟨ho.id, ho.seq, ⟨ho.time.1, Int.le_trans ho.time.2 hn⟩, ho.reply⟩, h.rise⟩
theorem call_cmd {c : Cal} (h : checkCl c = 0) (hc : c.client ≠ 0) : okNumber c.client = true ∧ okNumber c.seq = true ∧ checkC c.cmd = 0 := by
  unfold checkCl checkCall at h
  rw [if_neg (by simpa using hc)] at h
  split at h
  · rename_i h1
    split at h
    · rename_i h2; exact ⟨h1, h2, h⟩
    · cases h
  · cases h
theorem call_ok {m : Mach} (h : OkM m) {t : Int} (h0 : 0 ≤ t) (h1 : t ≤ 1073741824) {c : Cal} (hc : checkCl c = 0) : OkM (callM m t c).1 ∧ OkR (callM m t c).2 := by
  unfold callM
  by_cases hz : c.client = 0
  · rw [if_pos hz]; exact open_ok h
  · rw [if_neg hz]
    obtain ⟨n1, n2, hcc⟩ := call_cmd hc hz
    by_cases hf : findC m.clis c.client < 0
    · rw [if_pos hf]; exact ⟨h, fail_ok (by omega) (by omega)⟩
    · rw [if_neg hf]
      cases hx : m.clis[(findC m.clis c.client).toNat]? with
      | none => exact ⟨h, fail_ok (by omega) (by omega)⟩
      | some x =>
        have hm := List.mem_of_getElem? hx
        have ho := h.all x hm
        simp only
        by_cases e1 : c.seq = x.seq
        · rw [if_pos e1]; exact ⟨h, checkR_iff.1 ho.reply⟩
        · rw [if_neg e1]
          by_cases e2 : c.seq ≠ x.seq + 1
          · rw [if_pos e2]; exact ⟨h, fail_ok (by omega) (by omega)⟩
          · rw [if_neg e2]
            have hr := apply_okR h.sto h0 h1 hcc
            obtain ⟨e, ok⟩ := apply_ok h.sto h0 h1 hcc
            have hnow : m.sto.now ≤ (ApplyS m.sto t c.cmd).1.now := by rw [e]; exact (maxI_le _ _).1
            have okS : OkS (ApplyS m.sto t c.cmd).1 := by rw [e]; exact ok
            obtain ⟨S, hS⟩ : ∃ S, (ApplyS m.sto t c.cmd).1 = S := ⟨_, rfl⟩
            rw [hS] at hnow okS ⊢
            have hl := later_ok h okS hnow
            have hlt := (List.getElem?_eq_some_iff.1 hx).1
            have hxe := (List.getElem?_eq_some_iff.1 hx).2
            unfold okNumber at n2
            simp only [Bool.and_eq_true, decide_eq_true_eq] at n2
            refine ⟨⟨okS, h.next, by show (m.clis.set _ _).length ≤ 4; rw [List.length_set]; exact h.len, fun y hy => ?_, ?_⟩, hr⟩
            · rcases List.mem_or_eq_of_mem_set hy with hy | hy
              · exact hl.all y hy
              · subst hy
                exact ⟨ho.id, ⟨by show 0 ≤ c.seq; omega, n2.2⟩, ⟨okS.now.1, Int.le_refl _⟩, checkR_iff.2 hr⟩
            · have hri := h.rise
              unfold RiseC at hri ⊢
              rw [← List.pairwise_map (f := Cli.id) (R := fun a b => a < b)] at hri ⊢
              have : (m.clis.set (findC m.clis c.client).toNat ⟨x.id, c.seq, S.now, (ApplyS m.sto t c.cmd).2.1⟩).map Cli.id = m.clis.map Cli.id := by
                rw [List.map_set]
                refine List.ext_getElem? fun q => ?_
                rw [List.getElem?_set]
                split
                · rename_i hq
                  subst hq
                  rw [if_pos (by rw [List.length_map]; exact hlt), List.getElem?_map, hx]; rfl
                · rfl
              show ((m.clis.set (findC m.clis c.client).toNat ⟨x.id, c.seq, S.now, (ApplyS m.sto t c.cmd).2.1⟩).map Cli.id).Pairwise _
              rw [this]; exact hri
theorem do_ok {m : Mach} (h : OkM m) {t : Int} (h0 : 0 ≤ t) (h1 : t ≤ 1073741824) {c : Cal} (hc : checkCl c = 0) :
    DoM m t c = ((callM ⟨⟨maxI m.sto.now t, aliveS (maxI m.sto.now t) m.sto⟩, m.next, m.clis⟩ t c).1, (callM ⟨⟨maxI m.sto.now t, aliveS (maxI m.sto.now t) m.sto⟩, m.next, m.clis⟩ t c).2, 0) ∧
      OkM ⟨⟨maxI m.sto.now t, aliveS (maxI m.sto.now t) m.sto⟩, m.next, m.clis⟩ ∧ OkM (DoM m t c).1 ∧ OkR (DoM m t c).2.1 := by
  obtain ⟨e, ok⟩ := apply_ok h.sto h0 h1 keysC_ok
  rw [doE_keys] at e ok
  have hmid := later_ok h ok (maxI_le _ _).1
  have hd : DoM m t c = ((callM ⟨⟨maxI m.sto.now t, aliveS (maxI m.sto.now t) m.sto⟩, m.next, m.clis⟩ t c).1, (callM ⟨⟨maxI m.sto.now t, aliveS (maxI m.sto.now t) m.sto⟩, m.next, m.clis⟩ t c).2, 0) := by
    unfold DoM
    rw [if_neg (by rw [checkM_iff.2 h]; simp), if_neg (by omega), if_neg (by rw [hc]; simp), e]
  obtain ⟨c1, c2⟩ := call_ok hmid h0 h1 hc
  rw [hd]
  exact ⟨rfl, hmid, c1, c2⟩
def newM : Mach := ⟨zeroS, 1, []⟩
end Go.Proofs.YtkkleopmambcnaaGreatDoor
set_option linter.unusedVariables false
set_option linter.unusedSimpArgs false
set_option maxRecDepth 100000
set_option maxHeartbeats 8000000
namespace Go.Proofs.YtkkleopmambcnaaGreatDoor
open Go Go.RowKit Go.Proofs.AE
variable {G : Nat → AV}
theorem checkR_c (r : Rep) : PCall Tryz.prog G 65 [.agg r.c] (iV (checkR r)) := checkReply_c r.code r.text r.n r.list
theorem checkCl_c (c : Cal) : PCall Tryz.prog G 46 [.agg c.c] (iV (checkCl c)) := checkCall_c c.client c.seq c.cmd.kind c.cmd.key c.cmd.field c.cmd.text c.cmd.n
def tstC (next now : Int) (p : Option Cli) (x : Cli) : Bool := decide (x.id < 1) || decide (next ≤ x.id) || (match p with | some p => decide (x.id ≤ p.id) | none => false) || decide (x.seq < 0) || decide (1048576 < x.seq) || decide (x.time < 0) || decide (now < x.time) || (checkR x.reply != 0)
def chkC (next now : Int) : Option Cli → List Cli → Int
  | _, [] => 0
  | p, x :: r => if tstC next now p x = true then 13 else chkC next now (some x) r
theorem tstC_eq (next now : Int) (p : Option Cli) (x : Cli) : tstC next now p x = (badC next now x || (match p with | some p => !decide (cI p x < 0) | none => false)) := by
  unfold tstC badC cI
  cases p with
  | none => simp
  | some p =>
    have : decide (x.id ≤ p.id) = !decide (p.id - x.id < 0) := by
      by_cases h : x.id ≤ p.id
      · have h2 : ¬ p.id - x.id < 0 := by omega
        simp [h, h2]
      · have h2 : p.id - x.id < 0 := by omega
        simp [h, h2]
    simp only [this]
    generalize (!decide (p.id - x.id < 0)) = b
    cases b <;> simp
theorem chkC_eq (next now : Int) : ∀ (l : List Cli) (p : Option Cli), chkC next now p l = if l.any (badC next now) = true then 13 else if rising cI ((match p with | some p => [p] | none => []) ++ l) = true then 0 else 13
  | [], p => by cases p <;> rfl
  | x :: r, p => by
    have ih := chkC_eq next now r (some x)
    unfold chkC
    rw [ih, tstC_eq]
    cases p with
    | none =>
      obtain ⟨b, hb⟩ : ∃ b, badC next now x = b := ⟨_, rfl⟩
      rw [List.any_cons, hb]
      cases b <;> simp
    | some p =>
      have hr : rising cI ([p] ++ x :: r) = (decide (cI p x < 0) && rising cI (x :: r)) := rfl
      obtain ⟨b, hb⟩ : ∃ b, badC next now x = b := ⟨_, rfl⟩
      obtain ⟨d, hd⟩ : ∃ d, decide (cI p x < 0) = d := ⟨_, rfl⟩
      simp only [List.any_cons, hr, hb, hd]
      cases b <;> cases d <;> simp
def prevC (l : List Cli) (i : Nat) : Option Cli := if i = 0 then none else l[i - 1]?
theorem chkC_drop (next now : Int) {l : List Cli} {i : Nat} {x : Cli} (h : l[i]? = some x) : chkC next now (prevC l i) (l.drop i) = if tstC next now (prevC l i) x = true then 13 else chkC next now (prevC l (i + 1)) (l.drop (i + 1)) := by
  have hl := (List.getElem?_eq_some_iff.1 h).1
  have hx := (List.getElem?_eq_some_iff.1 h).2
  rw [List.drop_eq_getElem_cons hl, hx]
  have hp : prevC l (i + 1) = some x := by unfold prevC; simpa using h
  rw [hp]
  rfl
theorem checkM_chk (m : Mach) : checkM m = if checkS m.sto ≠ 0 ∨ m.next < 1 ∨ 1048577 < m.next ∨ 4 < m.clis.length then 13 else chkC m.next m.sto.now none m.clis := by
  unfold checkM
  rw [chkC_eq]
  rfl
theorem checkM_c (m : Mach) (hs : m.sto.Small) (hl : m.clis.length ≤ 1000000) : PCall Tryz.prog G 45 [.agg m.c] (iV (checkM m)) := by
  have hcs := checkS_c (G := G) m.sto hs
  rw [checkM_chk]
  obtain ⟨V, hV⟩ : ∃ V, checkS m.sto = V := ⟨_, rfl⟩
  rw [hV] at hcs ⊢
  obtain ⟨⟨now, ents⟩, next, l⟩ := m
  simp only at hl
  simp only [Mach.c, Sto.c] at hcs ⊢
  by_cases hb : V ≠ 0 ∨ next < 1 ∨ 1048577 < next ∨ 4 < l.length
  · rw [if_pos hb]
    by_cases b0 : V ≠ 0
    · have q0 : (V != 0) = true := by simpa using b0
      refine pcallc mixed Tryz.func45 ac_client_Check ?_
      repeat' (first | (with_reducible first | refine Cn (fun h => ?_) fun h => ?_ | refine And.intro ?_ ?_ | refine wR ?_ | exact wr _ _ | refine wa ?_ | apply awp_join | refine q hcs ?_ | refine qd hcs ?_ | refine qz hcs ?_) | (with_reducible refine CallZ.z ?_) | simp -dsimp [go_sem, q0])
    · have q0 : (V != 0) = false := by simpa using b0
      by_cases b1 : next < 1
      · have q1 : decide (next < 1) = true := by simpa using b1
        refine pcallc mixed Tryz.func45 ac_client_Check ?_
        repeat' (first | (with_reducible first | refine Cn (fun h => ?_) fun h => ?_ | refine And.intro ?_ ?_ | refine wR ?_ | exact wr _ _ | refine wa ?_ | apply awp_join | refine q hcs ?_ | refine qd hcs ?_ | refine qz hcs ?_) | (with_reducible refine CallZ.z ?_) | simp -dsimp [go_sem, q0, q1])
      · have q1 : decide (next < 1) = false := by simpa using b1
        by_cases b2 : 1048577 < next
        · have q2 : decide (1048577 < next) = true := by simpa using b2
          refine pcallc mixed Tryz.func45 ac_client_Check ?_
          repeat' (first | (with_reducible first | refine Cn (fun h => ?_) fun h => ?_ | refine And.intro ?_ ?_ | refine wR ?_ | exact wr _ _ | refine wa ?_ | apply awp_join | refine q hcs ?_ | refine qd hcs ?_ | refine qz hcs ?_) | (with_reducible refine CallZ.z ?_) | simp -dsimp [go_sem, q0, q1, q2])
        · have q2 : decide (1048577 < next) = false := by simpa using b2
          have q3 : decide (4 < (l.length : Int)) = true := by simp; omega
          refine pcallc mixed Tryz.func45 ac_client_Check ?_
          repeat' (first | (with_reducible first | refine Cn (fun h => ?_) fun h => ?_ | refine And.intro ?_ ?_ | refine wR ?_ | exact wr _ _ | refine wa ?_ | apply awp_join | refine q hcs ?_ | refine qd hcs ?_ | refine qz hcs ?_) | (with_reducible refine CallZ.z ?_) | simp -dsimp [go_sem, q0, q1, q2, q3])
  · rw [if_neg hb]
    simp only [not_or, Classical.not_not] at hb
    have q0 : (V != 0) = false := by simpa using hb.1
    have q1 : decide (next < 1) = false := by simp; omega
    have q2 : decide (1048577 < next) = false := by simp; omega
    have q3 : decide (4 < (l.length : Int)) = false := by simp; omega
    refine pcallc mixed Tryz.func45 ac_client_Check ?_
    repeat' (first | (with_reducible first | refine Cn (fun h => ?_) fun h => ?_ | refine And.intro ?_ ?_ | refine wR ?_ | exact wr _ _ | refine wa ?_ | apply awp_join | refine q hcs ?_ | refine qd hcs ?_ | refine qz hcs ?_) | (with_reducible refine CallZ.z ?_) | simp -dsimp [go_sem, q0, q1, q2, q3])
    refine awp_loop (fun i : Nat => ⟨[(1, .one (.ptr 0 0)), (26, .one (.v (.sl (clR l)))), (27, iV l.length), (28, iV i)], G, [some (.box 53 [iC now, .v (.sl (eR ents)), iC next, .v (.sl (clR l))])]⟩) (fun i => i ≤ l.length ∧ chkC next now none l = chkC next now (prevC l i) (l.drop i)) (fun i => l.length - i) 0 (weak_auto ?_) ⟨Nat.zero_le _, rfl⟩ ?_
    · simp -dsimp [go_sem]
    · rintro i ⟨hi, hx⟩
      rw [hx]
      by_cases hlt : i < l.length
      · obtain ⟨x, he⟩ : ∃ x, l[i]? = some x := ⟨_, List.getElem?_eq_getElem hlt⟩
        have e4 : IntKind.i64.wrap ((i : Int) + 1) = (i : Int) + 1 := IntWalk.i64_in _ (by omega)
        have q4 : decide (i < l.length) = true := by simpa using hlt
        have hcr := checkR_c (G := G) x.reply
        rw [chkC_drop next now he]
        obtain ⟨T, hT⟩ : ∃ T, tstC next now (prevC l i) x = T := ⟨_, rfl⟩
        have hT' := hT
        unfold tstC at hT'
        obtain ⟨N, hN⟩ : ∃ N, chkC next now (prevC l (i + 1)) (l.drop (i + 1)) = N := ⟨_, rfl⟩
        rw [hT, hN]
        clear hT
        obtain ⟨R, hR⟩ : ∃ R, checkR x.reply = R := ⟨_, rfl⟩
        rw [hR] at hcr hT'
        obtain ⟨id, seq, time, ⟨rc, rt, rn, rl⟩⟩ := x
        simp only [Rep.c] at hcr
        simp only at hT'
        have hag : i + 1 ≤ l.length ∧ N = chkC next now (prevC l (i + 1)) (l.drop (i + 1)) := ⟨hlt, hN.symm⟩
        by_cases h0 : i = 0
        · have q5 : decide (0 < i) = false := by simp; omega
          have hp : prevC l i = none := by unfold prevC; rw [if_pos h0]
          rw [hp] at hT'
          simp only at hT'
          repeat' (first | (with_reducible first | refine Cn (fun h => ?_) fun h => ?_ | refine And.intro ?_ ?_ | refine wR ?_ | exact wr _ _ | refine wa ?_ | apply awp_join | refine q hcr ?_ | refine qd hcr ?_ | refine qz hcr ?_) | (with_reducible refine CallZ.z ?_) | simp -dsimp [go_sem, he, Cli.row, e4, q4, q5])
          all_goals first
            | omega
            | (have hTt : T = true := by (rw [← hT']; simp [*])
               simp [hTt]; done)
            | (have hTf : T = false := by (rw [← hT']; simp [*])
               rw [hTf]
               refine Again.auto (i + 1) ?_ ?_ ?_
               · simp -dsimp [go_sem]
               · exact hag
               · show l.length - (i + 1) < l.length - i; omega)
            | trace_state
        · have q5 : decide (0 < i) = true := by simp; omega
          obtain ⟨j, hj⟩ : ∃ j, i = j + 1 := ⟨i - 1, by omega⟩
          obtain ⟨p, hpj⟩ : ∃ p, l[j]? = some p := ⟨_, List.getElem?_eq_getElem (by omega)⟩
          have hp : prevC l i = some p := by unfold prevC; rw [if_neg h0, hj]; simpa using hpj
          rw [hp] at hT'
          have e5 : IntKind.i64.wrap ((i : Int) - 1) = (j : Int) := by rw [IntWalk.i64_in _ (by omega)]; omega
          obtain ⟨pid, pseq, ptime, ⟨pc, pt, pn, pl⟩⟩ := p
          simp only at hT'
          repeat' (first | (with_reducible first | refine Cn (fun h => ?_) fun h => ?_ | refine And.intro ?_ ?_ | refine wR ?_ | exact wr _ _ | refine wa ?_ | apply awp_join | refine q hcr ?_ | refine qd hcr ?_ | refine qz hcr ?_) | (with_reducible refine CallZ.z ?_) | simp -dsimp [go_sem, he, hpj, Cli.row, e4, e5, q4, q5])
          all_goals first
            | omega
            | (have hTt : T = true := by (rw [← hT']; simp [*])
               simp [hTt]; done)
            | (have hTf : T = false := by (rw [← hT']; simp [*])
               rw [hTf]
               refine Again.auto (i + 1) ?_ ?_ ?_
               · simp -dsimp [go_sem]
               · exact hag
               · show l.length - (i + 1) < l.length - i; omega)
            | trace_state
      · have hn : l.drop i = [] := List.drop_eq_nil_of_le (by omega)
        have q4 : decide (i < l.length) = false := by simpa using hlt
        rw [hn]
        unfold chkC
        repeat' (first | (with_reducible first | refine Cn (fun h => ?_) fun h => ?_ | refine And.intro ?_ ?_ | refine wR ?_ | exact wr _ _ | refine wa ?_ | apply awp_join) | (with_reducible refine CallZ.z ?_) | simp -dsimp [go_sem, q4])
end Go.Proofs.YtkkleopmambcnaaGreatDoor
set_option linter.unusedVariables false
set_option linter.unusedSimpArgs false
set_option maxRecDepth 100000
set_option maxHeartbeats 8000000
namespace Go.Proofs.YtkkleopmambcnaaGreatDoor
open Go Go.RowKit Go.Proofs.AE
variable {G : Nat → AV}
def keepE (now : Int) (l : List Ent) : List Ent := l.filter fun e => !goneE now e
theorem keepE_succ (now : Int) {l : List Ent} {j : Nat} {e : Ent} (h : l[j]? = some e) : keepE now (l.take (j + 1)) = if goneE now e = true then keepE now (l.take j) else keepE now (l.take j) ++ [e] := by
  unfold keepE
  rw [List.take_add_one, h, Option.toList_some, List.filter_append]
  cases hg : goneE now e <;> simp [hg]
structure Way (now : Int) (l : List Ent) (j i : Nat) (rows : List (List V)) : Prop where
  len : rows.length = l.length
  le : j ≤ l.length
  lt : i < j
  many : i = (keepE now (l.take j)).length
  head : rows.take i = eR (keepE now (l.take j))
  tail : rows.drop j = eR (l.drop j)
  ul : UL 8 rows
theorem Way.at {now : Int} {l : List Ent} {j i : Nat} {rows : List (List V)} (h : Way now l j i rows) {e : Ent} (he : l[j]? = some e) : rows[j]? = some e.row := by
  have : (rows.drop j)[0]? = (eR (l.drop j))[0]? := by rw [h.tail]
  rw [List.getElem?_drop, List.getElem?_map, List.getElem?_drop] at this
  simpa [he] using this
theorem Way.skip {now : Int} {l : List Ent} {j i : Nat} {rows : List (List V)} (h : Way now l j i rows) {e : Ent} (he : l[j]? = some e) (hg : goneE now e = true) : Way now l (j + 1) i rows := by
  have hlt := lt_of_getElem? he
  have hk := keepE_succ now he
  rw [if_pos hg] at hk
  refine ⟨h.len, hlt, by have := h.lt; omega, by rw [hk]; exact h.many, by rw [hk]; exact h.head, ?_, h.ul⟩
  have : (rows.drop j).drop 1 = (eR (l.drop j)).drop 1 := by rw [h.tail]
  rw [List.drop_drop, ← List.map_drop, List.drop_drop] at this
  exact this
theorem Way.keep {now : Int} {l : List Ent} {j i : Nat} {rows : List (List V)} (h : Way now l j i rows) {e : Ent} (he : l[j]? = some e) (hg : goneE now e = false) : Way now l (j + 1) (i + 1) (rows.set i e.row) := by
  have hlt := lt_of_getElem? he
  have hk := keepE_succ now he
  rw [if_neg (by rw [hg]; simp)] at hk
  have hl := h.len
  have hij := h.lt
  refine ⟨by rw [List.length_set]; exact hl, hlt, by omega, by rw [hk, List.length_append, ← h.many]; rfl, ?_, ?_, ?_⟩
  · rw [hk]
    show List.take (i + 1) (rows.set i e.row) = List.map Ent.row (_ ++ [e])
    have hh : List.map Ent.row (keepE now (l.take j)) = rows.take i := h.head.symm
    rw [List.map_append, hh, List.take_add_one, List.getElem?_set_self (by omega)]
    simp only [Option.toList_some, List.map_cons, List.map_nil]
    congr 1
    rw [List.take_set_of_le (Nat.le_refl _)]
  · rw [List.drop_set_of_lt (by omega)]
    have : (rows.drop j).drop 1 = (eR (l.drop j)).drop 1 := by rw [h.tail]
    rw [List.drop_drop, ← List.map_drop, List.drop_drop] at this
    exact this
  · intro r hr
    rcases List.mem_or_eq_of_mem_set hr with hr | hr
    · exact h.ul r hr
    · rw [hr]; rfl
end Go.Proofs.YtkkleopmambcnaaGreatDoor
set_option linter.unusedVariables false
set_option linter.unusedSimpArgs false
set_option maxRecDepth 100000
set_option maxHeartbeats 8000000
namespace Go.Proofs.YtkkleopmambcnaaGreatDoor
open Go Go.RowKit Go.Proofs.AE
def cleanF : List Nat → List (Nat × AV) → List (Nat × AV)
  | _, [] => []
  | seen, (t, v) :: r => bif memB t seen then cleanF seen r else (t, v) :: cleanF (t :: seen) r
theorem getF_cleanF : ∀ (fr : List (Nat × AV)) (seen : List Nat) (t : Nat), t ∉ seen → getF (cleanF seen fr) t = getF fr t
  | [], _, _, _ => rfl
  | (u, v) :: r, seen, t, h => by
    unfold cleanF
    cases hm : memB u seen with
    | true =>
      have hu : u ∈ seen := memB_iff.1 hm
      have hne : u ≠ t := fun e => h (e ▸ hu)
      simp only [cond_true]
      rw [getF_cleanF r seen t h]
      simp only [getF, hne, if_false]
    | false =>
      simp only [cond_false, getF]
      by_cases e : u = t
      · simp [e]
      · simp only [e, if_false]
        exact getF_cleanF r (u :: seen) t (by simp only [List.mem_cons, not_or]; exact ⟨fun h => e h.symm, h⟩)
theorem clean_nil (seen : List Nat) : cleanF seen [] = [] := rfl
def cleanS (b : Bool) (seen : List Nat) (t : Nat) (v : AV) (r : List (Nat × AV)) : List (Nat × AV) := bif b then cleanF seen r else (t, v) :: cleanF (t :: seen) r
theorem clean_cons {seen : List Nat} {t : Nat} {v : AV} {r : List (Nat × AV)} : cleanF seen ((t, v) :: r) = cleanS (memB t seen) seen t v r := rfl
theorem clean_yes {seen : List Nat} {t : Nat} {v : AV} {r : List (Nat × AV)} : cleanS true seen t v r = cleanF seen r := rfl
theorem clean_no {seen : List Nat} {t : Nat} {v : AV} {r : List (Nat × AV)} : cleanS false seen t v r = (t, v) :: cleanF (t :: seen) r := rfl
theorem weak_autoC {k : Nat} {s s' : S} (h : WA k s ⟨cleanF [] s'.fr, s'.gl, s'.hp⟩) : Weak k s s' := by
  refine Weak.trans (weak_auto h) ⟨rfl, fun n w ok μ a hst => ⟨ok, μ, ⟨hst.hr, hst.size, hst.defers, fun t => ?_, hst.gl⟩, (Go.Proofs.AE.Step.refl hst.hr).far⟩⟩
  have := hst.fr t
  rw [getF_cleanF _ _ _ (by simp)] at this
  exact this
end Go.Proofs.YtkkleopmambcnaaGreatDoor
set_option linter.unusedVariables false
set_option linter.unusedSimpArgs false
set_option maxRecDepth 100000
set_option maxHeartbeats 8000000
namespace Go.Proofs.YtkkleopmambcnaaGreatDoor
open Go Go.RowKit Go.Proofs.AE
variable {G : Nat → AV}
instance : DecidableEq Ent := fun a b => decidable_of_iff (a.key = b.key ∧ a.val = b.val ∧ a.till = b.till) (by cases a; cases b; simp)
instance : DecidableEq Sto := fun a b => decidable_of_iff (a.now = b.now ∧ a.ents = b.ents) (by cases a; cases b; simp)
end Go.Proofs.YtkkleopmambcnaaGreatDoor
set_option linter.unusedVariables false
set_option linter.unusedSimpArgs false
set_option maxRecDepth 100000
set_option maxHeartbeats 8000000
namespace Go.Proofs.YtkkleopmambcnaaGreatDoor
open Go Go.RowKit Go.Proofs.AE
variable {G : Nat → AV}
def accC (l : List Cli) (i : Nat) : List (List V) := clR (l.take i)
theorem accC_zero (l : List Cli) : accC l 0 = [] := rfl
theorem accC_all (l : List Cli) {i : Nat} (h : l.length ≤ i) : accC l i = clR l := by unfold accC; rw [List.take_of_length_le h]
theorem accC_len (l : List Cli) {i : Nat} (h : i ≤ l.length) : (accC l i).length = i := by unfold accC; simp; omega
theorem accC_succ {l : List Cli} {i : Nat} {x : Cli} (h : l[i]? = some x) : accC l (i + 1) = accC l i ++ [x.row] := by
  unfold accC
  rw [List.take_add_one, h, Option.toList_some]
  simp
def Cli.cs (x : Cli) : List C := x.c
end Go.Proofs.YtkkleopmambcnaaGreatDoor
set_option linter.unusedVariables false
set_option linter.unusedSimpArgs false
set_option maxRecDepth 100000
set_option maxHeartbeats 8000000
namespace Go.Proofs.YtkkleopmambcnaaGreatDoor
open Go Go.RowKit Go.Proofs.AE
variable {G : Nat → AV}
def Noth (G : Nat → AV) : Prop := G 0 = .one (.vptr [.lit (.int .i64 22), .lit (.string ⟨#[]⟩), .lit (.string ⟨#[]⟩), .lit (.string ⟨#[]⟩), .lit (.int .i64 0)])
end Go.Proofs.YtkkleopmambcnaaGreatDoor
set_option linter.unusedVariables false
set_option linter.unusedSimpArgs false
set_option maxRecDepth 100000
set_option maxHeartbeats 8000000
namespace Go.Proofs.YtkkleopmambcnaaGreatDoor
open Go Go.RowKit Go.Proofs.AE
def Deed.raw (d : Deed) : Raw := ⟨d.kind, d.key, d.field, d.n, d.text⟩
theorem Deed.Ok.raw {d : Deed} (h : d.Ok) : d.raw.Ok := ⟨h.kind, h.key, h.field, h.n⟩
structure Inv (k : Nat) (m : Mach) : Prop where
  ok : OkM m
  next : m.next ≤ 1 + (k : Int)
  seq : ∀ x ∈ m.clis, x.seq ≤ (k : Int)
theorem Inv.mono {k j : Nat} {m : Mach} (h : Inv k m) (hk : k ≤ j) : Inv j m := ⟨h.ok, by have := h.next; omega, fun x hx => by have := h.seq x hx; omega⟩
instance : DecidableEq Cli := fun a b => decidable_of_iff (a.id = b.id ∧ a.seq = b.seq ∧ a.time = b.time ∧ a.reply.code = b.reply.code ∧ a.reply.text = b.reply.text ∧ a.reply.n = b.reply.n ∧ a.reply.list = b.reply.list) (by
  obtain ⟨a1, a2, a3, ⟨a4, a5, a6, a7⟩⟩ := a; obtain ⟨b1, b2, b3, ⟨b4, b5, b6, b7⟩⟩ := b; simp)
end Go.Proofs.YtkkleopmambcnaaGreatDoor
set_option linter.unusedVariables false
set_option linter.unusedSimpArgs false
set_option maxRecDepth 100000
set_option maxHeartbeats 8000000
namespace Go.Proofs.YtkkleopmambcnaaGreatDoor
open Go Go.RowKit Go.Proofs.AE
variable {G : Nat → AV}
def Deed.c (d : Deed) : List C := [iC d.client, iC d.off, iC d.wait, iC d.kind, iC d.key, iC d.field, iC d.n, sC d.text]
instance : DecidableEq Mach := fun a b => decidable_of_iff (a.sto = b.sto ∧ a.next = b.next ∧ a.clis = b.clis) (by obtain ⟨a1, a2, a3⟩ := a; obtain ⟨b1, b2, b3⟩ := b; simp)
theorem Inv.dom {k : Nat} {m : Mach} (h : Inv k m) : m.sto.Small ∧ m.clis.length ≤ 1000000 ∧ m.clis.length ≤ 1000 ∧ ∀ x ∈ m.clis, 0 ≤ x.seq ∧ x.seq ≤ 1048576 :=
  ⟨h.ok.sto.small, by have := h.ok.len; omega, by have := h.ok.len; omega, fun x hx => (h.ok.all x hx).seq⟩
end Go.Proofs.YtkkleopmambcnaaGreatDoor
set_option linter.unusedVariables false
set_option linter.unusedSimpArgs false
set_option maxRecDepth 100000
set_option maxHeartbeats 8000000
namespace Go.Proofs.YtkkleopmambcnaaGreatDoor
open Go Go.RowKit Go.Proofs.AE
variable {G : Nat → AV}
theorem OkM.dom {m : Mach} (h : OkM m) : m.sto.Small ∧ m.clis.length ≤ 1000000 ∧ ∀ x ∈ m.clis, x.reply.list.length ≤ 1000 := ⟨h.sto.small, by have := h.len; omega, fun x hx => by have := (checkR_iff.1 (h.all x hx).reply).len; omega⟩
end Go.Proofs.YtkkleopmambcnaaGreatDoor
set_option linter.unusedVariables false
set_option linter.unusedSimpArgs false
set_option maxRecDepth 100000
set_option maxHeartbeats 8000000
namespace Go.Proofs.YtkkleopmambcnaaGreatDoor
open Go Go.RowKit Go.Proofs.AE
variable {G : Nat → AV}
def bR (l : List UInt8) : List (List V) := l.map fun b => [.lit (.int .u8 b.toNat)]
theorem bR_app (a b : List UInt8) : bR (a ++ b) = bR a ++ bR b := by simp [bR]
theorem bR_len (a : List UInt8) : (bR a).length = a.length := by simp [bR]
theorem bR_ul (a : List UInt8) : UL 1 (bR a) := by
  intro r hr
  obtain ⟨b, _, rfl⟩ := List.mem_map.1 hr
  rfl
theorem bR_str (s : ByteArray) : AE.strRows s = bR s.data.toList := rfl
theorem bR_bytes : ∀ l : List UInt8, bytesOf (bR l) = some l
  | [] => rfl
  | b :: l => by
    have := bR_bytes l
    unfold bR at this ⊢
    simp only [List.map_cons, bytesOf, AE.byteOf, this]
    simp
def byteAt' (u s : Nat) : UInt8 := UInt8.ofNat (u / 2 ^ s)
def numU (n : Int) : Nat := (n + 4611686018427387904).toNat
def numB (n : Int) : List UInt8 := [byteAt' (numU n) 56, byteAt' (numU n) 48, byteAt' (numU n) 40, byteAt' (numU n) 32, byteAt' (numU n) 24, byteAt' (numU n) 16, byteAt' (numU n) 8, byteAt' (numU n) 0]
def smallB (n : Int) : UInt8 := UInt8.ofNat (n % 256).toNat
def textB (s : ByteArray) : List UInt8 := smallB s.size :: s.data.toList
theorem wrap_u8 (n : Int) : IntKind.u8.wrap n = ((smallB n).toNat : Int) := by
  unfold smallB
  have h1 := Int.emod_nonneg n (b := 256) (by omega)
  have h2 := Int.emod_lt_of_pos n (b := 256) (by omega)
  rw [UInt8.toNat_ofNat']
  have h3 : IntKind.u8.wrap n = n % 256 := by
    simp [IntKind.wrap, IntKind.bits, IntKind.signed]
  rw [h3]
  omega
theorem byte_row (u s : Nat) : IntKind.u8.wrap ((u : Int).fdiv (2 ^ s)) = ((byteAt' u s).toNat : Int) := by
  rw [wrap_u8]
  unfold smallB byteAt'
  have h : ((u : Int).fdiv (2 ^ s)) = ((u / 2 ^ s : Nat) : Int) := by
    rw [Int.fdiv_eq_ediv_of_nonneg _ (by exact_mod_cast Nat.zero_le _)]
    push_cast
    rfl
  rw [h]
  congr 1
  have h2 : (((u / 2 ^ s : Nat) : Int) % 256).toNat = (u / 2 ^ s) % 256 := by omega
  rw [h2]
  rw [UInt8.toNat_ofNat', UInt8.toNat_ofNat']
  omega
def inNum (n : Int) : Prop := -4611686018427387904 ≤ n ∧ n < 4611686018427387904
theorem numU_conv {n : Int} (h : inNum n) : IntKind.u64.wrap (IntKind.i64.wrap (n + 4611686018427387904)) = (numU n : Int) := by
  unfold inNum at h
  rw [IntWalk.i64_in _ (by omega)]
  unfold numU
  simp [IntKind.wrap, IntKind.bits, IntKind.signed]
  omega
abbrev wHp (l : List UInt8) : Hp := [some (.box 276 [.ar 1]), some (.arr 5 1 (bR l))]
theorem wsmall_c (l : List UInt8) (n : Int) (hl : l.length ≤ 1000000) : DetCall Tryz.prog G 190 1 (wHp l) [.one (.ptr 0 0), iV n] (.tup []) (wHp (l ++ [smallB n])) := by
  refine gcallc mixed Tryz.func190 ac_wire_writer_small ?_
  have h1 := bR_len l
  have h2 := bR_ul l
  have h3 := bR_app l [smallB n]
  have h4 : bR [smallB n] = [[.lit (.int .u8 ((smallB n).toNat : Int))]] := rfl
  unfold wHp
  rw [h3, h4]
  have h5 := wrap_u8 n
  repeat' (first | (with_reducible first | refine Cn (fun h => ?_) fun h => ?_ | refine And.intro ?_ ?_ | refine wR ?_ | exact wr _ _ | refine wa ?_ | apply awp_join) | (with_reducible refine CallZ.z ?_) | simp -dsimp [go_sem, h1, h2, h5])
  all_goals first | omega | (simp [UL]; done)
theorem wnumber_c (l : List UInt8) (n : Int) (hl : l.length ≤ 1000000) (hn : inNum n) : DetCall Tryz.prog G 189 1 (wHp l) [.one (.ptr 0 0), iV n] (.tup []) (wHp (l ++ numB n)) := by
  refine gcallc mixed Tryz.func189 ac_wire_writer_number ?_
  have hu := numU_conv hn
  unfold wHp
  repeat' (first | (with_reducible first | refine Cn (fun h => ?_) fun h => ?_ | refine And.intro ?_ ?_ | refine wR ?_ | exact wr _ _ | refine wa ?_ | apply awp_join) | (with_reducible refine CallZ.z ?_) | simp -dsimp [go_sem, hu])
  refine awp_loop (fun j : Nat => ⟨[(0, .one (.ptr 0 0)), (4, .one (.v (.lit (.int .u64 (numU n))))), (5, iV (56 - 8 * j))], G, wHp (l ++ (numB n).take j)⟩) (fun j => j ≤ 8) (fun j => 8 - j) 0 (weak_auto ?_) (Nat.zero_le _) ?_
  · unfold wHp
    simp -dsimp [go_sem]
  · intro j hj
    have h1 := bR_len (l ++ (numB n).take j)
    have h2 := bR_ul (l ++ (numB n).take j)
    have hlen : (l ++ (numB n).take j).length ≤ 1000008 := by simp; omega
    unfold wHp
    simp -dsimp [go_sem]
    refine Cnd.intro (fun h => ?_) (fun h => ?_)
    · have hlt : j < 8 := by simp at h; omega
      have e1 : IntKind.i64.wrap (56 - 8 * (j : Int) - 8) = 56 - 8 * ((j + 1 : Nat) : Int) := by rw [IntWalk.i64_in _ (by omega)]; omega
      have e2 : IntKind.u8.wrap ((numU n : Int).fdiv (2 ^ min (56 - 8 * (j : Int)).toNat 64)) = ((byteAt' (numU n) (56 - 8 * j)).toNat : Int) := by
        rw [show min (56 - 8 * (j : Int)).toNat 64 = 56 - 8 * j by omega]; exact byte_row _ _
      have e3 : bR (l ++ (numB n).take (j + 1)) = bR (l ++ (numB n).take j) ++ [[.lit (.int .u8 ((byteAt' (numU n) (56 - 8 * j)).toNat : Int))]] := by
        have : (numB n).take (j + 1) = (numB n).take j ++ [byteAt' (numU n) (56 - 8 * j)] := by
          have hc : j = 0 ∨ j = 1 ∨ j = 2 ∨ j = 3 ∨ j = 4 ∨ j = 5 ∨ j = 6 ∨ j = 7 := by omega
          rcases hc with rfl | rfl | rfl | rfl | rfl | rfl | rfl | rfl <;> rfl
        rw [this, ← List.append_assoc, bR_app]; rfl
      repeat' (first | (with_reducible first | refine Cn (fun h => ?_) fun h => ?_ | refine And.intro ?_ ?_ | refine wR ?_ | exact wr _ _ | refine wa ?_ | apply awp_join) | (with_reducible refine CallZ.z ?_) | simp -dsimp [go_sem, h1, h2, e1, e2])
      all_goals first | omega | (with_reducible refine Again.auto (j + 1) ?_ ?_ ?_) | (simp [UL]; done) | skip
      · simp -dsimp [go_sem, e3]
      · exact hlt
      · show 8 - (j + 1) < 8 - j
        omega
    · have hj8 : j = 8 := by simp at h; omega
      subst hj8
      have e3 : (numB n).take 8 = numB n := rfl
      rw [e3]
      simp -dsimp [go_sem]
theorem wtext_c (l : List UInt8) (t : ByteArray) (hl : l.length ≤ 900000) (ht : t.size ≤ 1000) : DetCall Tryz.prog G 191 1 (wHp l) [.one (.ptr 0 0), sV t] (.tup []) (wHp (l ++ textB t)) := by
  refine gcallc mixed Tryz.func191 ac_wire_writer_text ?_
  have h1 := bR_len (l ++ [smallB t.size])
  have h2 := bR_ul (l ++ [smallB t.size])
  have h3 : bR (l ++ textB t) = bR (l ++ [smallB t.size]) ++ bR t.data.toList := by rw [← bR_app]; simp [textB]
  have h4 := bR_ul t.data.toList
  have h5 := bR_len t.data.toList
  have h6 : t.data.toList.length = t.size := by rw [Array.length_toList]; rfl
  have h7 : (l ++ [smallB t.size]).length ≤ 900001 := by simp; omega
  unfold wHp
  rw [h3]
  repeat' (first | (with_reducible first | refine Cn (fun h => ?_) fun h => ?_ | refine And.intro ?_ ?_ | refine wR ?_ | exact wr _ _ | refine wa ?_ | apply awp_join | refine qg (wsmall_c l _ (by omega)) ?_ | refine qgd (wsmall_c l _ (by omega)) ?_) | (with_reducible refine CallZ.z ?_) | simp -dsimp [go_sem, h1, h2, h4, h5, bR_str])
  all_goals omega
theorem textB_len (t : ByteArray) : (textB t).length = t.size + 1 := by unfold textB; rw [List.length_cons, Array.length_toList]; rfl
theorem numB_len (n : Int) : (numB n).length = 8 := rfl
end Go.Proofs.YtkkleopmambcnaaGreatDoor
set_option linter.unusedVariables false
set_option linter.unusedSimpArgs false
set_option maxRecDepth 100000
set_option maxHeartbeats 8000000
namespace Go.Proofs.YtkkleopmambcnaaGreatDoor
open Go Go.RowKit Go.Proofs.AE
structure Rd where
  rest : List UInt8
  short : Bool
def takeR (r : Rd) (n : Nat) : List UInt8 × Rd := if r.short = true ∨ r.rest.length < n then ([], ⟨r.rest, true⟩) else (r.rest.take n, ⟨r.rest.drop n, false⟩)
def uOf (l : List UInt8) : Nat := l.foldl (fun u c => (u * 256 + c.toNat) % 18446744073709551616) 0
def numOf (l : List UInt8) : Int := IntKind.i64.wrap ((uOf l : Int) - 4611686018427387904)
def numR (r : Rd) : Int × Rd := (numOf (takeR r 8).1, (takeR r 8).2)
def smallR (r : Rd) : Nat × Rd := ((match (takeR r 1).1 with | c :: _ => c.toNat | [] => 0), (takeR r 1).2)
def txtR (r : Rd) : ByteArray × Rd := (⟨(takeR (smallR r).2 (smallR r).1).1.toArray⟩, (takeR (smallR r).2 (smallR r).1).2)
theorem takeR_app (b rest : List UInt8) {n : Nat} (h : b.length = n) : takeR ⟨b ++ rest, false⟩ n = (b, ⟨rest, false⟩) := by
  subst h
  unfold takeR
  rw [if_neg (by simp), List.take_left' rfl, List.drop_left' rfl]
theorem uOf_numB {n : Int} (h : inNum n) : uOf (numB n) = numU n := by
  have hu : numU n < 18446744073709551616 := by unfold inNum at h; unfold numU; omega
  unfold uOf numB byteAt'
  generalize numU n = u at hu
  simp only [List.foldl_cons, List.foldl_nil, UInt8.toNat_ofNat']
  omega
theorem numOf_numB {n : Int} (h : inNum n) : numOf (numB n) = n := by
  unfold numOf
  rw [uOf_numB h]
  unfold inNum at h
  unfold numU
  rw [IntWalk.i64_in _ (by omega)]
  omega
theorem numR_app {n : Int} (h : inNum n) (rest : List UInt8) : numR ⟨numB n ++ rest, false⟩ = (n, ⟨rest, false⟩) := by
  unfold numR
  rw [takeR_app (numB n) rest (n := 8) rfl, numOf_numB h]
theorem smallR_app (c : UInt8) (rest : List UInt8) : smallR ⟨c :: rest, false⟩ = (c.toNat, ⟨rest, false⟩) := by
  have := takeR_app [c] rest (n := 1) rfl
  unfold smallR
  rw [show c :: rest = [c] ++ rest from rfl, this]
theorem smallB_toNat {n : Int} (h : 0 ≤ n) (h2 : n < 256) : (smallB n).toNat = n.toNat := by
  unfold smallB
  rw [UInt8.toNat_ofNat']; omega
theorem txtR_app {t : ByteArray} (h : t.size ≤ 255) (rest : List UInt8) : txtR ⟨textB t ++ rest, false⟩ = (t, ⟨rest, false⟩) := by
  have h1 : smallR ⟨textB t ++ rest, false⟩ = (t.size, ⟨t.data.toList ++ rest, false⟩) := by
    unfold textB
    rw [List.cons_append, smallR_app, smallB_toNat (by omega) (by omega)]
    simp
  unfold txtR
  rw [h1, takeR_app _ _ (by rw [Array.length_toList]; rfl)]
theorem uOf_lt (l : List UInt8) : uOf l < 18446744073709551616 := by
  unfold uOf
  rcases l.eq_nil_or_concat with rfl | ⟨a, b, rfl⟩
  · simp
  · rw [List.concat_eq_append, List.foldl_append]
    simp only [List.foldl_cons, List.foldl_nil]
    omega
theorem uOf_snoc (l : List UInt8) (c : UInt8) : uOf (l ++ [c]) = (uOf l * 256 + c.toNat) % 18446744073709551616 := by
  unfold uOf
  rw [List.foldl_append]
  rfl
theorem takeR_len (r : Rd) (n : Nat) : (takeR r n).1.length ≤ n := by
  unfold takeR
  split
  · simp
  · simp; omega
theorem takeR_short (l : List UInt8) (n : Nat) : (takeR ⟨l, true⟩ n).2.short = true := by simp [takeR]
theorem takeR_ext {l1 : List UInt8} (l2 : List UInt8) {n : Nat} (h : (takeR ⟨l1, false⟩ n).2.short = false) : takeR ⟨l1 ++ l2, false⟩ n = ((takeR ⟨l1, false⟩ n).1, ⟨(takeR ⟨l1, false⟩ n).2.rest ++ l2, false⟩) := by
  unfold takeR at h ⊢
  split at h
  · cases h
  · rename_i h1
    have h2 : ¬ l1.length < n := by simpa using h1
    rw [if_neg (by simp; omega), if_neg h1]
    simp only
    rw [List.take_append_of_le_length (by omega), List.drop_append_of_le_length (by omega)]
structure Reads {α : Type} (f : Rd → α × Rd) : Prop where
  stuck : ∀ l, (f ⟨l, true⟩).2.short = true
  ext : ∀ l1 l2, (f ⟨l1, false⟩).2.short = false → f ⟨l1 ++ l2, false⟩ = ((f ⟨l1, false⟩).1, ⟨(f ⟨l1, false⟩).2.rest ++ l2, false⟩)
theorem Reads.take (n : Nat) : Reads (fun r => takeR r n) := ⟨fun l => takeR_short l n, fun l1 l2 h => takeR_ext l2 h⟩
theorem Reads.map {α β : Type} {f : Rd → α × Rd} (h : Reads f) (g : α → β) : Reads (fun r => (g (f r).1, (f r).2)) :=
  ⟨fun l => h.stuck l, fun l1 l2 hs => by
    have := h.ext l1 l2 hs
    simp only [this]⟩
theorem Reads.bind {α β γ : Type} {f : Rd → α × Rd} {g : α → Rd → β × Rd} (c : α → β → γ) (h : Reads f) (hg : ∀ a, Reads (g a)) : Reads (fun r => (c (f r).1 (g (f r).1 (f r).2).1, (g (f r).1 (f r).2).2)) := by
  refine ⟨fun l => ?_, fun l1 l2 hs => ?_⟩
  · have h1 := h.stuck l
    generalize f ⟨l, true⟩ = p at *
    obtain ⟨a, r, s⟩ := p
    simp only at h1 ⊢
    subst h1
    exact (hg a).stuck r
  · simp only at hs ⊢
    have h1 : (f ⟨l1, false⟩).2.short = false := by
      cases hq : (f ⟨l1, false⟩).2.short with
      | false => rfl
      | true =>
        generalize f ⟨l1, false⟩ = p at *
        obtain ⟨a, r, s⟩ := p
        simp only at hq hs
        subst hq
        rw [(hg a).stuck r] at hs; cases hs
    rw [h.ext l1 l2 h1]
    generalize f ⟨l1, false⟩ = p at *
    obtain ⟨a, r, s⟩ := p
    simp only at h1 hs ⊢
    subst h1
    rw [(hg a).ext r l2 hs]
theorem reads_num : Reads numR := (Reads.take 8).map numOf
theorem reads_small : Reads smallR := (Reads.take 1).map fun l => match l with | c :: _ => c.toNat | [] => 0
theorem reads_text : Reads txtR := Reads.bind (f := smallR) (g := fun n r => takeR r n) (fun _ b => (⟨b.toArray⟩ : ByteArray)) reads_small fun n => Reads.take n
theorem numB_numOf {b : List UInt8} (hb : b.length = 8) (h : inNum (numOf b)) : numB (numOf b) = b := by
  have hu := uOf_lt b
  have e : ((uOf b : Nat) : Int) - 4611686018427387904 = numOf b := by
    unfold numOf at h ⊢
    unfold inNum at h
    have hw : IntKind.i64.wrap ((uOf b : Int) - 4611686018427387904) = (uOf b : Int) - 4611686018427387904 ∨ IntKind.i64.wrap ((uOf b : Int) - 4611686018427387904) = (uOf b : Int) - 4611686018427387904 - 18446744073709551616 := by
      by_cases hlt : (uOf b : Int) - 4611686018427387904 ≤ 9223372036854775807
      · left; exact IntWalk.i64_in _ (by omega)
      · right
        simp [IntKind.wrap, IntKind.bits, IntKind.signed]
        omega
    omega
  have hn : numU (numOf b) = uOf b := by unfold numU; omega
  unfold numB
  rw [hn]
  match b, hb with
  | [b7, b6, b5, b4, b3, b2, b1, b0], _ =>
    have l7 := b7.toNat_lt; have l6 := b6.toNat_lt; have l5 := b5.toNat_lt; have l4 := b4.toNat_lt
    have l3 := b3.toNat_lt; have l2 := b2.toNat_lt; have l1 := b1.toNat_lt; have l0 := b0.toNat_lt
    have hU : uOf [b7, b6, b5, b4, b3, b2, b1, b0] = ((((((b7.toNat * 256 + b6.toNat) * 256 + b5.toNat) * 256 + b4.toNat) * 256 + b3.toNat) * 256 + b2.toNat) * 256 + b1.toNat) * 256 + b0.toNat := by
      simp only [uOf, List.foldl_cons, List.foldl_nil]
      omega
    rw [hU]
    have key : ∀ (u s : Nat) (c : UInt8), u / 2 ^ s % 256 = c.toNat → byteAt' u s = c := by
      intro u s c h
      apply UInt8.toNat_inj.1
      unfold byteAt'
      rw [UInt8.toNat_ofNat']; omega
    rw [key _ 56 b7 (by omega), key _ 48 b6 (by omega), key _ 40 b5 (by omega), key _ 32 b4 (by omega), key _ 24 b3 (by omega), key _ 16 b2 (by omega), key _ 8 b1 (by omega), key _ 0 b0 (by omega)]
theorem take_eats {l : List UInt8} {n : Nat} (h : (takeR ⟨l, false⟩ n).2.short = false) : (takeR ⟨l, false⟩ n).1.length = n ∧ l = (takeR ⟨l, false⟩ n).1 ++ (takeR ⟨l, false⟩ n).2.rest := by
  unfold takeR at h ⊢
  split at h
  · cases h
  · rename_i h1
    rw [if_neg h1]
    have h2 : ¬ l.length < n := by simpa using h1
    exact ⟨by simp; omega, (List.take_append_drop n l).symm⟩
theorem num_eats {l : List UInt8} (h : (numR ⟨l, false⟩).2.short = false) (hn : inNum (numR ⟨l, false⟩).1) : l = numB (numR ⟨l, false⟩).1 ++ (numR ⟨l, false⟩).2.rest := by
  unfold numR at h hn ⊢
  obtain ⟨h1, h2⟩ := take_eats h
  rw [numB_numOf h1 hn]
  exact h2
theorem small_eats {l : List UInt8} (h : (smallR ⟨l, false⟩).2.short = false) : l = smallB (smallR ⟨l, false⟩).1 :: (smallR ⟨l, false⟩).2.rest ∧ (smallR ⟨l, false⟩).1 < 256 := by
  unfold smallR at h ⊢
  obtain ⟨h1, h2⟩ := take_eats h
  generalize takeR ⟨l, false⟩ 1 = p at *
  obtain ⟨b, r⟩ := p
  simp only at h1 h2 ⊢
  match b, h1 with
  | [c], _ =>
    have := c.toNat_lt
    simp only
    refine ⟨?_, this⟩
    have hc : smallB (c.toNat : Int) = c := by
      apply UInt8.toNat_inj.1
      rw [smallB_toNat (by omega) (by omega)]
      simp
    rw [hc]; exact h2
theorem text_eats {l : List UInt8} (h : (txtR ⟨l, false⟩).2.short = false) : l = textB (txtR ⟨l, false⟩).1 ++ (txtR ⟨l, false⟩).2.rest := by
  unfold txtR at h ⊢
  have hs : (smallR ⟨l, false⟩).2.short = false := by
    cases hq : (smallR ⟨l, false⟩).2.short with
    | false => rfl
    | true =>
      generalize smallR ⟨l, false⟩ = p at *
      obtain ⟨a, r, s⟩ := p
      simp only at hq h
      subst hq
      rw [takeR_short] at h; cases h
  obtain ⟨h1, h2⟩ := small_eats hs
  generalize smallR ⟨l, false⟩ = p at *
  obtain ⟨n, r, s⟩ := p
  simp only at hs h h1 h2 ⊢
  subst hs
  obtain ⟨h3, h4⟩ := take_eats h
  unfold textB
  have h5 : ((⟨(takeR ⟨r, false⟩ n).1.toArray⟩ : ByteArray).size : Int) = n := by
    show (((takeR ⟨r, false⟩ n).1.toArray.size : Nat) : Int) = n
    simp [h3]
  rw [h5, h1]
  simp only [List.cons_append]
  congr 1
theorem num_eats' {r : Rd} (h : (numR r).2.short = false) (hn : inNum (numR r).1) : r.short = false ∧ r.rest = numB (numR r).1 ++ (numR r).2.rest := by
  obtain ⟨l, s⟩ := r
  cases s with
  | true => rw [reads_num.stuck l] at h; cases h
  | false => exact ⟨rfl, num_eats h hn⟩
theorem small_eats' {r : Rd} (h : (smallR r).2.short = false) : r.short = false ∧ r.rest = smallB (smallR r).1 :: (smallR r).2.rest ∧ (smallR r).1 < 256 := by
  obtain ⟨l, s⟩ := r
  cases s with
  | true => rw [reads_small.stuck l] at h; cases h
  | false => exact ⟨rfl, small_eats h⟩
theorem text_eats' {r : Rd} (h : (txtR r).2.short = false) : r.short = false ∧ r.rest = textB (txtR r).1 ++ (txtR r).2.rest := by
  obtain ⟨l, s⟩ := r
  cases s with
  | true => rw [reads_text.stuck l] at h; cases h
  | false => exact ⟨rfl, text_eats h⟩
end Go.Proofs.YtkkleopmambcnaaGreatDoor
set_option linter.unusedVariables false
set_option linter.unusedSimpArgs false
set_option maxRecDepth 100000
set_option maxHeartbeats 8000000
namespace Go.Proofs.YtkkleopmambcnaaGreatDoor
open Go Go.RowKit Go.Proofs.AE
structure Codec {α : Type} (f : Rd → α × Rd) (g : α → List UInt8) (ok : α → Prop) : Prop where
  back : ∀ a rest, ok a → f ⟨g a ++ rest, false⟩ = (a, ⟨rest, false⟩)
  reads : Reads f
  eats : ∀ r, (f r).2.short = false → ok (f r).1 → r.short = false ∧ r.rest = g (f r).1 ++ (f r).2.rest
theorem Codec.num : Codec numR numB inNum := ⟨fun n rest h => numR_app h rest, reads_num, fun r h hn => num_eats' h hn⟩
theorem Codec.text : Codec txtR textB (fun t => t.size ≤ 255) := ⟨fun t rest h => txtR_app h rest, reads_text, fun r h _ => text_eats' h⟩
def smR (r : Rd) : Int × Rd := ((smallR r).1, (smallR r).2)
theorem Codec.small : Codec smR (fun n => [smallB n]) (fun n => 0 ≤ n ∧ n < 256) := by
  refine ⟨fun n rest h => ?_, reads_small.map fun n : Nat => (n : Int), fun r h hn => ?_⟩
  · have := smallR_app (smallB n) rest
    unfold smR
    rw [show [smallB n] ++ rest = smallB n :: rest from rfl, this, smallB_toNat h.1 h.2]
    simp only [Prod.mk.injEq, and_true]
    omega
  · obtain ⟨h1, h2, _⟩ := small_eats' (r := r) h
    exact ⟨h1, h2⟩
theorem Codec.seq {α β : Type} {f : Rd → α × Rd} {g : α → List UInt8} {ok : α → Prop} {f' : Rd → β × Rd} {g' : β → List UInt8} {ok' : β → Prop} (A : Codec f g ok) (B : Codec f' g' ok') :
    Codec (fun r => (((f r).1, (f' (f r).2).1), (f' (f r).2).2)) (fun p => g p.1 ++ g' p.2) (fun p => ok p.1 ∧ ok' p.2) := by
  refine ⟨fun p rest h => ?_, Reads.bind (g := fun _ => f') Prod.mk A.reads fun _ => B.reads, fun r h ho => ?_⟩
  · simp only [List.append_assoc, A.back p.1 _ h.1, B.back p.2 _ h.2]
  · simp only at h ho ⊢
    obtain ⟨h1, h2⟩ := B.eats (f r).2 h ho.2
    obtain ⟨h3, h4⟩ := A.eats r h1 ho.1
    exact ⟨h3, by rw [h4, h2, List.append_assoc]⟩
theorem Codec.iso {α β : Type} {f : Rd → α × Rd} {g : α → List UInt8} {ok : α → Prop} (A : Codec f g ok) (to : α → β) (of : β → α) (h1 : ∀ b, to (of b) = b) (h2 : ∀ a, of (to a) = a) :
    Codec (fun r => (to (f r).1, (f r).2)) (fun b => g (of b)) (fun b => ok (of b)) := by
  refine ⟨fun b rest h => ?_, A.reads.map to, fun r h ho => ?_⟩
  · simp only [A.back (of b) rest h, h1]
  · simp only [h2] at h ho ⊢
    exact A.eats r h ho
def eachN {α : Type} (f : Rd → α × Rd) : Nat → Rd → List α × Rd
  | 0, r => ([], r)
  | n + 1, r => if r.short = true then ([], r) else ((f r).1 :: (eachN f n (f r).2).1, (eachN f n (f r).2).2)
def eachR {α : Type} (f : Rd → α × Rd) (r : Rd) : List α × Rd := eachN f (smallR r).1 (smallR r).2
def manyB {α : Type} (g : α → List UInt8) (l : List α) : List UInt8 := smallB l.length :: l.flatMap g
theorem eachN_back {α : Type} {f : Rd → α × Rd} {g : α → List UInt8} {ok : α → Prop} (A : Codec f g ok) : ∀ (l : List α) (rest : List UInt8), (∀ a ∈ l, ok a) → eachN f l.length ⟨l.flatMap g ++ rest, false⟩ = (l, ⟨rest, false⟩)
  | [], rest, _ => rfl
  | a :: l, rest, h => by
    have ih := eachN_back A l rest fun b hb => h b (List.mem_cons_of_mem _ hb)
    have ha := A.back a (l.flatMap g ++ rest) (h a (List.mem_cons_self ..))
    simp only [List.length_cons, eachN, List.flatMap_cons, List.append_assoc, Bool.false_eq_true, if_false, ha, ih]
theorem eachN_stuck {α : Type} {f : Rd → α × Rd} : ∀ (n : Nat) (l : List UInt8), (eachN f n ⟨l, true⟩).2.short = true
  | 0, _ => rfl
  | n + 1, l => by simp [eachN]
theorem eachN_reads {α : Type} {f : Rd → α × Rd} (A : Reads f) : ∀ n, Reads (eachN f n)
  | 0 => ⟨fun l => rfl, fun l1 l2 _ => rfl⟩
  | n + 1 => by
    have ih := eachN_reads A n
    have hb := Reads.bind (f := f) (g := fun _ => eachN f n) (fun a l => a :: l) A fun _ => ih
    refine ⟨fun l => eachN_stuck (n + 1) l, fun l1 l2 h => ?_⟩
    simp only [eachN, Bool.false_eq_true, if_false] at h ⊢
    exact hb.ext l1 l2 h
theorem eachN_eats {α : Type} {f : Rd → α × Rd} {g : α → List UInt8} {ok : α → Prop} (A : Codec f g ok) : ∀ (n : Nat) (r : Rd), (eachN f n r).2.short = false → (∀ a ∈ (eachN f n r).1, ok a) → r.short = false ∧ (eachN f n r).1.length = n ∧ r.rest = (eachN f n r).1.flatMap g ++ (eachN f n r).2.rest
  | 0, r, h, _ => ⟨h, rfl, rfl⟩
  | n + 1, r, h, ho => by
    unfold eachN at h ho ⊢
    by_cases hs : r.short = true
    · rw [if_pos hs] at h; rw [hs] at h; cases h
    · rw [if_neg hs] at h ho ⊢
      simp only [List.mem_cons] at h ho ⊢
      obtain ⟨i1, i2, i3⟩ := eachN_eats A n (f r).2 h fun a ha => ho a (.inr ha)
      obtain ⟨j1, j2⟩ := A.eats r i1 (ho _ (.inl rfl))
      exact ⟨j1, by simp [i2], by rw [j2, i3]; simp⟩
theorem Codec.many {α : Type} {f : Rd → α × Rd} {g : α → List UInt8} {ok : α → Prop} (A : Codec f g ok) : Codec (eachR f) (manyB g) (fun l => l.length ≤ 255 ∧ ∀ a ∈ l, ok a) := by
  refine ⟨fun l rest h => ?_, ?_, fun r h ho => ?_⟩
  · unfold eachR manyB
    rw [List.cons_append, smallR_app, smallB_toNat (by omega) (by omega)]
    simp only [Int.toNat_natCast]
    exact eachN_back A l rest h.2
  · exact Reads.bind (f := smallR) (g := fun n => eachN f n) (fun _ l => l) reads_small fun n => eachN_reads A.reads n
  · unfold eachR at h ho ⊢
    obtain ⟨h1, h2, h3⟩ := eachN_eats A _ _ h ho.2
    obtain ⟨h4, h5, _⟩ := small_eats' (r := r) h1
    refine ⟨h4, ?_⟩
    unfold manyB
    rw [h5, h3, h2]
    rfl
def prR (r : Rd) : Pr × Rd := (((txtR r).1, (txtR (txtR r).2).1), (txtR (txtR r).2).2)
def prB (p : Pr) : List UInt8 := textB p.1 ++ textB p.2
theorem Codec.pr : Codec prR prB (fun p => p.1.size ≤ 255 ∧ p.2.size ≤ 255) := Codec.seq Codec.text Codec.text
def scR (r : Rd) : Sc × Rd := (((txtR r).1, (numR (txtR r).2).1), (numR (txtR r).2).2)
def scB (s : Sc) : List UInt8 := textB s.1 ++ numB s.2
theorem Codec.sc : Codec scR scB (fun s => s.1.size ≤ 255 ∧ inNum s.2) := Codec.seq Codec.text Codec.num
abbrev ValT : Type := Int × ByteArray × Int × List Pr × List ByteArray × List Sc
def valT (v : Val) : ValT := (v.kind, v.text, v.count, v.pairs, v.items, v.scores)
def tVal (p : ValT) : Val := ⟨p.1, p.2.1, p.2.2.1, p.2.2.2.1, p.2.2.2.2.1, p.2.2.2.2.2⟩
def sqR {α β : Type} (f : Rd → α × Rd) (g : Rd → β × Rd) (r : Rd) : (α × β) × Rd := (((f r).1, (g (f r).2).1), (g (f r).2).2)
def mapR {α β : Type} (t : α → β) (f : Rd → α × Rd) (r : Rd) : β × Rd := (t (f r).1, (f r).2)
def valR : Rd → Val × Rd := mapR tVal (sqR smR (sqR txtR (sqR numR (sqR (eachR prR) (sqR (eachR txtR) (eachR scR))))))
def valB (v : Val) : List UInt8 := [smallB v.kind] ++ (textB v.text ++ (numB v.count ++ (manyB prB v.pairs ++ (manyB textB v.items ++ manyB scB v.scores))))
structure SizV (v : Val) : Prop where
  kind : 0 ≤ v.kind ∧ v.kind < 256
  text : v.text.size ≤ 255
  count : inNum v.count
  pairs : v.pairs.length ≤ 255 ∧ ∀ p ∈ v.pairs, p.1.size ≤ 255 ∧ p.2.size ≤ 255
  items : v.items.length ≤ 255 ∧ ∀ t ∈ v.items, t.size ≤ 255
  scores : v.scores.length ≤ 255 ∧ ∀ s ∈ v.scores, s.1.size ≤ 255 ∧ inNum s.2
theorem Codec.ok {α : Type} {f : Rd → α × Rd} {g : α → List UInt8} {ok ok' : α → Prop} (A : Codec f g ok) (h : ∀ a, ok' a → ok a) : Codec f g ok' := ⟨fun a rest ha => A.back a rest (h a ha), A.reads, fun r hs ha => A.eats r hs (h _ ha)⟩
theorem Codec.val : Codec valR valB SizV :=
  ((Codec.small.seq (Codec.text.seq (Codec.num.seq (Codec.pr.many.seq (Codec.text.many.seq Codec.sc.many))))).iso tVal valT (fun v => rfl) (fun p => rfl)).ok
    fun v h => ⟨h.kind, h.text, h.count, h.pairs, h.items, h.scores⟩
abbrev EntT : Type := ByteArray × Val × Int
def tEnt (p : EntT) : Ent := ⟨p.1, p.2.1, p.2.2⟩
def entR : Rd → Ent × Rd := mapR tEnt (sqR txtR (sqR valR numR))
def entB (e : Ent) : List UInt8 := textB e.key ++ (valB e.val ++ numB e.till)
structure SizE (e : Ent) : Prop where
  key : e.key.size ≤ 255
  val : SizV e.val
  till : inNum e.till
theorem Codec.ent : Codec entR entB SizE :=
  ((Codec.text.seq (Codec.val.seq Codec.num)).iso tEnt (fun e => (e.key, e.val, e.till)) (fun e => rfl) (fun p => rfl)).ok fun e h => ⟨h.key, h.val, h.till⟩
abbrev CliT : Type := Int × Int × Int × Int × ByteArray × Int × List ByteArray
def tCli (p : CliT) : Cli := ⟨p.1, p.2.1, p.2.2.1, ⟨p.2.2.2.1, p.2.2.2.2.1, p.2.2.2.2.2.1, p.2.2.2.2.2.2⟩⟩
def cliR : Rd → Cli × Rd := mapR tCli (sqR numR (sqR numR (sqR numR (sqR smR (sqR txtR (sqR numR (eachR txtR)))))))
def cliB (x : Cli) : List UInt8 := numB x.id ++ (numB x.seq ++ (numB x.time ++ ([smallB x.reply.code] ++ (textB x.reply.text ++ (numB x.reply.n ++ manyB textB x.reply.list)))))
structure SizC (x : Cli) : Prop where
  id : inNum x.id
  seq : inNum x.seq
  time : inNum x.time
  code : 0 ≤ x.reply.code ∧ x.reply.code < 256
  text : x.reply.text.size ≤ 255
  n : inNum x.reply.n
  list : x.reply.list.length ≤ 255 ∧ ∀ t ∈ x.reply.list, t.size ≤ 255
theorem Codec.cli : Codec cliR cliB SizC :=
  ((Codec.num.seq (Codec.num.seq (Codec.num.seq (Codec.small.seq (Codec.text.seq (Codec.num.seq Codec.text.many)))))).iso tCli (fun x => (x.id, x.seq, x.time, x.reply.code, x.reply.text, x.reply.n, x.reply.list)) (fun x => rfl) (fun p => rfl)).ok
    fun x h => ⟨h.id, h.seq, h.time, h.code, h.text, h.n, h.list⟩
abbrev MachT : Type := Int × List Ent × Int × List Cli
def tMach (p : MachT) : Mach := ⟨⟨p.1, p.2.1⟩, p.2.2.1, p.2.2.2⟩
def machR : Rd → Mach × Rd := mapR tMach (sqR numR (sqR (eachR entR) (sqR numR (eachR cliR))))
def machB (m : Mach) : List UInt8 := numB m.sto.now ++ (manyB entB m.sto.ents ++ (numB m.next ++ manyB cliB m.clis))
structure SizM (m : Mach) : Prop where
  now : inNum m.sto.now
  ents : m.sto.ents.length ≤ 255 ∧ ∀ e ∈ m.sto.ents, SizE e
  next : inNum m.next
  clis : m.clis.length ≤ 255 ∧ ∀ x ∈ m.clis, SizC x
theorem Codec.mach : Codec machR machB SizM :=
  ((Codec.num.seq (Codec.ent.many.seq (Codec.num.seq Codec.cli.many))).iso tMach (fun m => (m.sto.now, m.sto.ents, m.next, m.clis)) (fun m => rfl) (fun p => rfl)).ok fun m h => ⟨h.now, h.ents, h.next, h.clis⟩
theorem okT_size {t : ByteArray} (h : okText t = true) : t.size ≤ 20 := by unfold okText at h; simp at h; omega
theorem okF_size {t : ByteArray} (h : okField t = true) : t.size ≤ 12 := by unfold okField at h; simp at h; omega
theorem okC_num {n : Int} (h : okCount n = true) : inNum n := by unfold okCount at h; simp at h; unfold inNum; omega
theorem OkV.siz {v : Val} (h : OkV v) : SizV v := by
  have hb := h.b
  have he := hb.els
  unfold Val.els at he
  refine ⟨by have := h.kind; omega, by have := okT_size h.okT; omega, okC_num h.okC, ⟨by omega, fun p hp => ?_⟩, ⟨by omega, fun t ht => ?_⟩, ⟨by omega, fun s hs => ?_⟩⟩
  · have := h.okP p hp; have h1 := okF_size this.1; have h2 := okT_size this.2; omega
  · have := okT_size (h.okI t ht); omega
  · have := h.okS s hs; have h1 := okT_size this.1; exact ⟨by omega, okC_num this.2⟩
theorem OkE.siz {now : Int} (h0 : 0 ≤ now) {e : Ent} (h : OkE now e) : SizE e := by
  refine ⟨by have := okF_size h.key; omega, h.val.siz, ?_⟩
  have := h.till
  unfold inNum; omega
theorem OkC.siz {next now : Int} (hn : next ≤ 1048577) (hw : now ≤ 1073741824) {x : Cli} (h : OkC next now x) : SizC x := by
  have hr := checkR_iff.1 h.reply
  have h1 := h.id; have h2 := h.seq; have h3 := h.time
  refine ⟨by unfold inNum; omega, by unfold inNum; omega, by unfold inNum; omega, by have := hr.code; omega, by have := okT_size hr.text; omega, okC_num hr.n, ⟨by have := hr.len; omega, fun t ht => by have := okT_size (hr.list t ht); omega⟩⟩
theorem OkM.siz {m : Mach} (h : OkM m) : SizM m := by
  have h1 := h.sto.now; have h2 := h.next
  exact ⟨by unfold inNum; omega, ⟨by have := h.sto.len; omega, fun e he => (h.sto.all e he).siz h1.1⟩, by unfold inNum; omega, ⟨by have := h.len; omega, fun x hx => (h.all x hx).siz h2.2 h1.2⟩⟩
def endR (r : Rd) : Int := if r.short = true then 9 else if 0 < r.rest.length then 8 else 0
def decM (l : List UInt8) : Mach × Int :=
  if 20000 < l.length then (zeroM, 1)
  else if endR (machR ⟨l, false⟩).2 ≠ 0 then (zeroM, endR (machR ⟨l, false⟩).2)
  else if checkM (machR ⟨l, false⟩).1 ≠ 0 then (zeroM, checkM (machR ⟨l, false⟩).1)
  else ((machR ⟨l, false⟩).1, 0)
theorem decM_back {m : Mach} (h : OkM m) (hl : (machB m).length ≤ 20000) : decM (machB m) = (m, 0) := by
  have e := Codec.mach.back m [] h.siz
  rw [List.append_nil] at e
  unfold decM
  rw [if_neg (by omega), e]
  simp only [endR]
  rw [if_neg (by simp), if_neg (by rw [checkM_iff.2 h]; simp)]
theorem flat_len {α : Type} {g : α → List UInt8} {b : Nat} : ∀ (l : List α), (∀ a ∈ l, (g a).length ≤ b) → (l.flatMap g).length ≤ l.length * b
  | [], _ => by simp
  | a :: l, h => by
    have ih := flat_len l fun x hx => h x (List.mem_cons_of_mem _ hx)
    have ha := h a (List.mem_cons_self ..)
    rw [List.flatMap_cons, List.length_append, List.length_cons, Nat.add_mul]
    omega
theorem many_len {α : Type} {g : α → List UInt8} {b : Nat} {l : List α} (h : ∀ a ∈ l, (g a).length ≤ b) : (manyB g l).length ≤ 1 + l.length * b := by
  unfold manyB
  rw [List.length_cons]
  have := flat_len l h
  omega
theorem valB_len' {v : Val} (h : OkV v) : (valB v).length ≤ 900 := by
  have hb := h.b
  have he := hb.els
  unfold Val.els at he
  have h1 := okT_size h.okT
  have p := many_len (g := prB) (b := 34) (l := v.pairs) fun p hp => by
    have := h.okP p hp; have a := okF_size this.1; have b := okT_size this.2
    unfold prB; rw [List.length_append, textB_len, textB_len]; omega
  have i := many_len (g := textB) (b := 34) (l := v.items) fun t ht => by have := okT_size (h.okI t ht); rw [textB_len]; omega
  have s := many_len (g := scB) (b := 34) (l := v.scores) fun s hs => by
    have := h.okS s hs; have a := okT_size this.1
    unfold scB; rw [List.length_append, textB_len, numB_len]; omega
  unfold valB
  simp only [List.length_append, textB_len, numB_len, List.length_cons, List.length_nil]
  omega
theorem machB_len {m : Mach} (h : OkM m) : (machB m).length ≤ 13500 := by
  have e := many_len (g := entB) (b := 930) (l := m.sto.ents) fun e he => by
    have ok := h.sto.all e he
    have a := okF_size ok.key; have b := valB_len' ok.val
    unfold entB; simp only [List.length_append, textB_len, numB_len]; omega
  have c := many_len (g := cliB) (b := 500) (l := m.clis) fun x hx => by
    have hr := checkR_iff.1 (h.all x hx).reply
    have a := okT_size hr.text
    have b := many_len (g := textB) (b := 21) (l := x.reply.list) fun t ht => by have := okT_size (hr.list t ht); rw [textB_len]; omega
    have l := hr.len
    unfold cliB; simp only [List.length_append, textB_len, numB_len, List.length_cons, List.length_nil]; omega
  have h1 := h.sto.len
  have h2 := h.len
  unfold machB
  simp only [List.length_append, numB_len]
  omega
theorem machB_pos (m : Mach) : 0 < (machB m).length := by unfold machB; simp [numB_len]; omega
end Go.Proofs.YtkkleopmambcnaaGreatDoor
set_option linter.unusedVariables false
set_option linter.unusedSimpArgs false
set_option maxRecDepth 100000
set_option maxHeartbeats 8000000
namespace Go.Proofs.YtkkleopmambcnaaGreatDoor
open Go Go.RowKit Go.Proofs.AE
variable {G : Nat → AV}
abbrev bC (b : Bool) : C := .v (.lit (.bool b))
def noCall (client seq k : Int) (key field text : ByteArray) (n : Int) : Bool := client == 0 && (seq == 0 && (k == 0 && (decide (key = ⟨#[]⟩) && (decide (field = ⟨#[]⟩) && (decide (text = ⟨#[]⟩) && n == 0)))))
def checkItem (term time : Int) (nop : Bool) (client seq k : Int) (key field text : ByteArray) (n : Int) : Int :=
  if decide (term < 1) then 2 else if decide (1048576 < term) then 2 else if decide (time < 0) then 2 else if decide (1073741824 < time) then 2
  else if nop then (if noCall client seq k key field text n then 0 else 8) else checkCall client seq k key field text n
theorem checkItem_c (term time : Int) (nop : Bool) (client seq k : Int) (key field text : ByteArray) (n : Int) :
    PCall Tryz.prog G 43 [.agg [iC term, iC time, bC nop, iC client, iC seq, iC k, sC key, sC field, sC text, iC n]] (iV (checkItem term time nop client seq k key field text n)) := by
  refine pcallc mixed Tryz.func43 ac_wire_CheckItem ?_
  repeat' (first | (with_reducible first | refine Cn (fun h => ?_) fun h => ?_ | refine And.intro ?_ ?_ | refine wR ?_ | exact wr _ _ | refine wa ?_ | apply awp_join | refine q (checkCall_c _ _ _ _ _ _ _) ?_ | refine qd (checkCall_c _ _ _ _ _ _ _) ?_ | refine qz (checkCall_c _ _ _ _ _ _ _) ?_) | (with_reducible refine CallZ.z ?_) | simp -dsimp [go_sem])
  all_goals simp_all [checkItem, noCall]
  all_goals ((repeat' split) <;> first | rfl | omega | (exfalso; simp_all; done))
end Go.Proofs.YtkkleopmambcnaaGreatDoor
set_option linter.unusedVariables false
set_option linter.unusedSimpArgs false
set_option maxRecDepth 100000
set_option maxHeartbeats 8000000
namespace Go.Proofs.YtkkleopmambcnaaGreatDoor
open Go Go.RowKit Go.Proofs.AE
variable {G : Nat → AV}
end Go.Proofs.YtkkleopmambcnaaGreatDoor
set_option linter.unusedVariables false
set_option linter.unusedSimpArgs false
set_option maxRecDepth 100000
set_option maxHeartbeats 8000000
namespace Go.Proofs.YtkkleopmambcnaaGreatDoor
open Go Go.RowKit Go.Proofs.AE
variable {G : Nat → AV}
structure Item where
  term : Int
  time : Int
  nop : Bool
  client : Int
  seq : Int
  k : Int
  key : ByteArray
  field : ByteArray
  text : ByteArray
  n : Int
def Item.row (x : Item) : List V := [iL x.term, iL x.time, .lit (.bool x.nop), iL x.client, iL x.seq, iL x.k, sL x.key, sL x.field, sL x.text, iL x.n]
def Item.check (x : Item) : Int := checkItem x.term x.time x.nop x.client x.seq x.k x.key x.field x.text x.n
end Go.Proofs.YtkkleopmambcnaaGreatDoor
set_option linter.unusedVariables false
set_option linter.unusedSimpArgs false
set_option maxRecDepth 100000
set_option maxHeartbeats 8000000
namespace Go.Proofs.YtkkleopmambcnaaGreatDoor
open Go Go.RowKit Go.Proofs.AE
variable {G : Nat → AV}
def cmdB (k : Int) (key field text : ByteArray) (n : Int) : List UInt8 := [smallB k] ++ textB key ++ textB field ++ textB text ++ numB n
def callB (client seq k : Int) (key field text : ByteArray) (n : Int) : List UInt8 := numB client ++ (if 0 < client then numB seq ++ cmdB k key field text n else [])
def itemB (x : Item) : List UInt8 := numB x.term ++ numB x.time ++ (if x.nop then [1] else [0] ++ callB x.client x.seq x.k x.key x.field x.text x.n)
theorem wcommand_c (l : List UInt8) (k : Int) (key field text : ByteArray) (n : Int) (hl : l.length ≤ 800000) (h1 : key.size ≤ 1000) (h2 : field.size ≤ 1000) (h3 : text.size ≤ 1000) (hn : inNum n) :
    DetCall Tryz.prog G 243 1 (wHp l) [.one (.ptr 0 0), .agg [iC k, sC key, sC field, sC text, iC n]] (.tup []) (wHp (l ++ cmdB k key field text n)) := by
  refine gcallc mixed Tryz.func243 ac_wire_writer_command ?_
  have hf : l ++ cmdB k key field text n = l ++ [smallB k] ++ textB key ++ textB field ++ textB text ++ numB n := by simp [cmdB]
  rw [hf]
  unfold wHp
  repeat' (first | (with_reducible first | refine Cn (fun h => ?_) fun h => ?_ | refine And.intro ?_ ?_ | refine wR ?_ | exact wr _ _ | refine wa ?_ | apply awp_join | refine qg (wsmall_c _ _ ?_) ?_ | refine qgd (wsmall_c _ _ ?_) ?_ | refine qg (wtext_c _ _ ?_ ?_) ?_ | refine qgd (wtext_c _ _ ?_ ?_) ?_ | refine qg (wnumber_c _ _ ?_ ?_) ?_ | refine qgd (wnumber_c _ _ ?_ ?_) ?_) | (with_reducible refine CallZ.z ?_) | simp -dsimp [go_sem])
  all_goals first | assumption | omega | (simp [textB_len]; omega)
theorem wcall_c (l : List UInt8) (client seq k : Int) (key field text : ByteArray) (n : Int) (hl : l.length ≤ 700000) (h1 : key.size ≤ 1000) (h2 : field.size ≤ 1000) (h3 : text.size ≤ 1000) (hn : inNum n) (hc : inNum client) (hs : inNum seq) :
    DetCall Tryz.prog G 238 1 (wHp l) [.one (.ptr 0 0), .agg [iC client, iC seq, iC k, sC key, sC field, sC text, iC n]] (.tup []) (wHp (l ++ callB client seq k key field text n)) := by
  refine gcallc mixed Tryz.func238 ac_wire_writer_call ?_
  unfold wHp
  by_cases h0 : 0 < client
  · have hf : l ++ callB client seq k key field text n = l ++ numB client ++ numB seq ++ cmdB k key field text n := by simp [callB, h0]
    rw [hf]
    repeat' (first | (with_reducible first | refine Cn (fun h => ?_) fun h => ?_ | refine And.intro ?_ ?_ | refine wR ?_ | exact wr _ _ | refine wa ?_ | apply awp_join | refine qg (wnumber_c _ _ ?_ ?_) ?_ | refine qgd (wnumber_c _ _ ?_ ?_) ?_ | refine qg (wcommand_c _ _ _ _ _ _ ?_ ?_ ?_ ?_ ?_) ?_ | refine qgd (wcommand_c _ _ _ _ _ _ ?_ ?_ ?_ ?_ ?_) ?_) | (with_reducible refine CallZ.z ?_) | simp -dsimp [go_sem, h0])
    all_goals first | assumption | omega | (simp [numB_len]; omega)
  · have hf : l ++ callB client seq k key field text n = l ++ numB client := by simp [callB, h0]
    rw [hf]
    repeat' (first | (with_reducible first | refine Cn (fun h => ?_) fun h => ?_ | refine And.intro ?_ ?_ | refine wR ?_ | exact wr _ _ | refine wa ?_ | apply awp_join | refine qg (wnumber_c _ _ ?_ ?_) ?_ | refine qgd (wnumber_c _ _ ?_ ?_) ?_) | (with_reducible refine CallZ.z ?_) | simp -dsimp [go_sem, h0])
    all_goals first | assumption | omega | (simp [numB_len]; omega)
theorem witem_c (l : List UInt8) (x : Item) (hl : l.length ≤ 600000) (h1 : x.key.size ≤ 1000) (h2 : x.field.size ≤ 1000) (h3 : x.text.size ≤ 1000) (hn : inNum x.n) (hc : inNum x.client) (hs : inNum x.seq) (ht : inNum x.term) (hm : inNum x.time) :
    DetCall Tryz.prog G 232 1 (wHp l) [.one (.ptr 0 0), .agg (x.row.map .v)] (.tup []) (wHp (l ++ itemB x)) := by
  refine gcallc mixed Tryz.func232 ac_wire_writer_item ?_
  unfold wHp
  have h10 : smallB 1 = 1 := by decide
  have h00 : smallB 0 = 0 := by decide
  cases hx : x.nop
  · have hf : l ++ itemB x = l ++ numB x.term ++ numB x.time ++ [smallB 0] ++ callB x.client x.seq x.k x.key x.field x.text x.n := by simp [itemB, hx, h00]
    rw [hf]
    repeat' (first | (with_reducible first | refine Cn (fun h => ?_) fun h => ?_ | refine And.intro ?_ ?_ | refine wR ?_ | exact wr _ _ | refine wa ?_ | apply awp_join | refine qg (wnumber_c _ _ ?_ ?_) ?_ | refine qgd (wnumber_c _ _ ?_ ?_) ?_ | refine qg (wsmall_c _ _ ?_) ?_ | refine qgd (wsmall_c _ _ ?_) ?_ | refine qg (wcall_c _ _ _ _ _ _ _ _ ?_ ?_ ?_ ?_ ?_ ?_ ?_) ?_ | refine qgd (wcall_c _ _ _ _ _ _ _ _ ?_ ?_ ?_ ?_ ?_ ?_ ?_) ?_) | (with_reducible refine CallZ.z ?_) | simp -dsimp [go_sem, hx, Item.row])
    all_goals first | assumption | omega | (simp [numB_len]; omega)
  · have hf : l ++ itemB x = l ++ numB x.term ++ numB x.time ++ [smallB 1] := by simp [itemB, hx, h10]
    rw [hf]
    repeat' (first | (with_reducible first | refine Cn (fun h => ?_) fun h => ?_ | refine And.intro ?_ ?_ | refine wR ?_ | exact wr _ _ | refine wa ?_ | apply awp_join | refine qg (wnumber_c _ _ ?_ ?_) ?_ | refine qgd (wnumber_c _ _ ?_ ?_) ?_ | refine qg (wsmall_c _ _ ?_) ?_ | refine qgd (wsmall_c _ _ ?_) ?_) | (with_reducible refine CallZ.z ?_) | simp -dsimp [go_sem, hx, Item.row])
    all_goals first | assumption | omega | (simp [numB_len]; omega)
theorem cmd_bounds {k : Int} {a b c : ByteArray} {n : Int} (hc : checkCommand k a b c n = 0) : 1 ≤ k ∧ k ≤ 22 ∧ a.size ≤ 12 ∧ b.size ≤ 12 ∧ c.size ≤ 20 ∧ -1099511627776 ≤ n ∧ n ≤ 1099511627776 := by
  have hz : (⟨#[]⟩ : ByteArray).size = 0 := rfl
  unfold checkCommand at hc
  repeat' split at hc
  all_goals first | (cases hc; done) | skip
  rename_i h1 h2 h3 h4 h5
  simp only [Bool.not_eq_false] at h3 h5
  simp only [formOk, okCount, okText, okField, Bool.and_eq_true, Bool.or_eq_true, Bool.not_eq_true', decide_eq_true_eq, bne_iff_ne, ne_eq, beq_iff_eq, decide_eq_false_iff_not, Bool.and_eq_false_iff, not_or, not_and, Decidable.not_not] at h3 h4 h5
  obtain ⟨⟨⟨q1, q2⟩, q3⟩, q4⟩ := h3
  obtain ⟨⟨p1, p2⟩, p3⟩ := h4
  refine ⟨by omega, by omega, ?_, ?_, by omega, h5.1, h5.2⟩
  · rcases q1 with q | q
    · have := p1 q; omega
    · rw [q, hz]; omega
  · rcases q2 with q | q
    · have := p2 q; omega
    · rw [q, hz]; omega
theorem noCall_iff {client seq k : Int} {a b c : ByteArray} {n : Int} : noCall client seq k a b c n = true ↔ client = 0 ∧ seq = 0 ∧ k = 0 ∧ a = ⟨#[]⟩ ∧ b = ⟨#[]⟩ ∧ c = ⟨#[]⟩ ∧ n = 0 := by
  simp [noCall]
theorem call_bounds {client seq k : Int} {a b c : ByteArray} {n : Int} (h : checkCall client seq k a b c n = 0) :
    (client = 0 ∧ seq = 0 ∧ k = 0 ∧ a = ⟨#[]⟩ ∧ b = ⟨#[]⟩ ∧ c = ⟨#[]⟩ ∧ n = 0) ∨ (1 ≤ client ∧ client ≤ 1048576 ∧ 1 ≤ seq ∧ seq ≤ 1048576 ∧ checkCommand k a b c n = 0) := by
  unfold checkCall at h
  split at h
  · rename_i h0
    left
    split at h
    · rename_i h1
      simp only [decide_eq_true_eq] at h0
      simp only [Bool.and_eq_true, beq_iff_eq, decide_eq_true_eq] at h1
      exact ⟨h0, h1⟩
    · cases h
  · split at h
    · rename_i h1
      split at h
      · rename_i h2
        right
        simp only [okNumber, Bool.and_eq_true, decide_eq_true_eq] at h1 h2
        exact ⟨h1.1, h1.2, h2.1, h2.2, h⟩
      · cases h
    · cases h
theorem item_ok {x : Item} (h : x.check = 0) : 1 ≤ x.term ∧ x.term ≤ 1048576 ∧ 0 ≤ x.time ∧ x.time ≤ 1073741824 ∧ (x.nop = true → x.client = 0) ∧
    ((x.client = 0 ∧ x.seq = 0 ∧ x.k = 0 ∧ x.key = ⟨#[]⟩ ∧ x.field = ⟨#[]⟩ ∧ x.text = ⟨#[]⟩ ∧ x.n = 0) ∨ (1 ≤ x.client ∧ x.client ≤ 1048576 ∧ 1 ≤ x.seq ∧ x.seq ≤ 1048576 ∧ checkCommand x.k x.key x.field x.text x.n = 0)) := by
  unfold Item.check checkItem at h
  simp only [decide_eq_true_eq] at h
  by_cases h1 : x.term < 1
  · simp [h1] at h
  by_cases h2 : 1048576 < x.term
  · simp [h1, h2] at h
  by_cases h3 : x.time < 0
  · simp [h1, h2, h3] at h
  by_cases h4 : 1073741824 < x.time
  · simp [h1, h2, h3, h4] at h
  simp only [h1, h2, h3, h4, if_false] at h
  refine ⟨by omega, by omega, by omega, by omega, ?_⟩
  cases hx : x.nop
  · rw [hx] at h
    exact ⟨fun h => (by cases h), call_bounds (by simpa using h)⟩
  · rw [hx] at h
    simp only [if_true] at h
    split at h
    · rename_i hn
      have := noCall_iff.1 hn
      exact ⟨fun _ => this.1, .inl this⟩
    · cases h
theorem item_bounds {x : Item} (h : x.check = 0) : x.key.size ≤ 1000 ∧ x.field.size ≤ 1000 ∧ x.text.size ≤ 1000 ∧ inNum x.n ∧ inNum x.client ∧ inNum x.seq ∧ inNum x.term ∧ inNum x.time := by
  obtain ⟨h1, h2, h3, h4, _, h5⟩ := item_ok h
  have hz : (⟨#[]⟩ : ByteArray).size = 0 := rfl
  unfold inNum
  rcases h5 with ⟨a, b, c, d, e, f, g⟩ | ⟨a, b, c, d, e⟩
  · rw [a, b, d, e, f, g, hz]; omega
  · have := cmd_bounds e; omega
theorem encodeItem_c (x : Item) (h : x.check = 0) : PCall Tryz.prog G 216 [.agg (x.row.map .v)] (.tup [.one (.v (.sl (bR (itemB x)))), iV 0]) := by
  obtain ⟨h1, h2, h3, h4, h5, h6, h7, h8⟩ := item_bounds h
  have hc : PCall Tryz.prog G 43 [.agg (x.row.map .v)] (iV 0) := by
    have := checkItem_c (G := G) x.term x.time x.nop x.client x.seq x.k x.key x.field x.text x.n
    rw [show checkItem x.term x.time x.nop x.client x.seq x.k x.key x.field x.text x.n = 0 from h] at this
    exact this
  have hw := witem_c (G := G) [] x (by simp) h1 h2 h3 h4 h5 h6 h7 h8
  simp only [Item.row, List.map_cons, List.map_nil, List.nil_append] at hc hw ⊢
  refine pcallc mixed Tryz.func216 ac_wire_EncodeItem ?_
  repeat' (first | (with_reducible first | refine Cn (fun h => ?_) fun h => ?_ | refine And.intro ?_ ?_ | refine wR ?_ | exact wr _ _ | refine wa ?_ | apply awp_join | refine q hc ?_ | refine qd hc ?_ | refine qz hc ?_ | refine qg hw ?_ | refine qgd hw ?_) | (refine CallZ.l (CallK.thaw 1 0 5 1 rfl rfl (by decide) ?_); simp -dsimp [go_sem]) | (with_reducible refine CallZ.z ?_) | simp -dsimp [go_sem])
structure WCmd where
  k : Int
  key : ByteArray
  field : ByteArray
  text : ByteArray
  n : Int
def wcmdR (r : Rd) : WCmd × Rd :=
  let a := smallR r
  let b := txtR a.2
  let c := txtR b.2
  let d := txtR c.2
  let e := numR d.2
  (⟨a.1, b.1, c.1, d.1, e.1⟩, e.2)
def callR (r : Rd) : (Int × Int × WCmd) × Rd :=
  let a := numR r
  if a.1 = 0 then ((0, 0, ⟨0, ⟨#[]⟩, ⟨#[]⟩, ⟨#[]⟩, 0⟩), a.2)
  else
    let b := numR a.2
    let c := wcmdR b.2
    ((a.1, b.1, c.1), c.2)
def itemR (r : Rd) : Item × Bool × Rd :=
  let a := numR r
  let b := numR a.2
  let c := smallR b.2
  if c.1 = 0 then
    let d := callR c.2
    (⟨a.1, b.1, false, d.1.1, d.1.2.1, d.1.2.2.k, d.1.2.2.key, d.1.2.2.field, d.1.2.2.text, d.1.2.2.n⟩, true, d.2)
  else (⟨a.1, b.1, decide (c.1 = 1), 0, 0, 0, ⟨#[]⟩, ⟨#[]⟩, ⟨#[]⟩, 0⟩, decide (c.1 = 1), c.2)
theorem wcmdR_app {k : Int} {key field text : ByteArray} {n : Int} (hk : 0 ≤ k ∧ k < 256) (h1 : key.size ≤ 255) (h2 : field.size ≤ 255) (h3 : text.size ≤ 255) (hn : inNum n) (rest : List UInt8) :
    wcmdR ⟨cmdB k key field text n ++ rest, false⟩ = (⟨k, key, field, text, n⟩, ⟨rest, false⟩) := by
  unfold wcmdR cmdB
  simp only [List.append_assoc, List.cons_append, List.nil_append, smallR_app, txtR_app h1, txtR_app h2, txtR_app h3, numR_app hn, smallB_toNat hk.1 hk.2]
  rw [Int.toNat_of_nonneg hk.1]
theorem itemR_app {x : Item} (h : x.check = 0) (rest : List UInt8) : itemR ⟨itemB x ++ rest, false⟩ = (x, true, ⟨rest, false⟩) := by
  obtain ⟨h1, h2, h3, h4, h5, h6⟩ := item_ok h
  obtain ⟨_, _, _, b4, b5, b6, b7, b8⟩ := item_bounds h
  cases hx : x.nop
  · have e : itemB x ++ rest = numB x.term ++ (numB x.time ++ (0 :: (callB x.client x.seq x.k x.key x.field x.text x.n ++ rest))) := by simp [itemB, hx]
    unfold itemR
    rw [e]
    simp only [numR_app b7, numR_app b8, smallR_app]
    rw [if_pos (by decide)]
    rcases h6 with ⟨c1, c2, c3, c4, c5, c6, c7⟩ | ⟨c1, c2, c3, c4, c5⟩
    · have e2 : callB x.client x.seq x.k x.key x.field x.text x.n ++ rest = numB 0 ++ rest := by simp [callB, c1]
      have : callR ⟨callB x.client x.seq x.k x.key x.field x.text x.n ++ rest, false⟩ = ((0, 0, ⟨0, ⟨#[]⟩, ⟨#[]⟩, ⟨#[]⟩, 0⟩), ⟨rest, false⟩) := by
        unfold callR
        rw [e2, numR_app (by unfold inNum; omega)]
        simp
      rw [this]
      cases x
      simp_all
    · have e2 : callB x.client x.seq x.k x.key x.field x.text x.n ++ rest = numB x.client ++ (numB x.seq ++ (cmdB x.k x.key x.field x.text x.n ++ rest)) := by simp [callB, show 0 < x.client by omega]
      have hb := cmd_bounds c5
      have : callR ⟨callB x.client x.seq x.k x.key x.field x.text x.n ++ rest, false⟩ = ((x.client, x.seq, ⟨x.k, x.key, x.field, x.text, x.n⟩), ⟨rest, false⟩) := by
        unfold callR
        rw [e2]
        simp only [numR_app b5, numR_app b6, wcmdR_app (k := x.k) (by omega) (by omega : x.key.size ≤ 255) (by omega : x.field.size ≤ 255) (by omega : x.text.size ≤ 255) b4]
        rw [if_neg (by omega)]
      rw [this]
      cases x
      simp_all
  · have e : itemB x ++ rest = numB x.term ++ (numB x.time ++ (1 :: rest)) := by simp [itemB, hx]
    unfold itemR
    rw [e]
    simp only [numR_app b7, numR_app b8, smallR_app]
    rw [if_neg (by decide)]
    have h0 := h5 hx
    rcases h6 with ⟨c1, c2, c3, c4, c5, c6, c7⟩ | ⟨c1, _⟩
    · cases x
      simp_all
    · omega
end Go.Proofs.YtkkleopmambcnaaGreatDoor
set_option linter.unusedVariables false
set_option linter.unusedSimpArgs false
set_option maxRecDepth 100000
set_option maxHeartbeats 8000000
namespace Go.Proofs.YtkkleopmambcnaaGreatDoor
open Go Go.RowKit Go.Proofs.AE
variable {G : Nat → AV}
abbrev rHp (r : Rd) : Hp := [some (.box 281 [.v (.sl (bR r.rest)), .v (.lit (.bool r.short))])]
theorem bR_take (l : List UInt8) (n : Nat) : (bR l).take n = bR (l.take n) := by simp [bR, List.map_take]
theorem bR_drop (l : List UInt8) (n : Nat) : (bR l).drop n = bR (l.drop n) := by simp [bR, List.map_drop]
theorem take_c (r : Rd) (n : Int) (hn : 0 ≤ n) : DetCall Tryz.prog G 219 1 (rHp r) [.one (.ptr 0 0), iV n] (.one (.v (.sl (bR (takeR r n.toNat).1)))) (rHp (takeR r n.toNat).2) := by
  refine gcallc mixed Tryz.func219 ac_wire_reader_take ?_
  have h1 := bR_len r.rest
  have h2 := bR_ul r.rest
  have h3 := bR_take r.rest n.toNat
  have h4 := bR_drop r.rest n.toNat
  unfold rHp
  by_cases hs : r.short = true
  · have ht : takeR r n.toNat = ([], ⟨r.rest, true⟩) := by unfold takeR; rw [if_pos (.inl hs)]
    rw [ht, hs]
    repeat' (first | (with_reducible first | refine Cn (fun h => ?_) fun h => ?_ | refine And.intro ?_ ?_ | refine wR ?_ | exact wr _ _ | refine wa ?_ | apply awp_join) | (with_reducible refine CallZ.z ?_) | simp -dsimp [go_sem, bR])
  · have hs' : r.short = false := by simpa using hs
    rw [hs']
    by_cases hl : (r.rest.length : Int) < n
    · have ht : takeR r n.toNat = ([], ⟨r.rest, true⟩) := by unfold takeR; rw [if_pos (.inr (by omega))]
      rw [ht]
      repeat' (first | (with_reducible first | refine Cn (fun h => ?_) fun h => ?_ | refine And.intro ?_ ?_ | refine wR ?_ | exact wr _ _ | refine wa ?_ | apply awp_join) | (with_reducible refine CallZ.z ?_) | simp -dsimp [go_sem, h1, hl])
      all_goals simp [bR]
    · have ht : takeR r n.toNat = (r.rest.take n.toNat, ⟨r.rest.drop n.toNat, false⟩) := by unfold takeR; rw [if_neg (by simp [hs']; omega)]
      rw [ht]
      have h5 : (bR r.rest).take r.rest.length = bR r.rest := by rw [bR_take, List.take_length]
      repeat' (first | (with_reducible first | refine Cn (fun h => ?_) fun h => ?_ | refine And.intro ?_ ?_ | refine wR ?_ | exact wr _ _ | refine wa ?_ | apply awp_join) | (with_reducible refine CallZ.z ?_) | simp -dsimp [go_sem, h1, hl, h2, h3, h4, h5])
      all_goals first | omega | skip
theorem shl_or (u : Nat) (c : UInt8) (hu : u < 18446744073709551616) : bitsV .or .u64 (IntKind.u64.wrap ((u : Int) * 256)) (c.toNat : Int) = ((u : Int) * 256 + c.toNat) % 18446744073709551616 := by
  have hc := c.toNat_lt
  have w64 : ∀ n : Nat, n < 18446744073709551616 → IntKind.u64.wrap (n : Int) = n := by
    intro n hn
    simp [IntKind.wrap, IntKind.bits, IntKind.signed]
    omega
  have h1 : IntKind.u64.wrap ((u : Int) * 256) = ((u * 256 % 18446744073709551616 : Nat) : Int) := by
    simp [IntKind.wrap, IntKind.bits, IntKind.signed]
  rw [h1]
  obtain ⟨v, hv⟩ : ∃ v, u * 256 % 18446744073709551616 = v * 256 := ⟨u * 256 % 18446744073709551616 / 256, by omega⟩
  have hv2 : v * 256 < 18446744073709551616 := by omega
  rw [hv, show ((u : Int) * 256 + c.toNat) % 18446744073709551616 = ((v * 256 + c.toNat : Nat) : Int) by omega]
  unfold bitsV
  simp only [IntKind.bits]
  have e1 : (BitVec.ofInt 64 ((v * 256 : Nat) : Int)) = BitVec.ofNat 64 (v * 256) := rfl
  have e2 : (BitVec.ofInt 64 (c.toNat : Int)) = BitVec.ofNat 64 c.toNat := rfl
  rw [e1, e2]
  change IntKind.u64.wrap (((BitVec.ofNat 64 (v * 256) ||| BitVec.ofNat 64 c.toNat : BitVec 64).toNat : Nat) : Int) = _
  simp only [BitVec.toNat_or, BitVec.toNat_ofNat]
  rw [Nat.mod_eq_of_lt (by omega), Nat.mod_eq_of_lt (by omega)]
  have e3 : v * 256 ||| c.toNat = v * 256 + c.toNat := by
    have := Nat.shiftLeft_add_eq_or_of_lt (i := 8) (b := c.toNat) (by omega) v
    rw [Nat.shiftLeft_eq] at this
    exact this.symm
  rw [e3, w64 _ (by omega)]
theorem wrap_back (u : Nat) : IntKind.i64.wrap (IntKind.u64.wrap ((u : Int) - 4611686018427387904)) = IntKind.i64.wrap ((u : Int) - 4611686018427387904) := by
  simp [IntKind.wrap, IntKind.bits, IntKind.signed]
theorem rnumber_c (r : Rd) : DetCall Tryz.prog G 194 1 (rHp r) [.one (.ptr 0 0)] (iV (numR r).1) (rHp (numR r).2) := by
  refine gcallc mixed Tryz.func194 ac_wire_reader_number ?_
  have ht := take_c (G := G) r 8 (by omega)
  have hl := takeR_len r 8
  unfold numR
  simp only [show (8 : Int).toNat = 8 from rfl] at ht
  generalize hq : takeR r 8 = q at *
  obtain ⟨b, r'⟩ := q
  simp only at ht hl ⊢
  have h1 := bR_len b
  unfold rHp
  repeat' (first | (with_reducible first | refine Cn (fun h => ?_) fun h => ?_ | refine And.intro ?_ ?_ | refine wR ?_ | exact wr _ _ | refine wa ?_ | apply awp_join | refine qg ht ?_ | refine qgd ht ?_) | (with_reducible refine CallZ.z ?_) | simp -dsimp [go_sem, h1])
  refine awp_loop (fun i : Nat => ⟨[(3, .one (.v (.lit (.int .u64 (uOf (b.take i)))))), (7, .one (.v (.sl (bR b)))), (8, iV b.length), (9, iV i)], G, rHp r'⟩) (fun i => i ≤ b.length) (fun i => b.length - i) 0 (weak_auto ?_) (Nat.zero_le _) ?_
  · simp -dsimp [go_sem]
    rfl
  · intro i hi
    unfold rHp
    simp -dsimp [go_sem]
    refine Cnd.intro (fun h => ?_) (fun h => ?_)
    · have hlt : i < b.length := by simpa using h
      have hgi : (bR b)[i]? = some [.lit (.int .u8 (b[i].toNat : Int))] := by simp [bR, hlt]
      have e1 : IntKind.i64.wrap ((i : Int) + 1) = i + 1 := IntWalk.i64_in _ (by omega)
      have e2 := shl_or (uOf (b.take i)) b[i] (uOf_lt _)
      have e3 : IntKind.u64.wrap (b[i].toNat : Int) = b[i].toNat := by
        have := b[i].toNat_lt
        simp [IntKind.wrap, IntKind.bits, IntKind.signed]
        omega
      have e4 : uOf (b.take (i + 1)) = (uOf (b.take i) * 256 + b[i].toNat) % 18446744073709551616 := by rw [List.take_succ_eq_append_getElem hlt, uOf_snoc]
      repeat' (first | (with_reducible first | refine Cn (fun h => ?_) fun h => ?_ | refine And.intro ?_ ?_ | refine wR ?_ | exact wr _ _ | refine wa ?_ | apply awp_join) | (with_reducible refine CallZ.z ?_) | simp -dsimp [go_sem, hgi, e1, e2, e3])
      all_goals first | omega | (with_reducible refine Again.auto (i + 1) ?_ ?_ ?_) | skip
      · simp -dsimp [go_sem, e4, e2]
      · exact hlt
      · show b.length - (i + 1) < b.length - i
        omega
    · have hij : i = b.length := by simp at h; omega
      subst hij
      have e5 : b.take b.length = b := List.take_length
      have e6 : IntKind.i64.wrap (IntKind.u64.wrap ((uOf b : Int) - 4611686018427387904)) = numOf b := wrap_back _
      rw [e5]
      repeat' (first | (with_reducible first | refine Cn (fun h => ?_) fun h => ?_ | refine And.intro ?_ ?_ | refine wR ?_ | exact wr _ _ | refine wa ?_ | apply awp_join) | (with_reducible refine CallZ.z ?_) | simp -dsimp [go_sem, e6])
theorem rsmall_c (r : Rd) : DetCall Tryz.prog G 200 1 (rHp r) [.one (.ptr 0 0)] (iV (smallR r).1) (rHp (smallR r).2) := by
  refine gcallc mixed Tryz.func200 ac_wire_reader_small ?_
  have ht := take_c (G := G) r 1 (by omega)
  unfold smallR
  simp only [show (1 : Int).toNat = 1 from rfl] at ht
  generalize hq : takeR r 1 = q at *
  obtain ⟨b, r'⟩ := q
  simp only at ht ⊢
  have h1 := bR_len b
  unfold rHp
  repeat' (first | (with_reducible first | refine Cn (fun h => ?_) fun h => ?_ | refine And.intro ?_ ?_ | refine wR ?_ | exact wr _ _ | refine wa ?_ | apply awp_join | refine qg ht ?_ | refine qgd ht ?_) | (with_reducible refine CallZ.z ?_) | simp -dsimp [go_sem, h1])
  refine awp_loop (fun _ : Unit => ⟨[(6, .one (.v (.sl (bR b)))), (7, iV b.length), (8, iV 0)], G, rHp r'⟩) (fun _ => True) (fun _ => 0) () (weak_auto ?_) trivial ?_
  · simp -dsimp [go_sem]
  · intro _ _
    unfold rHp
    cases b with
    | nil => repeat' (first | (with_reducible first | refine Cn (fun h => ?_) fun h => ?_ | refine And.intro ?_ ?_ | refine wR ?_ | exact wr _ _ | refine wa ?_ | apply awp_join) | (with_reducible refine CallZ.z ?_) | simp -dsimp [go_sem])
    | cons c b =>
      have hgi : (bR (c :: b))[0]? = some [.lit (.int .u8 (c.toNat : Int))] := by simp [bR]
      have e3 : IntKind.i64.wrap (c.toNat : Int) = c.toNat := by
        have := c.toNat_lt
        exact IntWalk.i64_in _ (by omega)
      repeat' (first | (with_reducible first | refine Cn (fun h => ?_) fun h => ?_ | refine And.intro ?_ ?_ | refine wR ?_ | exact wr _ _ | refine wa ?_ | apply awp_join) | (with_reducible refine CallZ.z ?_) | simp -dsimp [go_sem, hgi, e3])
theorem rtext_c (r : Rd) : DetCall Tryz.prog G 197 1 (rHp r) [.one (.ptr 0 0)] (sV (txtR r).1) (rHp (txtR r).2) := by
  refine gcallc mixed Tryz.func197 ac_wire_reader_text ?_
  have h1 := bR_bytes
  unfold txtR rHp
  repeat' (first | (with_reducible first | refine Cn (fun h => ?_) fun h => ?_ | refine And.intro ?_ ?_ | refine wR ?_ | exact wr _ _ | refine wa ?_ | apply awp_join | refine qg (rsmall_c _) ?_ | refine qgd (rsmall_c _) ?_ | refine qg (take_c _ _ (Int.natCast_nonneg _)) ?_ | refine qgd (take_c _ _ (Int.natCast_nonneg _)) ?_) | (with_reducible refine CallZ.z ?_) | simp -dsimp [go_sem, h1])
theorem rend_c (r : Rd) (ok : Bool) : DetCall Tryz.prog G 202 1 (rHp r) [.one (.ptr 0 0), bV ok] (iV (if r.short then 9 else if ok = false ∨ 0 < r.rest.length then 8 else 0)) (rHp r) := by
  refine gcallc mixed Tryz.func202 ac_wire_reader_end ?_
  have h1 := bR_len r.rest
  unfold rHp
  cases hs : r.short <;> cases ok
  all_goals
    repeat' (first | (with_reducible first | refine Cn (fun h => ?_) fun h => ?_ | refine And.intro ?_ ?_ | refine wR ?_ | exact wr _ _ | refine wa ?_ | apply awp_join) | (with_reducible refine CallZ.z ?_) | simp -dsimp [go_sem, h1])
  all_goals first | (simp_all; done) | (intro hh; simp_all)
end Go.Proofs.YtkkleopmambcnaaGreatDoor
set_option linter.unusedVariables false
set_option linter.unusedSimpArgs false
set_option maxRecDepth 100000
set_option maxHeartbeats 8000000
namespace Go.Proofs.YtkkleopmambcnaaGreatDoor
open Go Go.RowKit Go.Proofs.AE
variable {G : Nat → AV}
abbrev WCmd.cells (c : WCmd) : List C := [iC c.k, sC c.key, sC c.field, sC c.text, iC c.n]
theorem rcommand_c (r : Rd) : DetCall Tryz.prog G 239 1 (rHp r) [.one (.ptr 0 0)] (.agg (wcmdR r).1.cells) (rHp (wcmdR r).2) := by
  refine gcallc mixed Tryz.func239 ac_wire_reader_command ?_
  simp only [wcmdR, WCmd.cells]
  unfold rHp
  repeat' (first | (with_reducible first | refine Cn (fun h => ?_) fun h => ?_ | refine And.intro ?_ ?_ | refine wR ?_ | exact wr _ _ | refine wa ?_ | apply awp_join | refine qg (rsmall_c _) ?_ | refine qgd (rsmall_c _) ?_ | refine qg (rtext_c _) ?_ | refine qgd (rtext_c _) ?_ | refine qg (rnumber_c _) ?_ | refine qgd (rnumber_c _) ?_) | (with_reducible refine CallZ.z ?_) | simp -dsimp [go_sem])
theorem rcall_c (r : Rd) : DetCall Tryz.prog G 233 1 (rHp r) [.one (.ptr 0 0)] (.agg (iC (callR r).1.1 :: iC (callR r).1.2.1 :: (callR r).1.2.2.cells)) (rHp (callR r).2) := by
  refine gcallc mixed Tryz.func233 ac_wire_reader_call ?_
  by_cases h0 : (numR r).1 = 0
  · simp only [callR, h0, if_true, WCmd.cells]
    unfold rHp
    repeat' (first | (with_reducible first | refine Cn (fun h => ?_) fun h => ?_ | refine And.intro ?_ ?_ | refine wR ?_ | exact wr _ _ | refine wa ?_ | apply awp_join | refine qg (rnumber_c _) ?_ | refine qgd (rnumber_c _) ?_) | (with_reducible refine CallZ.z ?_) | simp -dsimp [go_sem, h0])
  · simp only [callR, h0, if_false, WCmd.cells]
    have h1 := beq_false_of_ne h0
    have h2 : ((numR r).1 != 0) = true := by simp [bne, h1]
    unfold rHp
    repeat' (first | (with_reducible first | refine Cn (fun h => ?_) fun h => ?_ | refine And.intro ?_ ?_ | refine wR ?_ | exact wr _ _ | refine wa ?_ | apply awp_join | refine qg (rnumber_c _) ?_ | refine qgd (rnumber_c _) ?_ | refine qg (rcommand_c _) ?_ | refine qgd (rcommand_c _) ?_) | (with_reducible refine CallZ.z ?_) | simp -dsimp [go_sem, h2])
theorem ritem_c (r : Rd) : DetCall Tryz.prog G 218 1 (rHp r) [.one (.ptr 0 0)] (.tup [.agg ((itemR r).1.row.map .v), bV (itemR r).2.1]) (rHp (itemR r).2.2) := by
  refine gcallc mixed Tryz.func218 ac_wire_reader_item ?_
  by_cases h0 : (smallR (numR (numR r).2).2).1 = 0
  · simp only [itemR, h0, if_true, Item.row, List.map_cons, List.map_nil]
    unfold rHp
    repeat' (first | (with_reducible first | refine Cn (fun h => ?_) fun h => ?_ | refine And.intro ?_ ?_ | refine wR ?_ | exact wr _ _ | refine wa ?_ | apply awp_join | refine qg (rnumber_c _) ?_ | refine qgd (rnumber_c _) ?_ | refine qg (rsmall_c _) ?_ | refine qgd (rsmall_c _) ?_ | refine qg (rcall_c _) ?_ | refine qgd (rcall_c _) ?_) | (with_reducible refine CallZ.z ?_) | simp -dsimp [go_sem, h0])
  · have h1 : ((((smallR (numR (numR r).2).2).1 : Nat) : Int) == 0) = false := beq_false_of_ne (by omega)
    simp only [itemR, h0, if_false, Item.row, List.map_cons, List.map_nil]
    by_cases h2 : (smallR (numR (numR r).2).2).1 = 1
    · unfold rHp
      rw [h2]
      repeat' (first | (with_reducible first | refine Cn (fun h => ?_) fun h => ?_ | refine And.intro ?_ ?_ | refine wR ?_ | exact wr _ _ | refine wa ?_ | apply awp_join | refine qg (rnumber_c _) ?_ | refine qgd (rnumber_c _) ?_ | refine qg (rsmall_c _) ?_ | refine qgd (rsmall_c _) ?_) | (with_reducible refine CallZ.z ?_) | simp -dsimp [go_sem, h2])
    · have h3 : ((((smallR (numR (numR r).2).2).1 : Nat) : Int) == 1) = false := beq_false_of_ne (by omega)
      unfold rHp
      repeat' (first | (with_reducible first | refine Cn (fun h => ?_) fun h => ?_ | refine And.intro ?_ ?_ | refine wR ?_ | exact wr _ _ | refine wa ?_ | apply awp_join | refine qg (rnumber_c _) ?_ | refine qgd (rnumber_c _) ?_ | refine qg (rsmall_c _) ?_ | refine qgd (rsmall_c _) ?_) | (with_reducible refine CallZ.z ?_) | simp -dsimp [go_sem, h1, h2, h3])
def zeroItem : Item := ⟨0, 0, false, 0, 0, 0, ⟨#[]⟩, ⟨#[]⟩, ⟨#[]⟩, 0⟩
def decItem (l : List UInt8) : Item × Int :=
  if 20000 < l.length then (zeroItem, 1)
  else
    let a := itemR ⟨l, false⟩
    if a.2.2.short then (zeroItem, 9)
    else if a.2.1 = false ∨ 0 < a.2.2.rest.length then (zeroItem, 8)
    else if a.1.check = 0 then (a.1, 0) else (zeroItem, a.1.check)
theorem checkItemV_c (x : Item) : PCall Tryz.prog G 43 [.agg (x.row.map .v)] (iV x.check) := checkItem_c (G := G) x.term x.time x.nop x.client x.seq x.k x.key x.field x.text x.n
theorem decodeItem_c (l : List UInt8) : PCall Tryz.prog G 187 [.one (.v (.sl (bR l)))] (.tup [.agg ((decItem l).1.row.map .v), iV (decItem l).2]) := by
  refine pcallc mixed Tryz.func187 ac_wire_DecodeItem ?_
  have h1 := bR_len l
  have c1 := ritem_c (G := G) ⟨l, false⟩
  have c2 := rend_c (G := G) (itemR ⟨l, false⟩).2.2 (itemR ⟨l, false⟩).2.1
  have c3 := checkItemV_c (G := G) (itemR ⟨l, false⟩).1
  unfold decItem
  generalize itemR ⟨l, false⟩ = q at *
  obtain ⟨x, ok, r'⟩ := q
  simp only [Item.row, List.map_cons, List.map_nil] at c1 c2 c3 ⊢
  by_cases hl : 20000 < l.length
  · have hl' : (20000 : Int) < l.length := by omega
    rw [if_pos hl]
    repeat' (first | (with_reducible first | refine Cn (fun h => ?_) fun h => ?_ | refine And.intro ?_ ?_ | refine wR ?_ | exact wr _ _ | refine wa ?_ | apply awp_join) | (with_reducible refine CallZ.z ?_) | simp -dsimp [go_sem, h1, hl', zeroItem, Item.row])
  · have hl' : ¬ (20000 : Int) < l.length := by omega
    rw [if_neg hl]
    unfold rHp at c1 c2
    cases hs : r'.short
    · rw [hs] at c1 c2
      simp only [Bool.false_eq_true, if_false] at c2 ⊢
      by_cases ho : ok = false ∨ 0 < r'.rest.length
      · rw [if_pos ho] at c2 ⊢
        repeat' (first | (with_reducible first | refine Cn (fun h => ?_) fun h => ?_ | refine And.intro ?_ ?_ | refine wR ?_ | exact wr _ _ | refine wa ?_ | apply awp_join | refine qg c1 ?_ | refine qgd c1 ?_ | refine qg c2 ?_ | refine qgd c2 ?_) | (with_reducible refine CallZ.z ?_) | simp -dsimp [go_sem, h1, hl', zeroItem, Item.row])
      · rw [if_neg ho] at c2 ⊢
        by_cases hc : x.check = 0
        · rw [hc] at c3
          rw [if_pos hc]
          repeat' (first | (with_reducible first | refine Cn (fun h => ?_) fun h => ?_ | refine And.intro ?_ ?_ | refine wR ?_ | exact wr _ _ | refine wa ?_ | apply awp_join | refine qg c1 ?_ | refine qgd c1 ?_ | refine qg c2 ?_ | refine qgd c2 ?_ | refine q c3 ?_ | refine qd c3 ?_ | refine qz c3 ?_) | (with_reducible refine CallZ.z ?_) | simp -dsimp [go_sem, h1, hl', Item.row])
        · have hcb : (x.check != 0) = true := by simpa using hc
          rw [if_neg hc]
          repeat' (first | (with_reducible first | refine Cn (fun h => ?_) fun h => ?_ | refine And.intro ?_ ?_ | refine wR ?_ | exact wr _ _ | refine wa ?_ | apply awp_join | refine qg c1 ?_ | refine qgd c1 ?_ | refine qg c2 ?_ | refine qgd c2 ?_ | refine q c3 ?_ | refine qd c3 ?_ | refine qz c3 ?_) | (with_reducible refine CallZ.z ?_) | simp -dsimp [go_sem, h1, hl', hcb, zeroItem, Item.row])
    · rw [hs] at c1 c2
      simp only [if_true] at c2 ⊢
      repeat' (first | (with_reducible first | refine Cn (fun h => ?_) fun h => ?_ | refine And.intro ?_ ?_ | refine wR ?_ | exact wr _ _ | refine wa ?_ | apply awp_join | refine qg c1 ?_ | refine qgd c1 ?_ | refine qg c2 ?_ | refine qgd c2 ?_) | (with_reducible refine CallZ.z ?_) | simp -dsimp [go_sem, h1, hl', zeroItem, Item.row])
end Go.Proofs.YtkkleopmambcnaaGreatDoor
set_option linter.unusedVariables false
set_option linter.unusedSimpArgs false
set_option maxRecDepth 100000
set_option maxHeartbeats 8000000
namespace Go.Proofs.YtkkleopmambcnaaGreatDoor
open Go Go.RowKit Go.Proofs.AE
variable {G : Nat → AV}
theorem itemB_pos (x : Item) : 0 < (itemB x).length := by simp [itemB, numB_len]; omega
theorem itemB_short {x : Item} (h : x.check = 0) : (itemB x).length ≤ 200 := by
  obtain ⟨_, _, _, _, _, h6⟩ := item_ok h
  unfold itemB
  cases x.nop
  · simp only [Bool.false_eq_true, if_false, List.length_append, numB_len, callB, List.length_cons, List.length_nil]
    split
    · rename_i hp
      rcases h6 with ⟨c1, _⟩ | ⟨_, _, _, _, c5⟩
      · omega
      · have hb := cmd_bounds c5
        simp only [cmdB, List.length_append, textB_len, numB_len, List.length_cons, List.length_nil]
        omega
    · simp
  · simp [numB_len]
theorem dec_back {x : Item} (h : x.check = 0) : decItem (itemB x) = (x, 0) := by
  have hl := itemB_short h
  have hr := itemR_app h []
  rw [List.append_nil] at hr
  unfold decItem
  rw [if_neg (by omega), hr]
  simp [h]
theorem Reads.pure {α : Type} (a : α) : Reads (fun r => (a, r)) := ⟨fun _ => rfl, fun _ _ _ => rfl⟩
end Go.Proofs.YtkkleopmambcnaaGreatDoor
set_option linter.unusedVariables false
set_option linter.unusedSimpArgs false
set_option maxRecDepth 100000
set_option maxHeartbeats 8000000
namespace Go.Proofs.YtkkleopmambcnaaGreatDoor
open Go Go.RowKit Go.Proofs.AE
variable {G : Nat → AV}
abbrev logC (base bt : Int) (x : List Item) : List C := [iC base, iC bt, .v (.sl (x.map Item.row))]
def chk : List Item → Int → Int → Bool
  | [], _, _ => true
  | x :: l, t, m => x.check == 0 && (decide (t ≤ x.term) && (decide (m ≤ x.time) && chk l x.term x.time))
def headOk (base bt : Int) (len : Nat) : Bool :=
  !decide (base < 0) && (!decide (bt < 0) && (!decide (1048576 < bt) && ((base == 0) == (bt == 0) && (!decide (200 < (len : Int)) && !decide (1048576 - (len : Int) < base)))))
def checkLog (base bt : Int) (x : List Item) : Int := if headOk base bt x.length then (if chk x bt 0 then 0 else 13) else 13
theorem checkLog_c (base bt : Int) (x : List Item) (hx : (x.length : Int) ≤ 9223372036854775807) :
    PCall Tryz.prog G 23 [.agg (logC base bt x)] (iV (checkLog base bt x)) := by
  refine pcallc mixed Tryz.func23 ac_ledger_Check ?_
  have e1 : IntKind.i64.wrap (1048576 - (x.length : Int)) = 1048576 - (x.length : Int) := IntWalk.i64_in _ (by omega)
  repeat' (first | (with_reducible first | refine Cn (fun h => ?_) fun h => ?_ | refine And.intro ?_ ?_ | refine wR ?_ | exact wr _ _ | refine wa ?_ | apply awp_join) | (with_reducible refine CallZ.z ?_) | simp -dsimp [go_sem, e1])
  all_goals first
    | (with_reducible refine awp_loop (fun y : Nat × Int × Int => ⟨[(3, iV y.2.1), (4, iV y.2.2), (47, .one (.v (.sl (x.map Item.row)))), (48, iV x.length), (49, iV y.1)], G, []⟩) (fun y => y.1 ≤ x.length ∧ chk x bt 0 = chk (x.drop y.1) y.2.1 y.2.2) (fun y => x.length - y.1) (0, bt, 0) ?_ ?_ ?_)
    | (simp only [Bool.not_true, Bool.not_false] at *; simp only [checkLog, headOk, *]; rfl)
    | (simp_all [checkLog, headOk]; done)
  · refine weak_auto ?_
    simp -dsimp [go_sem]
  · simp
  · have hh : headOk base bt x.length = true := by simp_all [headOk]
    have hcl : checkLog base bt x = if chk x bt 0 then 0 else 13 := by simp [checkLog, hh]
    rintro ⟨i, t, m⟩ ⟨a1, a2⟩
    simp only at a1 a2
    rw [a2] at hcl
    simp -dsimp [go_sem]
    refine Cnd.intro (fun h => ?_) (fun h => ?_)
    · have hlt : i < x.length := by simpa using h
      obtain ⟨y, hy⟩ : ∃ y, x[i]? = some y := ⟨_, List.getElem?_eq_getElem hlt⟩
      have hgi : (x.map Item.row)[i]? = some y.row := by simp [hy]
      have hdrop : x.drop i = y :: x.drop (i + 1) := by
        rw [List.drop_eq_getElem_cons hlt]
        congr 1
        rw [List.getElem?_eq_getElem hlt] at hy
        exact Option.some.inj hy
      rw [hdrop] at hcl a2
      have n1 : decide (t ≤ y.term) = !decide (y.term < t) := by by_cases h : t ≤ y.term <;> simp [h] <;> omega
      have n2 : decide (m ≤ y.time) = !decide (y.time < m) := by by_cases h : m ≤ y.time <;> simp [h] <;> omega
      have n3 : (y.check == 0) = !(y.check != 0) := by simp [bne]
      simp only [chk, n1, n2, n3] at hcl a2
      have hck : checkItem y.term y.time y.nop y.client y.seq y.k y.key y.field y.text y.n = y.check := rfl
      have e4 : IntKind.i64.wrap ((i : Int) + 1) = (i : Int) + 1 := IntWalk.i64_in _ (by omega)
      repeat' (first | (with_reducible first | refine Cn (fun h => ?_) fun h => ?_ | refine And.intro ?_ ?_ | refine wR ?_ | exact wr _ _ | refine wa ?_ | apply awp_join | refine q (checkItem_c _ _ _ _ _ _ _ _ _ _) ?_ | refine qd (checkItem_c _ _ _ _ _ _ _ _ _ _) ?_ | refine qz (checkItem_c _ _ _ _ _ _ _ _ _ _) ?_) | (with_reducible refine CallZ.z ?_) | simp -dsimp [go_sem, hgi, Item.row, hck, e4])
      all_goals first
        | (with_reducible refine Again.view (i + 1, y.term, y.time) [] [] ?_ ?_ ?_ ?_ ?_ ?_ ?_ ?_)
        | (simp only [Bool.not_true, Bool.not_false] at *; simp only [hcl, *]; rfl)
        | (simp_all; done)
      · rfl
      · rfl
      · simp
      · simp
      · simp -dsimp [go_sem]
      · exact trivial
      · refine ⟨hlt, ?_⟩
        simp only [Bool.not_true, Bool.not_false] at *
        simp only [a2, *]
        simp
      · show x.length - (i + 1) < x.length - i
        omega
    · have hge : ¬ i < x.length := by simpa using h
      have : i = x.length := by omega
      subst this
      simp [chk] at hcl
      simp -dsimp [go_sem, hcl]
end Go.Proofs.YtkkleopmambcnaaGreatDoor
set_option linter.unusedVariables false
set_option linter.unusedSimpArgs false
set_option maxRecDepth 100000
set_option maxHeartbeats 8000000
namespace Go.Proofs.YtkkleopmambcnaaGreatDoor
open Go Go.RowKit Go.Proofs.AE
variable {G : Nat → AV}
def lastTerm (bt : Int) (x : List Item) : Int := match x[x.length - 1]? with | some y => y.term | none => bt
theorem last_c (base bt : Int) (x : List Item) (hb : 0 ≤ base ∧ base ≤ 1048576) (hx : x.length ≤ 200) : PCall Tryz.prog G 157 [.agg (logC base bt x)] (.tup [iV (base + x.length), iV (lastTerm bt x)]) := by
  have e1 : IntKind.i64.wrap (base + x.length) = base + x.length := IntWalk.i64_in _ (by omega)
  have e2 : IntKind.i64.wrap ((x.length : Int) - 1) = (x.length : Int) - 1 := IntWalk.i64_in _ (by omega)
  refine pcallc mixed Tryz.func157 ac_ledger_last ?_
  by_cases h0 : 0 < x.length
  · obtain ⟨y, hy⟩ : ∃ y, x[x.length - 1]? = some y := ⟨_, List.getElem?_eq_getElem (by omega)⟩
    have hl : lastTerm bt x = y.term := by unfold lastTerm; rw [hy]
    have hn : ((x.length : Int) - 1).toNat = x.length - 1 := by omega
    have hgi : (x.map Item.row)[x.length - 1]? = some y.row := by rw [List.getElem?_map, hy]; rfl
    have hne : ¬ x = [] := by intro h; rw [h] at h0; simp at h0
    rw [hl]
    repeat' (first | (with_reducible first | refine Cn (fun h => ?_) fun h => ?_ | refine And.intro ?_ ?_ | refine wR ?_ | exact wr _ _ | refine wa ?_ | apply awp_join) | (with_reducible refine CallZ.z ?_) | simp -dsimp [go_sem, e1, e2, hn, hgi, Item.row])
    all_goals first | omega | simp_all
  · have hx0 : x = [] := List.eq_nil_of_length_eq_zero (by omega)
    subst hx0
    repeat' (first | (with_reducible first | refine Cn (fun h => ?_) fun h => ?_ | refine And.intro ?_ ?_ | refine wR ?_ | exact wr _ _ | refine wa ?_ | apply awp_join) | (with_reducible refine CallZ.z ?_) | simp -dsimp [go_sem, lastTerm])
    all_goals simp_all [lastTerm]
theorem last_c' (base bt : Int) (x : List Item) (h : checkLog base bt x = 0) : 0 ≤ base ∧ base ≤ 1048576 ∧ x.length ≤ 200 ∧ 0 ≤ bt ∧ bt ≤ 1048576 := by
  unfold checkLog at h
  split at h
  · rename_i hh
    simp [headOk] at hh
    omega
  · cases h
theorem lastGood_c (base bt : Int) (x : List Item) (h : checkLog base bt x = 0) : PCall Tryz.prog G 117 [.agg (logC base bt x)] (.tup [iV (base + x.length), iV (lastTerm bt x), iV 0]) := by
  obtain ⟨b1, b2, b3, b4, b5⟩ := last_c' base bt x h
  refine pcallc mixed Tryz.func117 ac_ledger_Last ?_
  repeat' (first | (with_reducible first | refine Cn (fun h => ?_) fun h => ?_ | refine And.intro ?_ ?_ | refine wR ?_ | exact wr _ _ | refine wa ?_ | apply awp_join | refine q1 (by exact checkLog_c _ _ _ (by omega)) ?_ | refine q1d (by exact checkLog_c _ _ _ (by omega)) ?_ | refine q (last_c _ _ _ ⟨b1, b2⟩ b3) ?_ | refine qd (last_c _ _ _ ⟨b1, b2⟩ b3) ?_ | refine qz (last_c _ _ _ ⟨b1, b2⟩ b3) ?_) | (with_reducible refine CallZ.z ?_) | simp -dsimp [go_sem, h])
def termAt (base bt : Int) (x : List Item) (place : Int) : Int := if place < base then 0 else if place = base then bt else if (x.length : Int) < place - base then 0 else match x[(place - base - 1).toNat]? with | some y => y.term | none => 0
def termErr (base : Int) (len : Nat) (place : Int) : Int := if place < base then 11 else if place = base then 0 else if (len : Int) < place - base then 5 else 0
theorem term_c (base bt : Int) (x : List Item) (place : Int) (hb : 0 ≤ base ∧ base ≤ 1048576) (hx : x.length ≤ 200) (hp : 0 ≤ place ∧ place ≤ 1048576) : PCall Tryz.prog G 155 [.agg (logC base bt x), iV place] (.tup [iV (termAt base bt x place), iV (termErr base x.length place)]) := by
  have e1 : IntKind.i64.wrap (place - base) = place - base := IntWalk.i64_in _ (by omega)
  have e2 : IntKind.i64.wrap (place - base - 1) = place - base - 1 := IntWalk.i64_in _ (by omega)
  by_cases h1 : place < base
  · refine pcallc mixed Tryz.func155 ac_ledger_term ?_
    repeat' (first | (with_reducible first | refine Cn (fun h => ?_) fun h => ?_ | refine And.intro ?_ ?_ | refine wR ?_ | exact wr _ _ | refine wa ?_ | apply awp_join) | (with_reducible refine CallZ.z ?_) | simp -dsimp [go_sem, h1, termAt, termErr])
  by_cases h2 : place = base
  · refine pcallc mixed Tryz.func155 ac_ledger_term ?_
    subst h2
    repeat' (first | (with_reducible first | refine Cn (fun h => ?_) fun h => ?_ | refine And.intro ?_ ?_ | refine wR ?_ | exact wr _ _ | refine wa ?_ | apply awp_join) | (with_reducible refine CallZ.z ?_) | simp -dsimp [go_sem, termAt, termErr])
  by_cases h3 : (x.length : Int) < place - base
  · refine pcallc mixed Tryz.func155 ac_ledger_term ?_
    repeat' (first | (with_reducible first | refine Cn (fun h => ?_) fun h => ?_ | refine And.intro ?_ ?_ | refine wR ?_ | exact wr _ _ | refine wa ?_ | apply awp_join) | (with_reducible refine CallZ.z ?_) | simp -dsimp [go_sem, h1, h2, h3, e1, termAt, termErr])
    all_goals simp_all
  · obtain ⟨y, hy⟩ : ∃ y, x[(place - base - 1).toNat]? = some y := ⟨_, List.getElem?_eq_getElem (by omega)⟩
    have hgi : (x.map Item.row)[(place - base - 1).toNat]? = some y.row := by rw [List.getElem?_map, hy]; rfl
    have hgi' : (x.map Item.row)[(place - base).toNat - 1]? = some y.row := by rw [show (place - base).toNat - 1 = (place - base - 1).toNat by omega]; exact hgi
    have hpos : 0 ≤ place - base - 1 := by omega
    have hta : termAt base bt x place = y.term := by unfold termAt; rw [if_neg h1, if_neg h2, if_neg h3, hy]
    have hte : termErr base x.length place = 0 := by unfold termErr; rw [if_neg h1, if_neg h2, if_neg h3]
    refine pcallc mixed Tryz.func155 ac_ledger_term ?_
    rw [hta, hte]
    repeat' (first | (with_reducible first | refine Cn (fun h => ?_) fun h => ?_ | refine And.intro ?_ ?_ | refine wR ?_ | exact wr _ _ | refine wa ?_ | apply awp_join) | (with_reducible refine CallZ.z ?_) | simp -dsimp [go_sem, h1, h2, h3, e1, e2, hgi, hgi', Item.row])
    all_goals first | omega | simp_all
theorem termGood_c (base bt : Int) (x : List Item) (place : Int) (h : checkLog base bt x = 0) (hp : 0 ≤ place ∧ place ≤ 1048576) : PCall Tryz.prog G 123 [.agg (logC base bt x), iV place] (.tup [iV (termAt base bt x place), iV (termErr base x.length place)]) := by
  obtain ⟨b1, b2, b3, b4, b5⟩ := last_c' base bt x h
  have p1 : ¬ place < 0 := by omega
  have p2 : ¬ 1048576 < place := by omega
  refine pcallc mixed Tryz.func123 ac_ledger_Term ?_
  repeat' (first | (with_reducible first | refine Cn (fun h => ?_) fun h => ?_ | refine And.intro ?_ ?_ | refine wR ?_ | exact wr _ _ | refine wa ?_ | apply awp_join | refine q1 (by exact checkLog_c _ _ _ (by omega)) ?_ | refine q1d (by exact checkLog_c _ _ _ (by omega)) ?_ | refine q (term_c _ _ _ _ ⟨b1, b2⟩ b3 hp) ?_ | refine qd (term_c _ _ _ _ ⟨b1, b2⟩ b3 hp) ?_ | refine qz (term_c _ _ _ _ ⟨b1, b2⟩ b3 hp) ?_) | (with_reducible refine CallZ.z ?_) | simp -dsimp [go_sem, h, p1, p2])
end Go.Proofs.YtkkleopmambcnaaGreatDoor
set_option linter.unusedVariables false
set_option linter.unusedSimpArgs false
set_option maxRecDepth 100000
set_option maxHeartbeats 8000000
namespace Go.Proofs.YtkkleopmambcnaaGreatDoor
open Go Go.RowKit Go.Proofs.AE
end Go.Proofs.YtkkleopmambcnaaGreatDoor
set_option linter.unusedVariables false
set_option linter.unusedSimpArgs false
set_option maxRecDepth 100000
set_option maxHeartbeats 8000000
namespace Go.Proofs.YtkkleopmambcnaaGreatDoor
open Go Go.RowKit Go.Proofs.AE
variable {G : Nat → AV}
end Go.Proofs.YtkkleopmambcnaaGreatDoor
set_option linter.unusedVariables false
set_option linter.unusedSimpArgs false
set_option maxRecDepth 100000
set_option maxHeartbeats 8000000
namespace Go.Proofs.YtkkleopmambcnaaGreatDoor
open Go Go.RowKit Go.Proofs.AE
end Go.Proofs.YtkkleopmambcnaaGreatDoor
set_option linter.unusedVariables false
set_option linter.unusedSimpArgs false
set_option maxRecDepth 100000
set_option maxHeartbeats 8000000
namespace Go.Proofs.YtkkleopmambcnaaGreatDoor
open Go Go.RowKit Go.Proofs.AE
variable {G : Nat → AV}
abbrev rowsV (x : List Item) : AV := .one (.v (.sl (x.map Item.row)))
def Item.same (x y : Item) : Bool := (x.term == y.term) && ((x.time == y.time) && ((x.nop == y.nop) && ((x.client == y.client) && ((x.seq == y.seq) && ((x.k == y.k) && (decide (x.key = y.key) && (decide (x.field = y.field) && (decide (x.text = y.text) && (x.n == y.n)))))))))
theorem Item.same_iff (x y : Item) : x.same y = true ↔ x = y := by
  cases x; cases y; simp [Item.same]
instance : DecidableEq Item := fun x y => decidable_of_iff (x.same y = true) (Item.same_iff x y)
theorem last_room (base bt : Int) (x : List Item) (h : checkLog base bt x = 0) : base + x.length ≤ 1048576 := by
  unfold checkLog at h
  split at h
  · rename_i hh
    simp [headOk] at hh
    omega
  · cases h
theorem termErr_range {base : Int} {n : Nat} {place : Int} (ht : termErr base n place = 0) : base ≤ place ∧ place - base ≤ n := by
  unfold termErr at ht
  split at ht
  · cases ht
  · split at ht
    · omega
    · split at ht
      · cases ht
      · omega
theorem termErr_ok {base : Int} {n : Nat} {place : Int} (h : base ≤ place ∧ place - base ≤ n) : termErr base n place = 0 := by
  unfold termErr
  rw [if_neg (by omega)]
  split
  · rfl
  · rw [if_neg (by omega)]
theorem termI_c (base bt : Int) (x : List Item) (place : Int) (hb : 0 ≤ base ∧ base + x.length ≤ 1048576) (hx : x.length ≤ 200) (hp : i64 place) : PCall Tryz.prog G 155 [.agg (logC base bt x), iV place] (.tup [iV (termAt base bt x place), iV (termErr base x.length place)]) := by
  unfold i64 at hp
  by_cases h1 : place < base
  · refine pcallc mixed Tryz.func155 ac_ledger_term ?_
    repeat' (first | (with_reducible first | refine Cn (fun h => ?_) fun h => ?_ | refine And.intro ?_ ?_ | refine wR ?_ | exact wr _ _ | refine wa ?_ | apply awp_join) | (with_reducible refine CallZ.z ?_) | simp -dsimp [go_sem, h1, termAt, termErr])
  · by_cases h2 : place ≤ 1048576
    · exact term_c base bt x place ⟨hb.1, by omega⟩ hx ⟨by omega, h2⟩
    · have e1 : IntKind.i64.wrap (place - base) = place - base := IntWalk.i64_in _ (by omega)
      have h3 : ¬ place = base := by omega
      have h4 : (x.length : Int) < place - base := by omega
      refine pcallc mixed Tryz.func155 ac_ledger_term ?_
      repeat' (first | (with_reducible first | refine Cn (fun h => ?_) fun h => ?_ | refine And.intro ?_ ?_ | refine wR ?_ | exact wr _ _ | refine wa ?_ | apply awp_join) | (with_reducible refine CallZ.z ?_) | simp -dsimp [go_sem, h1, h3, h4, e1, termAt, termErr])
      all_goals simp_all
theorem cloneItems_c (rows : List (List V)) (hu : UL 10 rows) (hx : rows.length ≤ 1000000) : PCall Tryz.prog G 41 [.one (.v (.sl rows))] (.one (.v (.sl rows))) := by
  refine pcallc mixed Tryz.func41 ac_slices_Clone_api_Item ?_
  repeat' (first | (with_reducible first | refine Cn (fun h => ?_) fun h => ?_ | refine And.intro ?_ ?_ | refine wR ?_ | exact wr _ _ | refine wa ?_ | apply awp_join | refine q (cases q) ?_ | refine qd (cases q) ?_ | refine qz (cases q) ?_) | (intro q hq) | (with_reducible refine CallZ.z ?_) | simp -dsimp [go_sem])
  all_goals first | omega | exact hu _ ‹_›
theorem ul_rows (x : List Item) : UL 10 (x.map Item.row) := by
  intro r hr
  obtain ⟨y, _, rfl⟩ := List.mem_map.1 hr
  rfl
theorem ul_take {k n : Nat} {rows : List (List V)} (h : UL k rows) : UL k (rows.take n) := fun r hr => h r (List.mem_of_mem_take hr)
theorem ul_drop {k n : Nat} {rows : List (List V)} (h : UL k rows) : UL k (rows.drop n) := fun r hr => h r (List.mem_of_mem_drop hr)
def behind (base : Int) (x : List Item) (place most : Int) : List Item := (x.drop (place - base).toNat).take most.toNat
theorem behind_c (base bt : Int) (x : List Item) (place most : Int) (h : checkLog base bt x = 0) (hp : 0 ≤ place ∧ place ≤ 1048576) (hm : 0 ≤ most) (ht : termErr base x.length place = 0) :
    PCall Tryz.prog G 124 [.agg (logC base bt x), iV place, iV most] (.tup [rowsV (behind base x place most), iV 0]) := by
  obtain ⟨b1, b2, b3, b4, b5⟩ := last_c' base bt x h
  have hr := termErr_range ht
  have e1 : IntKind.i64.wrap (place - base) = place - base := IntWalk.i64_in _ (by omega)
  have p1 : ¬ place < 0 := by omega
  have p2 : ¬ 1048576 < place := by omega
  have p3 : ¬ most < 0 := by omega
  have p4 : 0 ≤ place - base := by omega
  have hcl : ∀ n m : Nat, UL 10 (((x.map Item.row).drop n).take m) ∧ (((x.map Item.row).drop n).take m).length ≤ 1000000 := fun n m => ⟨ul_take (ul_drop (ul_rows x)), by simp; omega⟩
  have htk : (x.map Item.row).take x.length = x.map Item.row := List.take_of_length_le (by simp)
  refine pcallc mixed Tryz.func124 ac_ledger_Behind ?_
  repeat' (first | (with_reducible first | refine Cn (fun h => ?_) fun h => ?_ | refine And.intro ?_ ?_ | refine wR ?_ | exact wr _ _ | refine wa ?_ | apply awp_join | refine q1 (by exact checkLog_c _ _ _ (by omega)) ?_ | refine q1d (by exact checkLog_c _ _ _ (by omega)) ?_ | refine q (term_c _ _ _ _ ⟨b1, b2⟩ b3 hp) ?_ | refine qd (term_c _ _ _ _ ⟨b1, b2⟩ b3 hp) ?_ | refine qz (term_c _ _ _ _ ⟨b1, b2⟩ b3 hp) ?_ | refine q (cloneItems_c _ (hcl _ _).1 (hcl _ _).2) ?_ | refine qd (cloneItems_c _ (hcl _ _).1 (hcl _ _).2) ?_ | refine qz (cloneItems_c _ (hcl _ _).1 (hcl _ _).2) ?_) | (with_reducible refine CallZ.z ?_) | simp -dsimp [go_sem, htk, h, ht, e1, p1, p2, p3, p4])
  all_goals first | omega | exact ul_rows _ | exact ul_drop (ul_rows _) | skip
  unfold behind
  rw [List.map_take, List.map_drop]
  split
  · rfl
  · rename_i hlt
    rw [List.take_of_length_le (by simp; omega), List.take_of_length_le (by simp)]
theorem behindErr_c (base bt : Int) (x : List Item) (place most : Int) (h : checkLog base bt x = 0) (hp : 0 ≤ place ∧ place ≤ 1048576) (hm : 0 ≤ most) (ht : termErr base x.length place ≠ 0) :
    PCall Tryz.prog G 124 [.agg (logC base bt x), iV place, iV most] (.tup [rowsV [], iV (termErr base x.length place)]) := by
  have ht1 : (termErr base x.length place != 0) = true := by simpa using ht
  obtain ⟨b1, b2, b3, b4, b5⟩ := last_c' base bt x h
  have p1 : ¬ place < 0 := by omega
  have p2 : ¬ 1048576 < place := by omega
  have p3 : ¬ most < 0 := by omega
  refine pcallc mixed Tryz.func124 ac_ledger_Behind ?_
  repeat' (first | (with_reducible first | refine Cn (fun h => ?_) fun h => ?_ | refine And.intro ?_ ?_ | refine wR ?_ | exact wr _ _ | refine wa ?_ | apply awp_join | refine q1 (by exact checkLog_c _ _ _ (by omega)) ?_ | refine q1d (by exact checkLog_c _ _ _ (by omega)) ?_ | refine q (term_c _ _ _ _ ⟨b1, b2⟩ b3 hp) ?_ | refine qd (term_c _ _ _ _ ⟨b1, b2⟩ b3 hp) ?_ | refine qz (term_c _ _ _ _ ⟨b1, b2⟩ b3 hp) ?_) | (with_reducible refine CallZ.z ?_) | simp -dsimp [go_sem, h, ht1, p1, p2, p3])
theorem trim_c (base bt : Int) (x : List Item) (place : Int) (h : checkLog base bt x = 0) (hp : i64 place) (ht : termErr base x.length place = 0) :
    PCall Tryz.prog G 129 [.agg (logC base bt x), iV place] (.tup [.agg (logC place (termAt base bt x place) (x.drop (place - base).toNat)), iV 0]) := by
  obtain ⟨b1, b2, b3, b4, b5⟩ := last_c' base bt x h
  have b6 := last_room base bt x h
  have hr := termErr_range ht
  have e1 : IntKind.i64.wrap (place - base) = place - base := IntWalk.i64_in _ (by omega)
  have hcl : ∀ n : Nat, UL 10 ((x.map Item.row).drop n) ∧ ((x.map Item.row).drop n).length ≤ 1000000 := fun n => ⟨ul_drop (ul_rows x), by simp; omega⟩
  have htk : (x.map Item.row).take x.length = x.map Item.row := List.take_of_length_le (by simp)
  refine pcallc mixed Tryz.func129 ac_ledger_Trim ?_
  repeat' (first | (with_reducible first | refine Cn (fun h => ?_) fun h => ?_ | refine And.intro ?_ ?_ | refine wR ?_ | exact wr _ _ | refine wa ?_ | apply awp_join | refine q1 (by exact checkLog_c _ _ _ (by omega)) ?_ | refine q1d (by exact checkLog_c _ _ _ (by omega)) ?_ | refine q (termI_c _ _ _ _ ⟨b1, b6⟩ b3 hp) ?_ | refine qd (termI_c _ _ _ _ ⟨b1, b6⟩ b3 hp) ?_ | refine qz (termI_c _ _ _ _ ⟨b1, b6⟩ b3 hp) ?_ | refine q (cloneItems_c _ (hcl _).1 (hcl _).2) ?_ | refine qd (cloneItems_c _ (hcl _).1 (hcl _).2) ?_ | refine qz (cloneItems_c _ (hcl _).1 (hcl _).2) ?_) | (with_reducible refine CallZ.z ?_) | simp -dsimp [go_sem, htk, h, ht, e1])
  all_goals first | omega | exact ul_rows _ | (simp [List.map_drop]; done) | skip
end Go.Proofs.YtkkleopmambcnaaGreatDoor
set_option linter.unusedVariables false
set_option linter.unusedSimpArgs false
set_option maxRecDepth 100000
set_option maxHeartbeats 8000000
namespace Go.Proofs.YtkkleopmambcnaaGreatDoor
open Go Go.RowKit Go.Proofs.AE
structure Rcd where
  kind : Int
  term : Int
  fr : Int
  index : Int
  item : Item
  sidx : Int
  sterm : Int
  mach : Mach
def noSnap (r : Rcd) : Bool := r.sidx == 0 && r.sterm == 0 && r.mach.next == 0 && r.mach.clis.isEmpty && r.mach.sto.now == 0 && r.mach.sto.ents.isEmpty
def checkSnap (i t : Int) (m : Mach) : Int := if okNumber i = false ∨ okNumber t = false then 2 else checkM m
def checkRc (r : Rcd) : Int :=
  if r.kind < 1 ∨ 3 < r.kind then 3
  else if (r.kind ≠ 1 ∧ (r.term ≠ 0 ∨ r.fr ≠ 0)) ∨ (r.kind ≠ 2 ∧ (r.index ≠ 0 ∨ r.item ≠ zeroItem)) ∨ (r.kind ≠ 3 ∧ noSnap r = false) then 8
  else if r.kind = 1 then (if okNumber r.term = false ∨ r.fr < -1 ∨ 3 ≤ r.fr then 2 else 0)
  else if r.kind = 2 then (if okNumber r.index = false then 2 else r.item.check)
  else checkSnap r.sidx r.sterm r.mach
def threeB (n : Int) : List UInt8 := [smallB (n / 65536), smallB (n / 256), smallB n]
def valB3 (a b c : UInt8) : Int := a.toNat * 65536 + b.toNat * 256 + c.toNat
def encRc (r : Rcd) : List UInt8 :=
  if r.kind = 1 then 1 :: (threeB r.term ++ [smallB (r.fr + 1)])
  else if r.kind = 2 then 2 :: (threeB r.index ++ itemB r.item)
  else 3 :: (threeB r.sidx ++ (threeB r.sterm ++ machB r.mach))
def frameB (r : Rcd) : List UInt8 := threeB (encRc r).length ++ encRc r
def tapeB (l : List Rcd) : List UInt8 := l.flatMap frameB
def zeroRc : Rcd := ⟨0, 0, 0, 0, zeroItem, 0, 0, zeroM⟩
def decRc (b : List UInt8) : Rcd × Bool :=
  match b with
  | [1, x, y, z, f] => let r : Rcd := ⟨1, valB3 x y z, (f.toNat : Int) - 1, 0, zeroItem, 0, 0, zeroM⟩; (r, checkRc r == 0)
  | 2 :: x :: y :: z :: t => if t = [] then (zeroRc, false) else let r : Rcd := ⟨2, 0, 0, valB3 x y z, (decItem t).1, 0, 0, zeroM⟩; (r, (decItem t).2 == 0 && checkRc r == 0)
  | 3 :: x :: y :: z :: u :: v :: w :: t => if t = [] then (zeroRc, false) else let r : Rcd := ⟨3, 0, 0, 0, zeroItem, valB3 x y z, valB3 u v w, (decM t).1⟩; (r, (decM t).2 == 0 && checkRc r == 0)
  | _ => (zeroRc, false)
def recGo : Nat → List UInt8 → List Rcd × Nat
  | 0, _ => ([], 0)
  | n + 1, d => match d with
    | x :: y :: z :: t =>
      if (t.length : Int) < valB3 x y z then ([], 0)
      else if (decRc (t.take (valB3 x y z).toNat)).2 = false then ([], 0)
      else ((decRc (t.take (valB3 x y z).toNat)).1 :: (recGo n (t.drop (valB3 x y z).toNat)).1, 3 + (valB3 x y z).toNat + (recGo n (t.drop (valB3 x y z).toNat)).2)
    | _ => ([], 0)
def recB (d : List UInt8) : List Rcd × Nat := recGo d.length d
theorem three_back {n : Int} (h0 : 0 ≤ n) (h1 : n < 16777216) : valB3 (smallB (n / 65536)) (smallB (n / 256)) (smallB n) = n := by
  unfold valB3
  have a := smallB_toNat (n := n / 65536) (by omega) (by omega)
  unfold smallB at a ⊢
  rw [UInt8.toNat_ofNat', UInt8.toNat_ofNat', UInt8.toNat_ofNat']
  omega
theorem num3 {n : Int} (h : okNumber n = true) : 0 ≤ n ∧ n < 16777216 := by unfold okNumber at h; simp at h; omega
theorem enc_len {r : Rcd} (h : checkRc r = 0) : 5 ≤ (encRc r).length ∧ (encRc r).length ≤ 13600 := by
  unfold checkRc at h
  unfold encRc
  split at h
  · cases h
  · split at h
    · cases h
    · rename_i h1 h2
      split at h
      · rename_i h3
        rw [if_pos h3]; simp [threeB]
      · rename_i h3
        rw [if_neg h3]
        split at h
        · rename_i h4
          rw [if_pos h4]
          split at h
          · cases h
          · have := itemB_short h; have := itemB_pos r.item
            simp only [List.length_cons, List.length_append, threeB, List.length_nil]; omega
        · rename_i h4
          rw [if_neg h4]
          unfold checkSnap at h
          split at h
          · cases h
          · have := machB_len (checkM_iff.1 h)
            have := machB_pos r.mach
            simp only [List.length_cons, List.length_append, threeB, List.length_nil]; omega
theorem noSnap_iff {r : Rcd} : noSnap r = true ↔ r.sidx = 0 ∧ r.sterm = 0 ∧ r.mach = zeroM := by
  obtain ⟨k, t, f, i, x, si, st, ⟨⟨now, ents⟩, next, clis⟩⟩ := r
  unfold noSnap zeroM zeroS
  simp only [Bool.and_eq_true, beq_iff_eq, List.isEmpty_iff, Mach.mk.injEq, Sto.mk.injEq]
  constructor
  · rintro ⟨⟨⟨⟨⟨a, b⟩, c⟩, d⟩, e⟩, f⟩; exact ⟨a, b, ⟨e, f⟩, c, d⟩
  · rintro ⟨a, b, ⟨e, f⟩, c, d⟩; exact ⟨⟨⟨⟨⟨a, b⟩, c⟩, d⟩, e⟩, f⟩
theorem rc_cases {r : Rcd} (h : checkRc r = 0) :
    (∃ t f, r = ⟨1, t, f, 0, zeroItem, 0, 0, zeroM⟩ ∧ okNumber t = true ∧ -1 ≤ f ∧ f < 3) ∨ (∃ i x, r = ⟨2, 0, 0, i, x, 0, 0, zeroM⟩ ∧ okNumber i = true ∧ x.check = 0) ∨ (∃ i t m, r = ⟨3, 0, 0, 0, zeroItem, i, t, m⟩ ∧ okNumber i = true ∧ okNumber t = true ∧ OkM m) := by
  unfold checkRc at h
  split at h
  · cases h
  · rename_i h1
    split at h
    · cases h
    · rename_i h2
      obtain ⟨k, t, f, i, x, si, st, m⟩ := r
      simp only at h h1 h2
      have hs : k ≠ 3 → si = 0 ∧ st = 0 ∧ m = zeroM := fun hk => by
        have : noSnap ⟨k, t, f, i, x, si, st, m⟩ = true := by
          cases hn : noSnap ⟨k, t, f, i, x, si, st, m⟩ with
          | true => rfl
          | false => exact absurd (.inr (.inr ⟨hk, hn⟩)) h2
        exact noSnap_iff.1 this
      have hi : k ≠ 2 → i = 0 ∧ x = zeroItem := fun hk => by
        refine ⟨?_, ?_⟩
        · by_cases e : i = 0; exact e; exact absurd (.inr (.inl ⟨hk, .inl e⟩)) h2
        · by_cases e : x = zeroItem; exact e; exact absurd (.inr (.inl ⟨hk, .inr e⟩)) h2
      have hm : k ≠ 1 → t = 0 ∧ f = 0 := fun hk => by
        refine ⟨?_, ?_⟩
        · by_cases e : t = 0; exact e; exact absurd (.inl ⟨hk, .inl e⟩) h2
        · by_cases e : f = 0; exact e; exact absurd (.inl ⟨hk, .inr e⟩) h2
      split at h
      · rename_i h3
        subst h3
        obtain ⟨rfl, rfl, rfl⟩ := hs (by omega)
        obtain ⟨rfl, rfl⟩ := hi (by omega)
        split at h
        · cases h
        · rename_i h4
          simp only [not_or, Bool.not_eq_false] at h4
          exact .inl ⟨t, f, rfl, h4.1, by omega, by omega⟩
      · rename_i h3
        obtain ⟨rfl, rfl⟩ := hm h3
        split at h
        · rename_i h4
          subst h4
          obtain ⟨rfl, rfl, rfl⟩ := hs (by omega)
          split at h
          · cases h
          · rename_i h5
            exact .inr (.inl ⟨i, x, rfl, by simpa using h5, h⟩)
        · rename_i h4
          have hk : k = 3 := by omega
          subst hk
          obtain ⟨rfl, rfl⟩ := hi (by omega)
          unfold checkSnap at h
          split at h
          · cases h
          · rename_i h5
            simp only [not_or, Bool.not_eq_false] at h5
            exact .inr (.inr ⟨si, st, m, rfl, h5.1, h5.2, checkM_iff.1 h⟩)
theorem dec_enc {r : Rcd} (h : checkRc r = 0) : decRc (encRc r) = (r, true) := by
  have hc := h
  rcases rc_cases h with ⟨t, f, rfl, h1, h2, h3⟩ | ⟨i, x, rfl, h1, h2⟩ | ⟨i, t, m, rfl, h1, h2, h3⟩
  · have a := num3 h1
    have e := three_back a.1 a.2
    have s := smallB_toNat (n := f + 1) (by omega) (by omega)
    have hf : ((smallB (f + 1)).toNat : Int) - 1 = f := by rw [s]; omega
    unfold encRc threeB decRc
    simp only [if_true, List.cons_append, List.nil_append, e, hf, hc]
    rfl
  · have a := num3 h1
    have e := three_back a.1 a.2
    have hp := itemB_pos x
    have hne : itemB x ≠ [] := fun h => by rw [h] at hp; simp at hp
    unfold encRc threeB decRc
    rw [if_neg (by show ¬ (2 : Int) = 1; omega), if_pos (by rfl)]
    simp only [List.cons_append, List.nil_append, hne, if_false, e, dec_back h2, hc]
    rfl
  · have a := num3 h1
    have b := num3 h2
    have e1 := three_back a.1 a.2
    have e2 := three_back b.1 b.2
    have hp := machB_pos m
    have hne : machB m ≠ [] := fun h => by rw [h] at hp; simp at hp
    have hl := machB_len h3
    unfold encRc threeB decRc
    rw [if_neg (by show ¬ (3 : Int) = 1; omega), if_neg (by show ¬ (3 : Int) = 2; omega)]
    simp only [List.cons_append, List.nil_append, hne, if_false, e1, e2, decM_back h3 (by omega), hc]
    rfl
theorem three_len (n : Int) : (threeB n).length = 3 := rfl
theorem frame_len (r : Rcd) : (frameB r).length = 3 + (encRc r).length := by unfold frameB; rw [List.length_append, three_len]
theorem tape_cons (r : Rcd) (l : List Rcd) : tapeB (r :: l) = frameB r ++ tapeB l := by unfold tapeB; rw [List.flatMap_cons]
theorem tape_app (a b : List Rcd) : tapeB (a ++ b) = tapeB a ++ tapeB b := by unfold tapeB; rw [List.flatMap_append]
theorem rec_nil (m : Nat) : recGo m [] = ([], 0) := by cases m <;> rfl
theorem rec_one {r : Rcd} (h : checkRc r = 0) (n : Nat) (t : List UInt8) : recGo (n + 1) (frameB r ++ t) = (r :: (recGo n t).1, (frameB r).length + (recGo n t).2) := by
  obtain ⟨l1, l2⟩ := enc_len h
  have e := three_back (n := ((encRc r).length : Int)) (by omega) (by omega)
  rw [frame_len]
  unfold frameB threeB
  simp only [List.cons_append, List.nil_append, recGo, e, Int.toNat_natCast, List.length_append]
  rw [if_neg (by push_cast; omega), List.take_left' rfl, List.drop_left' rfl, dec_enc h]
  simp
theorem rec_app : ∀ (l : List Rcd) (tail : List UInt8) (n : Nat), (∀ r ∈ l, checkRc r = 0) → l.length ≤ n → (∀ m, recGo m tail = ([], 0)) → recGo n (tapeB l ++ tail) = (l, (tapeB l).length)
  | [], tail, n, _, _, ht => by simpa [tapeB] using ht n
  | r :: l, tail, n, h, hn, ht => by
    obtain ⟨n, rfl⟩ : ∃ k, n = k + 1 := ⟨n - 1, by simp at hn; omega⟩
    have ih := rec_app l tail n (fun x hx => h x (List.mem_cons_of_mem _ hx)) (by simpa using hn) ht
    rw [tape_cons, List.append_assoc, rec_one (h r (List.mem_cons_self ..)), ih, List.length_append]
theorem torn_tail {r : Rcd} (h : checkRc r = 0) {k : Nat} (hk : k < (frameB r).length) (m : Nat) : recGo m ((frameB r).take k) = ([], 0) := by
  obtain ⟨l1, l2⟩ := enc_len h
  rw [frame_len] at hk
  have e := three_back (n := ((encRc r).length : Int)) (by omega) (by omega)
  cases m with
  | zero => rfl
  | succ m =>
    unfold frameB threeB
    match k, hk with
    | 0, _ => rfl
    | 1, _ => rfl
    | 2, _ => rfl
    | k + 3, hk =>
      simp only [List.cons_append, List.nil_append, List.take_succ_cons, recGo, e]
      rw [if_pos (by rw [List.length_take]; push_cast; omega)]
theorem tape_take : ∀ (l : List Rcd) (k : Nat), (∀ r ∈ l, checkRc r = 0) → ∃ j tail, j ≤ l.length ∧ (tapeB l).take k = tapeB (l.take j) ++ tail ∧ (∀ m, recGo m tail = ([], 0)) ∧ (tapeB (l.take j)).length ≤ k ∧ (j < l.length → k < (tapeB (l.take (j + 1))).length)
  | [], k, _ => ⟨0, [], Nat.le_refl _, by simp [tapeB], rec_nil, by simp [tapeB], fun h => absurd h (Nat.lt_irrefl _)⟩
  | r :: l, k, h => by
    have hr := h r (List.mem_cons_self ..)
    by_cases hk : k < (frameB r).length
    · refine ⟨0, (frameB r).take k, Nat.zero_le _, ?_, torn_tail hr hk, by simp [tapeB], fun _ => ?_⟩
      · rw [tape_cons, List.take_append_of_le_length (by omega)]; simp [tapeB]
      · rw [List.take_succ_cons, List.take_zero, tape_cons]; simp [tapeB]; omega
    · obtain ⟨j, tail, h1, h2, h3, h4, h5⟩ := tape_take l (k - (frameB r).length) fun x hx => h x (List.mem_cons_of_mem _ hx)
      refine ⟨j + 1, tail, by simpa using h1, ?_, h3, ?_, fun hj => ?_⟩
      · rw [tape_cons, List.take_succ_cons, tape_cons, List.append_assoc, ← h2, List.take_append, List.take_of_length_le (by omega)]
      · rw [List.take_succ_cons, tape_cons, List.length_append]; omega
      · have := h5 (by simpa using hj)
        rw [List.take_succ_cons, tape_cons, List.length_append]; omega
theorem take_len_le (l : List Rcd) : l.length ≤ (tapeB l).length := by
  induction l with
  | nil => simp
  | cons r l ih => rw [tape_cons, List.length_append, frame_len, List.length_cons]; omega
theorem recB_take {l : List Rcd} (h : ∀ r ∈ l, checkRc r = 0) (k : Nat) : ∃ j, j ≤ l.length ∧ recB ((tapeB l).take k) = (l.take j, (tapeB (l.take j)).length) ∧ (tapeB (l.take j)).length ≤ k ∧ (j < l.length → k < (tapeB (l.take (j + 1))).length) ∧ (tapeB l).take (tapeB (l.take j)).length = tapeB (l.take j) := by
  obtain ⟨j, tail, h1, h2, h3, h4, h5⟩ := tape_take l k h
  refine ⟨j, h1, ?_, h4, h5, ?_⟩
  · unfold recB
    rw [h2]
    refine rec_app (l.take j) tail _ (fun r hr => h r (List.mem_of_mem_take hr)) ?_ h3
    have := take_len_le (l.take j)
    rw [List.length_append]; omega
  · have e : tapeB l = tapeB (l.take j) ++ tapeB (l.drop j) := by rw [← tape_app, List.take_append_drop]
    rw [e, List.take_left' rfl]
theorem recB_mono {l : List Rcd} {k n : Nat} {j : Nat} (hj : j ≤ l.length) (hk : (tapeB (l.take j)).length ≤ k) {i : Nat} (hi : i ≤ l.length) (h5 : i < l.length → k < (tapeB (l.take (i + 1))).length) : j ≤ i := by
  apply Classical.not_not.1
  intro hlt
  have hlt : i < j := by omega
  have h := h5 (by omega)
  have hp : (tapeB (l.take (i + 1))).length ≤ (tapeB (l.take j)).length := by
    have e : l.take j = l.take (i + 1) ++ (l.take j).drop (i + 1) := by
      conv => lhs; rw [← List.take_append_drop (i + 1) (l.take j)]
      rw [List.take_take, Nat.min_eq_left (by omega)]
    rw [e, tape_app, List.length_append]; omega
  omega
end Go.Proofs.YtkkleopmambcnaaGreatDoor
set_option linter.unusedVariables false
set_option linter.unusedSimpArgs false
set_option maxRecDepth 100000
set_option maxHeartbeats 8000000
namespace Go.Proofs.YtkkleopmambcnaaGreatDoor
open Go Go.RowKit Go.Proofs.AE
structure Lg where
  base : Int
  bt : Int
  items : List Item
def Lg.c (g : Lg) : List C := logC g.base g.bt g.items
def Lg.check (g : Lg) : Int := checkLog g.base g.bt g.items
def zeroLg : Lg := ⟨0, 0, []⟩
structure Dsk where
  term : Int
  fr : Int
  sidx : Int
  sterm : Int
  mach : Mach
  log : Lg
def Dsk.c (d : Dsk) : List C := [iC d.term, iC d.fr, iC d.sidx, iC d.sterm] ++ d.mach.c ++ d.log.c
def zeroD : Dsk := ⟨0, 0, 0, 0, zeroM, zeroLg⟩
def newD : Dsk := ⟨0, -1, 0, 0, newM, zeroLg⟩
def lineD (g : Lg) (place : Int) (x : Item) : Lg × Int :=
  if place ≤ g.base then (g, 0)
  else if g.base + g.items.length + 1 < place then (g, 10)
  else if checkLog g.base g.bt (g.items.take (place - g.base - 1).toNat ++ [x]) ≠ 0 then (g, 10)
  else (⟨g.base, g.bt, g.items.take (place - g.base - 1).toNat ++ [x]⟩, 0)
def restD (g : Lg) (i t : Int) : Lg :=
  if termErr g.base g.items.length i = 0 ∧ termAt g.base g.bt g.items i = t then ⟨i, t, g.items.drop (i - g.base).toNat⟩ else ⟨i, t, []⟩
def foldStep (d : Dsk) (r : Rcd) : Dsk × Int :=
  if checkRc r ≠ 0 then (zeroD, checkRc r)
  else if r.kind = 1 then ({ d with term := r.term, fr := r.fr }, 0)
  else if r.kind = 2 then (if (lineD d.log r.index r.item).2 ≠ 0 then (zeroD, (lineD d.log r.index r.item).2) else ({ d with log := (lineD d.log r.index r.item).1 }, 0))
  else if d.sidx < r.sidx then ({ d with sidx := r.sidx, sterm := r.sterm, mach := r.mach, log := restD d.log r.sidx r.sterm }, 0)
  else (d, 0)
def foldGo (d : Dsk) : List Rcd → Dsk × Int
  | [] => (d, 0)
  | r :: l => if (foldStep d r).2 ≠ 0 then (foldStep d r) else foldGo (foldStep d r).1 l
def foldD (l : List Rcd) : Dsk × Int := foldGo newD l
end Go.Proofs.YtkkleopmambcnaaGreatDoor
set_option linter.unusedVariables false
set_option linter.unusedSimpArgs false
set_option maxRecDepth 100000
set_option maxHeartbeats 8000000
namespace Go.Proofs.YtkkleopmambcnaaGreatDoor
open Go Go.RowKit Go.Proofs.AE
theorem foldGo_app : ∀ (a b : List Rcd) (d : Dsk), (foldGo d a).2 = 0 → foldGo d (a ++ b) = foldGo (foldGo d a).1 b
  | [], b, d, _ => rfl
  | r :: a, b, d, h => by
    have e : ∀ l, foldGo d (r :: l) = if (foldStep d r).2 ≠ 0 then foldStep d r else foldGo (foldStep d r).1 l := fun l => rfl
    rw [e] at h
    rw [List.cons_append, e, e]
    by_cases hs : (foldStep d r).2 ≠ 0
    · rw [if_pos hs] at h; exact absurd h hs
    · rw [if_neg hs] at h
      rw [if_neg hs, if_neg hs]; exact foldGo_app a b (foldStep d r).1 h
theorem foldGo_one (d : Dsk) (r : Rcd) : foldGo d [r] = foldStep d r := by
  unfold foldGo
  split
  · rfl
  · rename_i h
    have : (foldStep d r).2 = 0 := by simpa using h
    simp only [foldGo]
    rw [← this]
def lastT (t : Int) (a : List Item) : Int := match a.getLast? with | some y => y.term | none => t
def lastM (m : Int) (a : List Item) : Int := match a.getLast? with | some y => y.time | none => m
theorem lastT_cons (t : Int) (x : Item) (a : List Item) : lastT t (x :: a) = lastT x.term a := by
  unfold lastT; cases a with
  | nil => rfl
  | cons y a => rw [List.getLast?_cons_cons]; simp [List.getLast?_cons]
theorem lastM_cons (t : Int) (x : Item) (a : List Item) : lastM t (x :: a) = lastM x.time a := by
  unfold lastM; cases a with
  | nil => rfl
  | cons y a => rw [List.getLast?_cons_cons]; simp [List.getLast?_cons]
theorem chk_app : ∀ (a b : List Item) (t m : Int), chk (a ++ b) t m = (chk a t m && chk b (lastT t a) (lastM m a))
  | [], b, t, m => rfl
  | x :: a, b, t, m => by
    have ih := chk_app a b x.term x.time
    simp only [List.cons_append, chk, ih, lastT_cons, lastM_cons, Bool.and_assoc]
theorem chk_all : ∀ {x : List Item} {t m : Int}, chk x t m = true → ∀ y ∈ x, y.check = 0 ∧ t ≤ y.term ∧ m ≤ y.time
  | [], _, _, _, y, hy => by cases hy
  | x :: l, t, m, h, y, hy => by
    simp only [chk, Bool.and_eq_true, beq_iff_eq, decide_eq_true_eq] at h
    rcases List.mem_cons.1 hy with rfl | hy
    · exact ⟨h.1, h.2.1, h.2.2.1⟩
    · obtain ⟨a, b, c⟩ := chk_all h.2.2.2 y hy
      exact ⟨a, by omega, by omega⟩
def markRc (t f : Int) : Rcd := ⟨1, t, f, 0, zeroItem, 0, 0, zeroM⟩
theorem markRc_ok {t f : Int} (ht : 1 ≤ t ∧ t ≤ 1048576) (hf : -1 ≤ f ∧ f < 3) : checkRc (markRc t f) = 0 := by
  have hn : okNumber t = true := by unfold okNumber; simp; omega
  have hs : noSnap (markRc t f) = true := rfl
  unfold checkRc
  rw [hs]
  simp [markRc, hn]
  omega
theorem mark_step {t f : Int} (ht : 1 ≤ t ∧ t ≤ 1048576) (hf : -1 ≤ f ∧ f < 3) (d : Dsk) : foldStep d (markRc t f) = ({ d with term := t, fr := f }, 0) := by
  unfold foldStep
  rw [if_neg (by rw [markRc_ok ht hf]; simp), if_pos (show (markRc _ _).kind = 1 from rfl)]
  rfl
def loadRc (i t : Int) (m : Mach) : Rcd := ⟨3, 0, 0, 0, zeroItem, i, t, m⟩
theorem loadRc_ok {i t : Int} {m : Mach} (hi : 1 ≤ i ∧ i ≤ 1048576) (ht : 1 ≤ t ∧ t ≤ 1048576) (hm : OkM m) : checkRc (loadRc i t m) = 0 := by
  have h1 : okNumber i = true := by unfold okNumber; simp; omega
  have h2 : okNumber t = true := by unfold okNumber; simp; omega
  unfold checkRc checkSnap
  simp [loadRc, h1, h2, checkM_iff.2 hm]
theorem load_step {i t : Int} {m : Mach} (hi : 1 ≤ i ∧ i ≤ 1048576) (ht : 1 ≤ t ∧ t ≤ 1048576) (hm : OkM m) (d : Dsk) :
    foldStep d (loadRc i t m) = (if d.sidx < i then { d with sidx := i, sterm := t, mach := m, log := restD d.log i t } else d, 0) := by
  unfold foldStep
  rw [if_neg (by rw [loadRc_ok hi ht hm]; simp), if_neg (by show ¬ (3 : Int) = 1; omega), if_neg (by show ¬ (3 : Int) = 2; omega)]
  by_cases h : d.sidx < i
  · rw [if_pos (show d.sidx < (loadRc i t m).sidx from h), if_pos h]; rfl
  · rw [if_neg (show ¬ d.sidx < (loadRc i t m).sidx from h), if_neg h]
structure OkD (d : Dsk) : Prop where
  log : d.log.check = 0
  mach : OkM d.mach
theorem newM_ok : OkM newM := by
  refine checkM_iff.1 ?_
  decide
theorem newD_ok : OkD newD := ⟨by decide, newM_ok⟩
theorem chk_drop {x : List Item} {t m : Int} (h : chk x t m = true) (k : Nat) {t' : Int} (ht : ∀ y, (x.take k).getLast? = some y → t' ≤ y.term) (hk : 0 < k) (hl : k ≤ x.length) : chk (x.drop k) t' 0 = true := by
  rw [← List.take_append_drop k x, chk_app] at h
  simp only [Bool.and_eq_true] at h
  obtain ⟨y, hy⟩ : ∃ y, (x.take k).getLast? = some y := by
    cases hq : (x.take k).getLast? with
    | some y => exact ⟨y, rfl⟩
    | none =>
      rw [List.getLast?_eq_none_iff] at hq
      have := congrArg List.length hq
      rw [List.length_take, List.length_nil] at this
      omega
  have h2 := h.2
  have e1 : lastT t (x.take k) = y.term := by unfold lastT; rw [hy]
  have e2 : lastM m (x.take k) = y.time := by unfold lastM; rw [hy]
  rw [e1, e2] at h2
  have ht := ht y hy
  cases hd : x.drop k with
  | nil => rfl
  | cons z l =>
    rw [hd] at h2
    simp only [chk, Bool.and_eq_true, beq_iff_eq, decide_eq_true_eq] at h2 ⊢
    have hym : y ∈ x := List.mem_of_mem_take (List.mem_of_getLast? hy)
    obtain ⟨a, b, c, e⟩ := h2
    obtain ⟨_, _, _, d2⟩ : 1 ≤ z.term ∧ z.term ≤ 1048576 ∧ 0 ≤ z.time ∧ z.time ≤ 1073741824 := by
      have := item_ok a; exact ⟨this.1, this.2.1, this.2.2.1, this.2.2.2.1⟩
    exact ⟨a, by omega, by omega, e⟩
theorem checkLog_iff {base bt : Int} {x : List Item} : checkLog base bt x = 0 ↔ (0 ≤ base ∧ 0 ≤ bt ∧ bt ≤ 1048576 ∧ (base = 0 ↔ bt = 0) ∧ x.length ≤ 200 ∧ base ≤ 1048576 - x.length) ∧ chk x bt 0 = true := by
  unfold checkLog headOk
  constructor
  · intro h
    split at h
    · rename_i hh
      split at h
      · rename_i hc
        simp at hh
        refine ⟨⟨by omega, by omega, by omega, ?_, by omega, by omega⟩, hc⟩
        have := hh.2.2.2.1
        constructor <;> intro h <;> simp_all
      · cases h
    · cases h
  · rintro ⟨⟨h1, h2, h3, h4, h5, h6⟩, h7⟩
    rw [if_pos ?_, if_pos h7]
    simp
    refine ⟨by omega, by omega, by omega, ?_, by omega, by omega⟩
    rw [Bool.eq_iff_iff]; simpa using h4
theorem restD_ok {g : Lg} (h : g.check = 0) {i t : Int} (hi : 1 ≤ i ∧ i ≤ 1048576) (ht : 1 ≤ t ∧ t ≤ 1048576) : (restD g i t).check = 0 := by
  unfold Lg.check at h ⊢
  obtain ⟨⟨h1, h2, h3, h4, h5, h6⟩, h7⟩ := checkLog_iff.1 h
  unfold restD
  split
  · rename_i hc
    obtain ⟨c1, c2⟩ := hc
    have hr := termErr_range c1
    refine checkLog_iff.2 ⟨⟨by show 0 ≤ i; omega, by show 0 ≤ t; omega, by show t ≤ _; omega, by show i = 0 ↔ t = 0; omega, by simp; omega, by show i ≤ _; simp; omega⟩, ?_⟩
    show chk (g.items.drop (i - g.base).toNat) t 0 = true
    by_cases h0 : i = g.base
    · rw [h0] at c2 ⊢
      have : t = g.bt := by rw [← c2]; unfold termAt; rw [if_neg (by omega), if_pos rfl]
      rw [this]
      simpa using h7
    · refine chk_drop h7 _ ?_ (by omega) (by omega)
      intro y hy
      unfold termAt at c2
      rw [if_neg (by omega), if_neg h0, if_neg (by omega)] at c2
      have e : (i - g.base - 1).toNat = (i - g.base).toNat - 1 := by omega
      rw [List.getLast?_eq_getElem?, List.length_take, Nat.min_eq_left (by omega), List.getElem?_take, if_pos (by omega), ← e] at hy
      rw [hy] at c2
      simp only at c2
      omega
  · refine checkLog_iff.2 ⟨⟨by show 0 ≤ i; omega, by show 0 ≤ t; omega, by show t ≤ _; omega, by show i = 0 ↔ t = 0; omega, by simp, by show i ≤ _; simp; omega⟩, rfl⟩
theorem lineD_ok {g : Lg} (h : g.check = 0) (p : Int) (x : Item) : (lineD g p x).1.check = 0 := by
  unfold lineD
  split
  · exact h
  · split
    · exact h
    · split
      · exact h
      · rename_i h3
        exact Classical.not_not.1 h3
theorem step_ok {d : Dsk} (h : OkD d) (r : Rcd) (he : (foldStep d r).2 = 0) : OkD (foldStep d r).1 := by
  unfold foldStep at he ⊢
  by_cases h1 : checkRc r ≠ 0
  · rw [if_pos h1] at he; exact absurd he h1
  · rw [if_neg h1] at he ⊢
    have hr := Classical.not_not.1 h1
    by_cases h2 : r.kind = 1
    · rw [if_pos h2]; exact ⟨h.log, h.mach⟩
    · rw [if_neg h2] at he ⊢
      by_cases h3 : r.kind = 2
      · rw [if_pos h3] at he ⊢
        by_cases h4 : (lineD d.log r.index r.item).2 ≠ 0
        · rw [if_pos h4] at he; exact absurd he h4
        · rw [if_neg h4]; exact ⟨lineD_ok h.log _ _, h.mach⟩
      · rw [if_neg h3]
        split
        · rcases rc_cases hr with ⟨t, f, rfl, _⟩ | ⟨i, x, rfl, _⟩ | ⟨i, t, m, rfl, a, b, c⟩
          · exact absurd rfl h2
          · exact absurd rfl h3
          · unfold okNumber at a b
            simp at a b
            exact ⟨restD_ok h.log (by omega) (by omega), c⟩
        · exact h
end Go.Proofs.YtkkleopmambcnaaGreatDoor
set_option linter.unusedVariables false
set_option linter.unusedSimpArgs false
set_option maxRecDepth 100000
set_option maxHeartbeats 8000000
namespace Go.Proofs.YtkkleopmambcnaaGreatDoor
open Go Go.RowKit Go.Proofs.AE
def firstNew (x : List Item) : Nat → List Item → Nat → Option Nat
  | _, [], _ => none
  | at', y :: l, i => if (match x[at']? with | some z => z.term == y.term | none => false) then firstNew x (at' + 1) l (i + 1) else some i
end Go.Proofs.YtkkleopmambcnaaGreatDoor
set_option linter.unusedVariables false
set_option linter.unusedSimpArgs false
set_option maxRecDepth 100000
set_option maxHeartbeats 8000000
namespace Go.Proofs.YtkkleopmambcnaaGreatDoor
open Go Go.RowKit Go.Proofs.AE
variable {G : Nat → AV}
def Rcd.c (r : Rcd) : List C := [iC r.kind, iC r.term, iC r.fr, iC r.index, iC r.item.term, iC r.item.time, bC r.item.nop, iC r.item.client, iC r.item.seq, iC r.item.k, sC r.item.key, sC r.item.field, sC r.item.text, iC r.item.n, iC r.sidx, iC r.sterm, iC r.mach.sto.now, .v (.sl (eR r.mach.sto.ents)), iC r.mach.next, .v (.sl (clR r.mach.clis))]
def Rcd.row (r : Rcd) : List V := [iL r.kind, iL r.term, iL r.fr, iL r.index, iL r.item.term, iL r.item.time, .lit (.bool r.item.nop), iL r.item.client, iL r.item.seq, iL r.item.k, sL r.item.key, sL r.item.field, sL r.item.text, iL r.item.n, iL r.sidx, iL r.sterm, iL r.mach.sto.now, .sl (eR r.mach.sto.ents), iL r.mach.next, .sl (clR r.mach.clis)]
theorem tnumber_c (n : Int) : PCall Tryz.prog G 185 [iV n] (bV (okNumber n)) := by
  refine pcallc mixed Tryz.func185 ac_tape_number ?_
  unfold okNumber
  repeat' (first | (with_reducible first | refine Cn (fun h => ?_) fun h => ?_ | refine And.intro ?_ ?_ | refine wR ?_ | exact wr _ _ | refine wa ?_ | apply awp_join) | (with_reducible refine CallZ.z ?_) | simp -dsimp [go_sem])
  all_goals first | (simp_all; done) | (intro hh; simp_all)
def noSnapS (i t : Int) (m : Mach) : Bool := i == 0 && (t == 0 && (m.next == 0 && ((m.clis.length : Int) == 0 && (m.sto.now == 0 && (m.sto.ents.length : Int) == 0))))
theorem noSnap_c (i t : Int) (m : Mach) : PCall Tryz.prog G 188 [.agg ([iC i, iC t] ++ m.c)] (bV (noSnapS i t m)) := by
  obtain ⟨⟨now, es⟩, next, cs⟩ := m
  have h1 : (eR es).length = es.length := by simp
  have h2 : (clR cs).length = cs.length := by simp
  unfold noSnapS
  simp only [Mach.c, List.cons_append, List.nil_append]
  refine pcallc mixed Tryz.func188 ac_tape_noSnap ?_
  repeat' (first | (with_reducible first | refine Cn (fun h => ?_) fun h => ?_ | refine And.intro ?_ ?_ | refine wR ?_ | exact wr _ _ | refine wa ?_ | apply awp_join) | (with_reducible refine CallZ.z ?_) | simp -dsimp [go_sem, h1, h2])
  all_goals first | (simp_all; done) | trace_state
theorem len_empty {α : Type} (l : List α) : ((l.length : Int) == 0) = l.isEmpty := by
  cases l with
  | nil => rfl
  | cons a l => rw [List.isEmpty_cons, beq_eq_false_iff_ne, List.length_cons]; omega
theorem noSnapS_eq (r : Rcd) : noSnapS r.sidx r.sterm r.mach = noSnap r := by
  unfold noSnapS noSnap
  have h1 : ((r.mach.clis.length : Int) == 0) = r.mach.clis.isEmpty := len_empty _
  have h2 : ((r.mach.sto.ents.length : Int) == 0) = r.mach.sto.ents.isEmpty := len_empty _
  rw [h1, h2]
  simp only [Bool.and_assoc]
theorem checkSnap_c (i t : Int) (m : Mach) (h1 : m.sto.Small) (h2 : m.clis.length ≤ 1000000) : PCall Tryz.prog G 158 [.agg ([iC i, iC t] ++ m.c)] (iV (checkSnap i t m)) := by
  have hck := checkM_c (G := G) m h1 h2
  have n1 := tnumber_c (G := G) i
  have n2 := tnumber_c (G := G) t
  unfold checkSnap
  generalize checkM m = v at *
  generalize okNumber i = a at *
  generalize okNumber t = b at *
  obtain ⟨⟨now, es⟩, next, cs⟩ := m
  simp only [Mach.c, List.cons_append, List.nil_append] at *
  cases a <;> cases b
  all_goals
    refine pcallc mixed Tryz.func158 ac_tape_CheckSnap ?_
    repeat' (first | (with_reducible first | refine Cn (fun h => ?_) fun h => ?_ | refine And.intro ?_ ?_ | refine wR ?_ | exact wr _ _ | refine wa ?_ | apply awp_join | refine q n1 ?_ | refine qd n1 ?_ | refine qz n1 ?_ | refine q n2 ?_ | refine qd n2 ?_ | refine qz n2 ?_ | refine q hck ?_ | refine qd hck ?_ | refine qz hck ?_) | (with_reducible refine CallZ.z ?_) | simp -dsimp [go_sem])
  all_goals first | (simp_all; done) | trace_state
def zItem (x : Item) : Bool := x.term == 0 && (x.time == 0 && (!x.nop && (x.client == 0 && (x.seq == 0 && (x.k == 0 && (decide (x.key = ⟨#[]⟩) && (decide (x.field = ⟨#[]⟩) && (decide (x.text = ⟨#[]⟩) && x.n == 0))))))))
theorem zItem_iff {x : Item} : zItem x = true ↔ x = zeroItem := by
  obtain ⟨a, b, c, d, e, f, g, h, i, j⟩ := x
  unfold zItem zeroItem
  cases c <;> simp
theorem checkRc_eq (r : Rcd) : checkRc r = if r.kind < 1 ∨ 3 < r.kind then 3
  else if (r.kind ≠ 1 ∧ (r.term ≠ 0 ∨ r.fr ≠ 0)) ∨ (r.kind ≠ 2 ∧ (r.index ≠ 0 ∨ zItem r.item = false)) ∨ (r.kind ≠ 3 ∧ noSnapS r.sidx r.sterm r.mach = false) then 8
  else if r.kind = 1 then (if okNumber r.term = false ∨ r.fr < -1 ∨ 3 ≤ r.fr then 2 else 0)
  else if r.kind = 2 then (if okNumber r.index = false then 2 else r.item.check)
  else checkSnap r.sidx r.sterm r.mach := by
  unfold checkRc
  rw [noSnapS_eq]
  have e : (zItem r.item = false) = (r.item ≠ zeroItem) := by
    rw [← Bool.not_eq_true, zItem_iff]
  simp only [e]
theorem checkRc_c (r : Rcd) (h1 : r.mach.sto.Small) (h2 : r.mach.clis.length ≤ 1000000) : PCall Tryz.prog G 163 [.agg r.c] (iV (checkRc r)) := by
  rw [checkRc_eq]
  obtain ⟨kind, term, fr, index, ⟨xt, xm, xn, xc, xs, xk, xa, xb, xd, xx⟩, sidx, sterm, ⟨⟨now, es⟩, next, cs⟩⟩ := r
  have hcs := checkSnap_c (G := G) sidx sterm ⟨⟨now, es⟩, next, cs⟩ h1 h2
  have hns := noSnap_c (G := G) sidx sterm ⟨⟨now, es⟩, next, cs⟩
  have n1 := tnumber_c (G := G) term
  have n2 := tnumber_c (G := G) index
  have hci := checkItem_c (G := G) xt xm xn xc xs xk xa xb xd xx
  obtain ⟨Z, hZ⟩ : ∃ Z, zItem ⟨xt, xm, xn, xc, xs, xk, xa, xb, xd, xx⟩ = Z := ⟨_, rfl⟩
  simp only [Item.check, Rcd.c, Mach.c, List.cons_append, List.nil_append] at *
  rw [hZ]
  unfold zItem at hZ
  simp only at hZ
  generalize checkSnap sidx sterm ⟨⟨now, es⟩, next, cs⟩ = V at *
  generalize noSnapS sidx sterm ⟨⟨now, es⟩, next, cs⟩ = S at *
  generalize okNumber term = A at *
  generalize okNumber index = B at *
  generalize checkItem xt xm xn xc xs xk xa xb xd xx = I at *
  by_cases k0 : kind < 1 ∨ 3 < kind
  · rw [if_pos k0]
    by_cases k1 : kind < 1
    · have q1 : decide (kind < 1) = true := decide_eq_true k1
      refine pcallc mixed Tryz.func163 ac_tape_Check ?_
      repeat' (first | (with_reducible first | refine Cn (fun h => ?_) fun h => ?_ | refine And.intro ?_ ?_ | refine wR ?_ | exact wr _ _ | refine wa ?_ | apply awp_join) | (with_reducible refine CallZ.z ?_) | simp -dsimp [go_sem, q1])
      all_goals first | done | (simp_all; done) | (simp_all; omega) | ((repeat' split) <;> simp_all <;> omega) | trace_state
    · have q1 : decide (kind < 1) = false := decide_eq_false k1
      have q2 : decide (3 < kind) = true := decide_eq_true (by omega)
      refine pcallc mixed Tryz.func163 ac_tape_Check ?_
      repeat' (first | (with_reducible first | refine Cn (fun h => ?_) fun h => ?_ | refine And.intro ?_ ?_ | refine wR ?_ | exact wr _ _ | refine wa ?_ | apply awp_join) | (with_reducible refine CallZ.z ?_) | simp -dsimp [go_sem, q1, q2])
      all_goals first | done | (simp_all; done) | (simp_all; omega) | ((repeat' split) <;> simp_all <;> omega) | trace_state
  · rw [if_neg k0]
    have q1 : decide (kind < 1) = false := decide_eq_false (by omega)
    have q2 : decide (3 < kind) = false := decide_eq_false (by omega)
    have hk : kind = 1 ∨ kind = 2 ∨ kind = 3 := by omega
    clear k0
    rcases hk with rfl | rfl | rfl
    · refine pcallc mixed Tryz.func163 ac_tape_Check ?_
      repeat' (first | (with_reducible first | refine Cn (fun h => ?_) fun h => ?_ | refine And.intro ?_ ?_ | refine wR ?_ | exact wr _ _ | refine wa ?_ | apply awp_join | refine q hns ?_ | refine qd hns ?_ | refine qz hns ?_ | refine q n1 ?_ | refine qd n1 ?_ | refine qz n1 ?_) | (with_reducible refine CallZ.z ?_) | simp -dsimp [go_sem, hZ])
      all_goals first | done | (simp_all; done) | (simp_all; omega) | ((repeat' split) <;> simp_all <;> omega) | trace_state
    · refine pcallc mixed Tryz.func163 ac_tape_Check ?_
      repeat' (first | (with_reducible first | refine Cn (fun h => ?_) fun h => ?_ | refine And.intro ?_ ?_ | refine wR ?_ | exact wr _ _ | refine wa ?_ | apply awp_join | refine q hns ?_ | refine qd hns ?_ | refine qz hns ?_ | refine q n2 ?_ | refine qd n2 ?_ | refine qz n2 ?_ | refine q hci ?_ | refine qd hci ?_ | refine qz hci ?_) | (with_reducible refine CallZ.z ?_) | simp -dsimp [go_sem, hZ])
      all_goals first | done | (simp_all; done) | (simp_all; omega) | ((repeat' split) <;> simp_all <;> omega) | trace_state
    · refine pcallc mixed Tryz.func163 ac_tape_Check ?_
      repeat' (first | (with_reducible first | refine Cn (fun h => ?_) fun h => ?_ | refine And.intro ?_ ?_ | refine wR ?_ | exact wr _ _ | refine wa ?_ | apply awp_join | refine q hcs ?_ | refine qd hcs ?_ | refine qz hcs ?_) | (with_reducible refine CallZ.z ?_) | simp -dsimp [go_sem, hZ])
      all_goals first | done | (simp_all; done) | (simp_all; omega) | ((repeat' split) <;> simp_all <;> omega) | trace_state
end Go.Proofs.YtkkleopmambcnaaGreatDoor
set_option linter.unusedVariables false
set_option linter.unusedSimpArgs false
set_option maxRecDepth 100000
set_option maxHeartbeats 8000000
namespace Go.Proofs.YtkkleopmambcnaaGreatDoor
open Go Go.RowKit Go.Proofs.AE
variable {G : Nat → AV}
theorem flat_succ {α : Type} {g : α → List UInt8} {xs : List α} {i : Nat} {x : α} (h : xs[i]? = some x) : (xs.take (i + 1)).flatMap g = (xs.take i).flatMap g ++ g x := by
  rw [List.take_add_one, h, Option.toList_some, List.flatMap_append]; simp
theorem flat_take {α : Type} {g : α → List UInt8} {b : Nat} {xs : List α} (h : ∀ a ∈ xs, (g a).length ≤ b) (i : Nat) : ((xs.take i).flatMap g).length ≤ xs.length * b := by
  have h1 := flat_len (xs.take i) (fun a ha => h a (List.mem_of_mem_take ha))
  have h2 : (xs.take i).length * b ≤ xs.length * b := Nat.mul_le_mul_right _ (by rw [List.length_take]; omega)
  omega
theorem strRows_at {l : List ByteArray} {i : Nat} {t : ByteArray} (h : l[i]? = some t) : (strRows l)[i]? = some [.lit (.string t)] := by simp [strRows, h]
theorem strRows_length (l : List ByteArray) : (strRows l).length = l.length := by simp [strRows]
theorem textB_le {t : ByteArray} (h : t.size ≤ 255) : (textB t).length ≤ 256 := by rw [textB_len]; omega
theorem wtexts_c (l : List UInt8) (ts : List ByteArray) (hl : l.length ≤ 700000) (hn : ts.length ≤ 255) (ht : ∀ t ∈ ts, t.size ≤ 255) :
    DetCall Tryz.prog G 193 1 (wHp l) [.one (.ptr 0 0), .one (.v (.sl (strRows ts)))] (.tup []) (wHp (l ++ manyB textB ts)) := by
  have hs : l ++ manyB textB ts = l ++ [smallB ts.length] ++ (ts.take ts.length).flatMap textB := by simp [manyB]
  have hfl := flat_take (g := textB) (b := 256) (xs := ts) fun t h => textB_le (ht t h)
  have hsm := wsmall_c (G := G) l ts.length (by omega)
  rw [hs]
  obtain ⟨l0, hl0⟩ : ∃ l0, l ++ [smallB ts.length] = l0 := ⟨_, rfl⟩
  have hl0n : l0.length ≤ 700001 := by rw [← hl0]; simp; omega
  rw [hl0] at hsm ⊢
  have hlen := strRows_length ts
  refine gcallc mixed Tryz.func193 ac_wire_writer_texts ?_
  unfold wHp
  repeat' (first | (with_reducible first | refine Cn (fun h => ?_) fun h => ?_ | refine And.intro ?_ ?_ | refine wR ?_ | exact wr _ _ | refine wa ?_ | apply awp_join | refine qg hsm ?_ | refine qgd hsm ?_) | (with_reducible refine CallZ.z ?_) | simp -dsimp [go_sem, hlen])
  refine awp_loop (fun i : Nat => ⟨[(0, .one (.ptr 0 0)), (10, .one (.v (.sl (strRows ts)))), (11, iV ts.length), (12, iV i)], G, wHp (l0 ++ (ts.take i).flatMap textB)⟩) (fun i => i ≤ ts.length) (fun i => ts.length - i) 0 (weak_auto ?_) (Nat.zero_le _) ?_
  · simp -dsimp [go_sem]
  · intro i hi
    by_cases hil : i < ts.length
    · obtain ⟨t, hx⟩ : ∃ t, ts[i]? = some t := ⟨_, List.getElem?_eq_getElem hil⟩
      have hr := strRows_at hx
      have htt := ht t (List.mem_of_getElem? hx)
      have hfi := hfl i
      have hw := wtext_c (G := G) (l0 ++ (ts.take i).flatMap textB) t (by simp only [List.length_append, List.length_cons, List.length_nil]; omega) (by omega)
      have e1 : l0 ++ (ts.take i).flatMap textB ++ textB t = l0 ++ (ts.take (i + 1)).flatMap textB := by rw [flat_succ hx, List.append_assoc]
      rw [e1] at hw
      have q1 : decide (i < ts.length) = true := by simpa using hil
      have w1 : IntKind.i64.wrap ((i : Int) + 1) = (i : Int) + 1 := IntWalk.i64_in _ (by omega)
      generalize l0 ++ (ts.take i).flatMap textB = a at *
      obtain ⟨b, hb⟩ : ∃ b, l0 ++ (ts.take (i + 1)).flatMap textB = b := ⟨_, rfl⟩
      rw [hb] at hw
      unfold wHp at hw ⊢
      repeat' (first | (with_reducible first | refine Cn (fun h => ?_) fun h => ?_ | refine And.intro ?_ ?_ | refine wR ?_ | exact wr _ _ | refine wa ?_ | apply awp_join | refine qg hw ?_ | refine qgd hw ?_) | (with_reducible refine CallZ.z ?_) | simp -dsimp [go_sem, hr, q1, w1])
      all_goals first
        | omega
        | (refine Again.auto (i + 1) ?_ hil ?_
           · simp -dsimp [go_sem, hb]
           · show ts.length - (i + 1) < ts.length - i; omega)
        | trace_state
    · have q1 : decide (i < ts.length) = false := by simpa using hil
      have hie : i = ts.length := by omega
      rw [hie]
      generalize l0 ++ (ts.take ts.length).flatMap textB = a
      rw [hie] at q1
      unfold wHp
      repeat' (first | (with_reducible first | refine Cn (fun h => ?_) fun h => ?_ | refine And.intro ?_ ?_ | refine wR ?_ | exact wr _ _ | refine wa ?_ | apply awp_join) | (with_reducible refine CallZ.z ?_) | simp -dsimp [go_sem, q1])
      all_goals trace_state
theorem prB_le {p : Pr} (h1 : p.1.size ≤ 255) (h2 : p.2.size ≤ 255) : (prB p).length ≤ 512 := by unfold prB; rw [List.length_append, textB_len, textB_len]; omega
theorem scB_le {s : Sc} (h1 : s.1.size ≤ 255) : (scB s).length ≤ 264 := by unfold scB; rw [List.length_append, textB_len, numB_len]; omega
theorem many_le {α : Type} {g : α → List UInt8} {b : Nat} {l : List α} (hl : l.length ≤ 255) (h : ∀ a ∈ l, (g a).length ≤ b) : (manyB g l).length ≤ 1 + 255 * b := by
  have := many_len h
  have h2 : l.length * b ≤ 255 * b := Nat.mul_le_mul_right _ hl
  omega
theorem valB_split (l : List UInt8) (v : Val) : l ++ valB v = l ++ [smallB v.kind] ++ textB v.text ++ numB v.count ++ [smallB v.pairs.length] ++ v.pairs.flatMap prB ++ manyB textB v.items ++ [smallB v.scores.length] ++ v.scores.flatMap scB := by
  unfold valB manyB; simp
theorem wvalue_c (l : List UInt8) (v : Val) (hl : l.length ≤ 200000) (hv : SizV v) :
    DetCall Tryz.prog G 192 1 (wHp l) [.one (.ptr 0 0), .agg v.c] (.tup []) (wHp (l ++ valB v)) := by
  have hpl := flat_take (g := prB) (b := 512) (xs := v.pairs) fun p h => prB_le (hv.pairs.2 p h).1 (hv.pairs.2 p h).2
  have hsl := flat_take (g := scB) (b := 264) (xs := v.scores) fun p h => scB_le (hv.scores.2 p h).1
  have hil := many_le (g := textB) (b := 256) hv.items.1 fun t h => textB_le (hv.items.2 t h)
  have ht := textB_le hv.text
  have p1 := hv.pairs; have p2 := hv.items; have p3 := hv.scores; have p4 := hv.count; have p5 := hv.text
  rw [valB_split]
  obtain ⟨k, tx, n, ps, is, ss⟩ := v
  simp only [Val.c] at *
  have a1 := wsmall_c (G := G) l k (by omega)
  obtain ⟨x1, h1⟩ : ∃ x, l ++ [smallB k] = x := ⟨_, rfl⟩
  have h1n : x1.length ≤ 200001 := by rw [← h1]; simp; omega
  rw [h1] at a1 ⊢
  have a2 := wtext_c (G := G) x1 tx (by omega) (by omega)
  obtain ⟨x2, h2⟩ : ∃ x, x1 ++ textB tx = x := ⟨_, rfl⟩
  have h2n : x2.length ≤ 200257 := by rw [← h2, List.length_append]; omega
  rw [h2] at a2 ⊢
  have a3 := wnumber_c (G := G) x2 n (by omega) p4
  obtain ⟨x3, h3⟩ : ∃ x, x2 ++ numB n = x := ⟨_, rfl⟩
  have h3n : x3.length ≤ 200265 := by rw [← h3, List.length_append, numB_len]; omega
  rw [h3] at a3 ⊢
  have a4 := wsmall_c (G := G) x3 ps.length (by omega)
  obtain ⟨l0, hl0⟩ : ∃ l0, x3 ++ [smallB ps.length] = l0 := ⟨_, rfl⟩
  have hl0n : l0.length ≤ 200300 := by rw [← hl0]; simp; omega
  rw [hl0] at a4 ⊢
  have hpn : (pR ps).length = ps.length := by simp
  have hsn : (sR ss).length = ss.length := by simp
  refine gcallc mixed Tryz.func192 ac_wire_writer_value ?_
  unfold wHp at *
  repeat' (first | (with_reducible first | refine Cn (fun h => ?_) fun h => ?_ | refine And.intro ?_ ?_ | refine wR ?_ | exact wr _ _ | refine wa ?_ | apply awp_join | refine qg a1 ?_ | refine qgd a1 ?_ | refine qg a2 ?_ | refine qgd a2 ?_ | refine qg a3 ?_ | refine qgd a3 ?_ | refine qg a4 ?_ | refine qgd a4 ?_) | (with_reducible refine CallZ.z ?_) | simp -dsimp [go_sem, hpn])
  refine awp_loop (fun i : Nat => ⟨[(0, .one (.ptr 0 0)), (3, .one (.ptr 2 0)), (26, .one (.v (.sl (pR ps)))), (27, iV ps.length), (28, iV i)], G, wHp (l0 ++ (ps.take i).flatMap prB) ++ [some (.box 91 [iC k, sC tx, iC n, .v (.sl (pR ps)), .v (.sl (strRows is)), .v (.sl (sR ss))])]⟩) (fun i => i ≤ ps.length) (fun i => ps.length - i) 0 (weak_auto ?_) (Nat.zero_le _) ?_
  · simp -dsimp [go_sem]
  · intro i hi
    by_cases hilt : i < ps.length
    · obtain ⟨⟨f, t⟩, hx⟩ : ∃ p, ps[i]? = some p := ⟨_, List.getElem?_eq_getElem hilt⟩
      have hr : (pR ps)[i]? = some [.lit (.string f), .lit (.string t)] := by simp [hx, row_api_Pair]
      have htt := p1.2 _ (List.mem_of_getElem? hx)
      have hfi := hpl i
      simp only at htt
      have b1 := wtext_c (G := G) (l0 ++ (ps.take i).flatMap prB) f (by simp only [List.length_append]; omega) (by omega)
      have b2 := wtext_c (G := G) (l0 ++ (ps.take i).flatMap prB ++ textB f) t (by simp only [List.length_append, textB_len]; omega) (by omega)
      have e1 : l0 ++ (ps.take i).flatMap prB ++ textB f ++ textB t = l0 ++ (ps.take (i + 1)).flatMap prB := by rw [flat_succ hx]; simp [prB]
      rw [e1] at b2
      have q1 : decide (i < ps.length) = true := by simpa using hilt
      have w1 : IntKind.i64.wrap ((i : Int) + 1) = (i : Int) + 1 := IntWalk.i64_in _ (by omega)
      generalize l0 ++ (ps.take i).flatMap prB = a at *
      obtain ⟨b, hb⟩ : ∃ b, l0 ++ (ps.take (i + 1)).flatMap prB = b := ⟨_, rfl⟩
      rw [hb] at b2
      unfold wHp at b1 b2 ⊢
      repeat' (first | (with_reducible first | refine Cn (fun h => ?_) fun h => ?_ | refine And.intro ?_ ?_ | refine wR ?_ | exact wr _ _ | refine wa ?_ | apply awp_join | refine qg b1 ?_ | refine qgd b1 ?_ | refine qg b2 ?_ | refine qgd b2 ?_) | (with_reducible refine CallZ.z ?_) | simp -dsimp [go_sem, hr, q1, w1])
      all_goals first
        | omega
        | (refine Again.auto (i + 1) ?_ hilt ?_
           · simp -dsimp [go_sem, hb]
           · show ps.length - (i + 1) < ps.length - i; omega)
        | trace_state
    · have hie : i = ps.length := by omega
      subst hie
      rw [List.take_length]
      have hpl0 := hpl ps.length
      rw [List.take_length] at hpl0
      obtain ⟨y1, g1⟩ : ∃ x, l0 ++ ps.flatMap prB = x := ⟨_, rfl⟩
      have g1n : y1.length ≤ 340000 := by rw [← g1, List.length_append]; omega
      rw [g1]
      have c1 := wtexts_c (G := G) y1 is (by omega) p2.1 p2.2
      obtain ⟨y2, g2⟩ : ∃ x, y1 ++ manyB textB is = x := ⟨_, rfl⟩
      have g2n : y2.length ≤ 410000 := by rw [← g2, List.length_append]; omega
      rw [g2] at c1 ⊢
      have c2 := wsmall_c (G := G) y2 ss.length (by omega)
      obtain ⟨l1, hl1⟩ : ∃ l1, y2 ++ [smallB ss.length] = l1 := ⟨_, rfl⟩
      have hl1n : l1.length ≤ 500000 := by rw [← hl1]; simp; omega
      rw [hl1] at c2 ⊢
      unfold wHp at c1 c2 ⊢
      repeat' (first | (with_reducible first | refine Cn (fun h => ?_) fun h => ?_ | refine And.intro ?_ ?_ | refine wR ?_ | exact wr _ _ | refine wa ?_ | apply awp_join | refine qg c1 ?_ | refine qgd c1 ?_ | refine qg c2 ?_ | refine qgd c2 ?_) | (with_reducible refine CallZ.z ?_) | simp -dsimp [go_sem, hsn])
      refine awp_loop (fun i : Nat => ⟨[(0, .one (.ptr 0 0)), (51, .one (.v (.sl (sR ss)))), (52, iV ss.length), (53, iV i)], G, wHp (l1 ++ (ss.take i).flatMap scB)⟩) (fun i => i ≤ ss.length) (fun i => ss.length - i) 0 (weak_auto ?_) (Nat.zero_le _) ?_
      · simp -dsimp [go_sem]
      · intro i hi
        by_cases hilt : i < ss.length
        · obtain ⟨⟨f, t⟩, hx⟩ : ∃ p, ss[i]? = some p := ⟨_, List.getElem?_eq_getElem hilt⟩
          have hr : (sR ss)[i]? = some [.lit (.string f), .lit (.int .i64 t)] := by simp [hx, row_api_Score]
          have htt := p3.2 _ (List.mem_of_getElem? hx)
          have hfi := hsl i
          simp only at htt
          have b1 := wtext_c (G := G) (l1 ++ (ss.take i).flatMap scB) f (by simp only [List.length_append]; omega) (by omega)
          have b2 := wnumber_c (G := G) (l1 ++ (ss.take i).flatMap scB ++ textB f) t (by simp only [List.length_append, textB_len]; omega) htt.2
          have e1 : l1 ++ (ss.take i).flatMap scB ++ textB f ++ numB t = l1 ++ (ss.take (i + 1)).flatMap scB := by rw [flat_succ hx]; simp [scB]
          rw [e1] at b2
          have q1 : decide (i < ss.length) = true := by simpa using hilt
          have w1 : IntKind.i64.wrap ((i : Int) + 1) = (i : Int) + 1 := IntWalk.i64_in _ (by omega)
          generalize l1 ++ (ss.take i).flatMap scB = a at *
          obtain ⟨b, hb⟩ : ∃ b, l1 ++ (ss.take (i + 1)).flatMap scB = b := ⟨_, rfl⟩
          rw [hb] at b2
          unfold wHp at b1 b2 ⊢
          repeat' (first | (with_reducible first | refine Cn (fun h => ?_) fun h => ?_ | refine And.intro ?_ ?_ | refine wR ?_ | exact wr _ _ | refine wa ?_ | apply awp_join | refine qg b1 ?_ | refine qgd b1 ?_ | refine qg b2 ?_ | refine qgd b2 ?_) | (with_reducible refine CallZ.z ?_) | simp -dsimp [go_sem, hr, q1, w1])
          all_goals first
            | omega
            | (refine Again.auto (i + 1) ?_ hilt ?_
               · simp -dsimp [go_sem, hb]
               · show ss.length - (i + 1) < ss.length - i; omega)
            | trace_state
        · have hie : i = ss.length := by omega
          subst hie
          rw [List.take_length]
          generalize l1 ++ ss.flatMap scB = a
          unfold wHp
          repeat' (first | (with_reducible first | refine Cn (fun h => ?_) fun h => ?_ | refine And.intro ?_ ?_ | refine wR ?_ | exact wr _ _ | refine wa ?_ | apply awp_join) | (with_reducible refine CallZ.z ?_) | simp -dsimp [go_sem])
          all_goals trace_state
end Go.Proofs.YtkkleopmambcnaaGreatDoor
set_option linter.unusedVariables false
set_option linter.unusedSimpArgs false
set_option maxRecDepth 100000
set_option maxHeartbeats 8000000
namespace Go.Proofs.YtkkleopmambcnaaGreatDoor
open Go Go.RowKit Go.Proofs.AE
variable {G : Nat → AV}
theorem OkM.dom2 {m : Mach} (h : OkM m) : m.sto.Small ∧ m.clis.length ≤ 1000000 := ⟨h.sto.small, by have := h.len; omega⟩
theorem valB_le {v : Val} (h : SizV v) : (valB v).length ≤ 270000 := by
  have p := many_le (g := prB) (b := 512) h.pairs.1 fun p hp => prB_le (h.pairs.2 p hp).1 (h.pairs.2 p hp).2
  have i := many_le (g := textB) (b := 256) h.items.1 fun t ht => textB_le (h.items.2 t ht)
  have s := many_le (g := scB) (b := 264) h.scores.1 fun s hs => scB_le (h.scores.2 s hs).1
  have t := textB_le h.text
  unfold valB
  simp only [List.length_append, numB_len, List.length_cons, List.length_nil]
  omega
theorem entB_len {now : Int} {e : Ent} (h : OkE now e) : (entB e).length ≤ 930 := by
  have a := okF_size h.key; have b := valB_len' h.val
  unfold entB; simp only [List.length_append, textB_len, numB_len]; omega
theorem cliB_len {next now : Int} {x : Cli} (h : OkC next now x) : (cliB x).length ≤ 500 := by
  have hr := checkR_iff.1 h.reply
  have a := okT_size hr.text
  have b := many_len (g := textB) (b := 21) (l := x.reply.list) fun t ht => by have := okT_size (hr.list t ht); rw [textB_len]; omega
  have l := hr.len
  unfold cliB; simp only [List.length_append, textB_len, numB_len, List.length_cons, List.length_nil]; omega
theorem encode_c (m : Mach) (h : OkM m) : PCall Tryz.prog G 165 [.agg m.c] (.tup [.one (.v (.sl (bR (machB m)))), iV 0]) := by
  have hck := checkM_c (G := G) m h.dom2.1 h.dom2.2
  rw [checkM_iff.2 h] at hck
  have hel := flat_take (g := entB) (b := 930) (xs := m.sto.ents) fun e he => entB_len (h.sto.all e he)
  have hcl := flat_take (g := cliB) (b := 500) (xs := m.clis) fun x hx => cliB_len (h.all x hx)
  have hn := h.sto.now; have hx := h.next; have n1 := h.sto.len; have n2 := h.len
  have hes : ∀ e ∈ m.sto.ents, SizE e := fun e he => (h.sto.all e he).siz hn.1
  have hcs : ∀ x ∈ m.clis, SizC x := fun x hc => (h.all x hc).siz hx.2 hn.2
  clear h
  unfold machB manyB
  obtain ⟨⟨now, es⟩, next, cs⟩ := m
  simp only at hel hcl hn hx n1 n2 hes hcs
  simp only [Mach.c] at hck ⊢
  have a1 := wnumber_c (G := G) [] now (by simp) (by unfold inNum; omega)
  rw [List.nil_append] at a1
  have a2 := wsmall_c (G := G) (numB now) es.length (by rw [numB_len]; omega)
  obtain ⟨l0, hl0⟩ : ∃ l, numB now ++ [smallB es.length] = l := ⟨_, rfl⟩
  have hl0n : l0.length = 9 := by rw [← hl0]; rfl
  rw [hl0] at a2
  have hfin : numB now ++ ((smallB es.length :: es.flatMap entB) ++ (numB next ++ (smallB cs.length :: cs.flatMap cliB))) = l0 ++ es.flatMap entB ++ numB next ++ [smallB cs.length] ++ cs.flatMap cliB := by rw [← hl0]; simp
  rw [hfin]
  have hen : (eR es).length = es.length := by simp
  have hcn : (clR cs).length = cs.length := by simp
  refine pcallc mixed Tryz.func165 ac_wire_Encode ?_
  unfold wHp at *
  repeat' (first | (with_reducible first | refine Cn (fun h => ?_) fun h => ?_ | refine And.intro ?_ ?_ | refine wR ?_ | exact wr _ _ | refine wa ?_ | apply awp_join | refine q hck ?_ | refine qd hck ?_ | refine qz hck ?_ | refine qg a1 ?_ | refine qgd a1 ?_ | refine qg a2 ?_ | refine qgd a2 ?_) | (refine CallZ.l (CallK.thaw 1 0 5 1 rfl rfl (by decide) ?_); simp -dsimp [go_sem]) | (with_reducible refine CallZ.z ?_) | simp -dsimp [go_sem, hen])
  refine awp_loop (fun i : Nat => ⟨[(1, .one (.ptr 0 0)), (5, .one (.ptr 1 0)), (30, .one (.v (.sl (eR es)))), (31, iV es.length), (32, iV i)], G, [some (.box 53 [iC now, .v (.sl (eR es)), iC next, .v (.sl (clR cs))]), some (.box 276 [.ar 2]), some (.arr 5 1 (bR (l0 ++ (es.take i).flatMap entB)))]⟩) (fun i => i ≤ es.length) (fun i => es.length - i) 0 (weak_auto ?_) (Nat.zero_le _) ?_
  · simp -dsimp [go_sem]
  · intro i hi
    by_cases hilt : i < es.length
    · obtain ⟨e, hx⟩ : ∃ p, es[i]? = some p := ⟨_, List.getElem?_eq_getElem hilt⟩
      have hr : (eR es)[i]? = some e.row := by simp [hx]
      have hse := hes e (List.mem_of_getElem? hx)
      have hfi := hel i
      have hb3 := valB_le hse.val
      obtain ⟨y0, g0⟩ : ∃ x, l0 ++ (es.take i).flatMap entB = x := ⟨_, rfl⟩
      have g0n : y0.length ≤ 12000 := by rw [← g0, List.length_append]; omega
      have b1 := wtext_c (G := G) y0 e.key (by omega) (by have := hse.key; omega)
      obtain ⟨y1, g1⟩ : ∃ x, y0 ++ textB e.key = x := ⟨_, rfl⟩
      have g1n : y1.length ≤ 13000 := by rw [← g1, List.length_append]; have := textB_le hse.key; omega
      have b2 := wvalue_c (G := G) y1 e.val (by omega) hse.val
      obtain ⟨y2, g2⟩ : ∃ x, y1 ++ valB e.val = x := ⟨_, rfl⟩
      have g2n : y2.length ≤ 300000 := by rw [← g2, List.length_append]; omega
      have b3 := wnumber_c (G := G) y2 e.till (by omega) hse.till
      have e1 : y2 ++ numB e.till = l0 ++ (es.take (i + 1)).flatMap entB := by rw [flat_succ hx, ← g2, ← g1, ← g0]; simp [entB]
      obtain ⟨b, hb⟩ : ∃ b, l0 ++ (es.take (i + 1)).flatMap entB = b := ⟨_, rfl⟩
      rw [g1] at b1
      rw [g2] at b2
      rw [e1, hb] at b3
      rw [g0]
      clear g1 g2 e1 g0
      have q1 : decide (i < es.length) = true := by simpa using hilt
      have w1 : IntKind.i64.wrap ((i : Int) + 1) = (i : Int) + 1 := IntWalk.i64_in _ (by omega)
      clear hck a1 a2
      obtain ⟨key, ⟨vk, vt, vn, vp, vi, vs⟩, till⟩ := e
      simp only [Val.c] at b1 b2 b3
      simp only [Ent.row] at hr
      unfold wHp at b1 b2 b3
      repeat' (first | (with_reducible first | refine Cn (fun h => ?_) fun h => ?_ | refine And.intro ?_ ?_ | refine wR ?_ | exact wr _ _ | refine wa ?_ | apply awp_join | refine qg b1 ?_ | refine qgd b1 ?_ | refine qg b2 ?_ | refine qgd b2 ?_ | refine qg b3 ?_ | refine qgd b3 ?_) | (with_reducible refine CallZ.z ?_) | simp -dsimp [go_sem, hr, q1, w1])
      all_goals first
        | omega
        | (refine Again.auto (i + 1) ?_ hilt ?_
           · simp -dsimp [go_sem, hb]
           · show es.length - (i + 1) < es.length - i; omega)
        | trace_state
    · have hie : i = es.length := by omega
      subst hie
      rw [List.take_length]
      have hel0 := hel es.length
      rw [List.take_length] at hel0
      clear hck a1 a2
      obtain ⟨y1, g1⟩ : ∃ x, l0 ++ es.flatMap entB = x := ⟨_, rfl⟩
      have g1n : y1.length ≤ 12000 := by rw [← g1, List.length_append]; omega
      rw [g1]
      have c1 := wnumber_c (G := G) y1 next (by omega) (by unfold inNum; omega)
      obtain ⟨y2, g2⟩ : ∃ x, y1 ++ numB next = x := ⟨_, rfl⟩
      have g2n : y2.length ≤ 13000 := by rw [← g2, List.length_append, numB_len]; omega
      rw [g2] at c1 ⊢
      have c2 := wsmall_c (G := G) y2 cs.length (by omega)
      obtain ⟨l1, hl1⟩ : ∃ l1, y2 ++ [smallB cs.length] = l1 := ⟨_, rfl⟩
      have hl1n : l1.length ≤ 14000 := by rw [← hl1]; simp; omega
      rw [hl1] at c2 ⊢
      unfold wHp at c1 c2
      repeat' (first | (with_reducible first | refine Cn (fun h => ?_) fun h => ?_ | refine And.intro ?_ ?_ | refine wR ?_ | exact wr _ _ | refine wa ?_ | apply awp_join | refine qg c1 ?_ | refine qgd c1 ?_ | refine qg c2 ?_ | refine qgd c2 ?_) | (with_reducible refine CallZ.z ?_) | simp -dsimp [go_sem, hcn])
      refine awp_loop (fun i : Nat => ⟨[(5, .one (.ptr 0 0)), (59, .one (.v (.sl (clR cs)))), (60, iV cs.length), (61, iV i)], G, wHp (l1 ++ (cs.take i).flatMap cliB)⟩) (fun i => i ≤ cs.length) (fun i => cs.length - i) 0 (weak_auto ?_) (Nat.zero_le _) ?_
      · simp -dsimp [go_sem]
      · intro i hi
        by_cases hilt : i < cs.length
        · obtain ⟨x, hx⟩ : ∃ p, cs[i]? = some p := ⟨_, List.getElem?_eq_getElem hilt⟩
          have hr : (clR cs)[i]? = some x.row := by simp [hx]
          have hsc := hcs x (List.mem_of_getElem? hx)
          have hfi := hcl i
          have htl := textB_le hsc.text
          obtain ⟨y0, g0⟩ : ∃ y, l1 ++ (cs.take i).flatMap cliB = y := ⟨_, rfl⟩
          have g0n : y0.length ≤ 20000 := by rw [← g0, List.length_append]; omega
          have b1 := wnumber_c (G := G) y0 x.id (by omega) hsc.id
          obtain ⟨y1, g1⟩ : ∃ y, y0 ++ numB x.id = y := ⟨_, rfl⟩
          have g1n : y1.length ≤ 20008 := by rw [← g1, List.length_append, numB_len]; omega
          have b2 := wnumber_c (G := G) y1 x.seq (by omega) hsc.seq
          obtain ⟨y2, g2⟩ : ∃ y, y1 ++ numB x.seq = y := ⟨_, rfl⟩
          have g2n : y2.length ≤ 20016 := by rw [← g2, List.length_append, numB_len]; omega
          have b3 := wnumber_c (G := G) y2 x.time (by omega) hsc.time
          obtain ⟨y3, g3⟩ : ∃ y, y2 ++ numB x.time = y := ⟨_, rfl⟩
          have g3n : y3.length ≤ 20024 := by rw [← g3, List.length_append, numB_len]; omega
          have b4 := wsmall_c (G := G) y3 x.reply.code (by omega)
          obtain ⟨y4, g4⟩ : ∃ y, y3 ++ [smallB x.reply.code] = y := ⟨_, rfl⟩
          have g4n : y4.length ≤ 20025 := by rw [← g4]; simp; omega
          have b5 := wtext_c (G := G) y4 x.reply.text (by omega) (by have := hsc.text; omega)
          obtain ⟨y5, g5⟩ : ∃ y, y4 ++ textB x.reply.text = y := ⟨_, rfl⟩
          have g5n : y5.length ≤ 20300 := by rw [← g5, List.length_append]; omega
          have b6 := wnumber_c (G := G) y5 x.reply.n (by omega) hsc.n
          obtain ⟨y6, g6⟩ : ∃ y, y5 ++ numB x.reply.n = y := ⟨_, rfl⟩
          have g6n : y6.length ≤ 20308 := by rw [← g6, List.length_append, numB_len]; omega
          have b7 := wtexts_c (G := G) y6 x.reply.list (by omega) hsc.list.1 hsc.list.2
          have e1 : y6 ++ manyB textB x.reply.list = l1 ++ (cs.take (i + 1)).flatMap cliB := by rw [flat_succ hx, ← g6, ← g5, ← g4, ← g3, ← g2, ← g1, ← g0]; simp [cliB]
          obtain ⟨b, hb⟩ : ∃ b, l1 ++ (cs.take (i + 1)).flatMap cliB = b := ⟨_, rfl⟩
          rw [g1] at b1
          rw [g2] at b2
          rw [g3] at b3
          rw [g4] at b4
          rw [g5] at b5
          rw [g6] at b6
          rw [e1, hb] at b7
          rw [g0]
          clear g1 g2 g3 g4 g5 g6 e1 g0
          have q1 : decide (i < cs.length) = true := by simpa using hilt
          have w1 : IntKind.i64.wrap ((i : Int) + 1) = (i : Int) + 1 := IntWalk.i64_in _ (by omega)
          clear c1 c2
          obtain ⟨id, seq, time, ⟨rc, rt, rn, rl⟩⟩ := x
          simp only [Cli.row] at hr
          simp only at b1 b2 b3 b4 b5 b6 b7
          unfold wHp at b1 b2 b3 b4 b5 b6 b7 ⊢
          repeat' (first | (with_reducible first | refine Cn (fun h => ?_) fun h => ?_ | refine And.intro ?_ ?_ | refine wR ?_ | exact wr _ _ | refine wa ?_ | apply awp_join | refine qg b1 ?_ | refine qgd b1 ?_ | refine qg b2 ?_ | refine qgd b2 ?_ | refine qg b3 ?_ | refine qgd b3 ?_ | refine qg b4 ?_ | refine qgd b4 ?_ | refine qg b5 ?_ | refine qgd b5 ?_ | refine qg b6 ?_ | refine qgd b6 ?_ | refine qg b7 ?_ | refine qgd b7 ?_) | (with_reducible refine CallZ.z ?_) | simp -dsimp [go_sem, hr, q1, w1])
          all_goals first
            | omega
            | (refine Again.auto (i + 1) ?_ hilt ?_
               · simp -dsimp [go_sem, hb]
               · show cs.length - (i + 1) < cs.length - i; omega)
            | trace_state
        · have hie : i = cs.length := by omega
          subst hie
          rw [List.take_length]
          generalize l1 ++ cs.flatMap cliB = a
          unfold wHp
          repeat' (first | (with_reducible first | refine Cn (fun h => ?_) fun h => ?_ | refine And.intro ?_ ?_ | refine wR ?_ | exact wr _ _ | refine wa ?_ | apply awp_join) | (with_reducible refine CallZ.z ?_) | simp -dsimp [go_sem])
          all_goals trace_state
end Go.Proofs.YtkkleopmambcnaaGreatDoor
set_option linter.unusedVariables false
set_option linter.unusedSimpArgs false
set_option maxRecDepth 100000
set_option maxHeartbeats 8000000
namespace Go.Proofs.YtkkleopmambcnaaGreatDoor
open Go Go.RowKit Go.Proofs.AE
def subC : List Nat → ACode → ACode
  | [], c => c
  | i :: r, .seq a b => subC r (if i = 0 then a else b)
  | i :: r, .cond _ t e => subC r (if i = 0 then t else e)
  | _ :: r, .block _ c => subC r c
  | _ :: r, .loop c => subC r c
  | _, c => c
structure PartIs (d : ACode) : Prop where
theorem PartIs.of {f : Func} {c : ACode} {rs : List ResultVar} {d : ACode} (cc : CC f c rs) (p : List Nat) (h : subC p c = d := by (conv => lhs; simp [subC]); all_goals exact rfl) : PartIs d := ⟨⟩
abbrev codeOf {d : ACode} (_ : PartIs d) : ACode := d
def nthAlt : ACode → Nat → List AOp × List (Nat × Nat)
  | .regD l, j => l.getD j ([], [])
  | _, _ => ([], [])
def AltOk (P : Program) (c : ACode) (j : Nat) (s s' : S) : Prop := aopsD P (nthAlt c j).1 [] s (fun h q => stables P (nthAlt c j).1 (s :: h) (nthAlt c j).2 ∧ Weak 0 q s')
theorem alts_of {P : Program} {Q : Exit → S → Prop} {s s' : S} : ∀ (l : List (List AOp × List (Nat × Nat))), (∀ j, j < l.length → AltOk P (.regD l) j s s') → allAlts P s (fun q => Weak 0 q s') l
  | [], _ => trivial
  | (al, ps) :: r, h => ⟨h 0 (by simp), alts_of (Q := Q) r fun j hj => by have := h (j + 1) (by simpa using hj); unfold AltOk nthAlt at this ⊢; simpa using this⟩
def AllOk (P : Program) (c : ACode) (s s' : S) : Nat → Prop
  | 0 => True
  | n + 1 => AltOk P c n s s' ∧ AllOk P c s s' n
theorem AllOk.get {P : Program} {c : ACode} {s s' : S} : ∀ {n : Nat}, AllOk P c s s' n → ∀ j, j < n → AltOk P c j s s'
  | 0, _, j, hj => by omega
  | n + 1, h, j, hj => by
    by_cases e : j = n
    · subst e; exact h.1
    · exact AllOk.get h.2 j (by omega)
theorem reg_of {P : Program} {Q : Exit → S → Prop} {s s' : S} {c : ACode} (l : List (List AOp × List (Nat × Nat))) (n : Nat) (hc : c = .regD l) (hn : l.length = n) (h : AllOk P c s s' n) (hq : Q .normal s') : awp P 0 c Q s := by
  subst hc
  exact awp_join s' (alts_of (Q := Q) l fun j hj => h.get j (by omega)) hq
end Go.Proofs.YtkkleopmambcnaaGreatDoor
set_option linter.unusedVariables false
set_option linter.unusedSimpArgs false
set_option maxRecDepth 100000
set_option maxHeartbeats 8000000
namespace Go.Proofs.YtkkleopmambcnaaGreatDoor
open Go Go.RowKit Go.Proofs.AE
variable {G : Nat → AV}
theorem eachN_len {α : Type} (f : Rd → α × Rd) : ∀ (n : Nat) (r : Rd), (eachN f n r).1.length ≤ n
  | 0, r => Nat.le_refl _
  | n + 1, r => by
    unfold eachN
    split
    · simp
    · have := eachN_len f n (f r).2
      simp only [List.length_cons]; omega
theorem smallR_lt (r : Rd) : (smallR r).1 < 256 := by
  unfold smallR
  split
  · rename_i c _ _
    have := c.toNat_lt
    exact this
  · simp
theorem eachR_len {α : Type} (f : Rd → α × Rd) (r : Rd) : (eachR f r).1.length ≤ 255 := by
  unfold eachR
  have h1 := eachN_len f (smallR r).1 (smallR r).2
  have h2 := smallR_lt r
  omega
structure OnWay {α : Type} (f : Rd → α × Rd) (r0 : Rd) (n : Nat) (r : Rd) (l : List α) : Prop where
  eq : eachR f r0 = (l ++ (eachN f n r).1, (eachN f n r).2)
  le : l.length + n ≤ 255
theorem OnWay.first {α : Type} (f : Rd → α × Rd) (r0 : Rd) : OnWay f r0 (smallR r0).1 (smallR r0).2 [] := ⟨rfl, by have := smallR_lt r0; simp; omega⟩
theorem OnWay.next {α : Type} {f : Rd → α × Rd} {r0 r : Rd} {n : Nat} {l : List α} (h : OnWay f r0 (n + 1) r l) (hs : r.short = false) : OnWay f r0 n (f r).2 (l ++ [(f r).1]) := by
  refine ⟨?_, by have := h.le; simp; omega⟩
  have e : eachN f (n + 1) r = ((f r).1 :: (eachN f n (f r).2).1, (eachN f n (f r).2).2) := by
    show (if r.short = true then _ else _) = _
    rw [if_neg (by rw [hs]; simp)]
  rw [h.eq, e]
  simp
theorem OnWay.stop {α : Type} {f : Rd → α × Rd} {r0 r : Rd} {n : Nat} {l : List α} (h : OnWay f r0 n r l) (hs : n = 0 ∨ r.short = true) : eachR f r0 = (l, r) := by
  rw [h.eq]
  rcases hs with rfl | hs
  · simp [eachN]
  · cases n with
    | zero => simp [eachN]
    | succ n => unfold eachN; rw [if_pos hs]; simp
abbrev tHp (r : Rd) (l : List ByteArray) : Hp := [some (.box 281 [.v (.sl (bR r.rest)), .v (.lit (.bool r.short))]), some (.box 279 [.ptr 0 0]), some (.box 71 [.ar 3]), some (.arr 9 1 (strRows l))]
theorem strRows_snoc (l : List ByteArray) (t : ByteArray) : strRows (l ++ [t]) = strRows l ++ [[.lit (.string t)]] := by simp [strRows]
theorem strRows_ul (l : List ByteArray) : UL 1 (strRows l) := by
  intro r hr
  obtain ⟨y, _, rfl⟩ := List.mem_map.1 hr
  rfl
theorem txStep_c (r : Rd) (l : List ByteArray) (hl : l.length ≤ 1000) : DetCall Tryz.prog G 222 3 (tHp r l) [.one (.ptr 2 0), .one (.ptr 1 0)] (.tup []) (tHp (txtR r).2 (l ++ [(txtR r).1])) := by
  have ht := rtext_c (G := G) r
  have h1 : (strRows l).length = l.length := by simp [strRows]
  have h2 := strRows_ul l
  generalize txtR r = q at *
  obtain ⟨t, r2⟩ := q
  simp only at ht
  have h3 := strRows_snoc l t
  unfold tHp
  rw [h3]
  unfold rHp at ht
  refine gcallc mixed Tryz.func222 ac_wire_reader_texts_1 ?_
  repeat' (first | (with_reducible first | refine Cn (fun h => ?_) fun h => ?_ | refine And.intro ?_ ?_ | refine wR ?_ | exact wr _ _ | refine wa ?_ | apply awp_join | refine qg ht ?_ | refine qgd ht ?_) | (with_reducible refine CallZ.z ?_) | simp -dsimp [go_sem, h1, h2])
  all_goals first | omega | (simp [UL]; done) | trace_state
theorem txEach_c  (r0 : Rd) : DetCall Tryz.prog G 195 3 (tHp  r0 []) [.one (.ptr 0 0), .fn 222 [] [.ptr 2 0, .ptr 1 0]] (.tup []) (tHp  (eachR txtR r0).2 (eachR txtR r0).1) := by
  have hsm := rsmall_c (G := G) r0
  have hle := smallR_lt r0
  have hen := en222
  have hfirst := OnWay.first txtR r0
  generalize smallR r0 = q at *
  obtain ⟨n, r⟩ := q
  simp only at hle hfirst
  refine gcallc mixed Tryz.func195 ac_wire_reader_each ?_
  unfold tHp
  unfold rHp at hsm
  repeat' (first | (with_reducible first | refine Cn (fun h => ?_) fun h => ?_ | refine And.intro ?_ ?_ | refine wR ?_ | exact wr _ _ | refine wa ?_ | apply awp_join | refine qg hsm ?_ | refine qgd hsm ?_) | (with_reducible refine CallZ.z ?_) | simp -dsimp [go_sem])
  refine awp_loop (fun x : Nat × Rd × List ByteArray => ⟨[(0, .one (.ptr 0 0)), (1, .fn 222 [] [.ptr 2 0, .ptr 1 0]), (4, iV x.1)], G, tHp  x.2.1 x.2.2⟩) (fun x => OnWay txtR r0 x.1 x.2.1 x.2.2) (fun x => x.1) (n, r, []) (weak_auto ?_) hfirst ?_
  · simp -dsimp [go_sem, strRows]
  · rintro ⟨n, r, l⟩ hw
    simp only at hw
    have hwl := hw.le
    unfold tHp
    cases n with
    | zero =>
      rw [hw.stop (.inl rfl)]
      repeat' (first | (with_reducible first | refine Cn (fun h => ?_) fun h => ?_ | refine And.intro ?_ ?_ | refine wR ?_ | exact wr _ _ | refine wa ?_ | apply awp_join) | (with_reducible refine CallZ.z ?_) | simp -dsimp [go_sem])
      all_goals trace_state
    | succ n =>
      have w1 : IntKind.i64.wrap (n : Int) = (n : Int) := IntWalk.i64_in _ (by omega)
      have w2 : ((n + 1 : Nat) : Int) - 1 = (n : Int) := by omega
      have q1 : decide (0 < ((n + 1 : Nat) : Int)) = true := decide_eq_true (by omega)
      have q2 : decide (0 < (n : Int) + 1) = true := decide_eq_true (by omega)
      by_cases hs : r.short = true
      · rw [hw.stop (.inr hs)]
        repeat' (first | (with_reducible first | refine Cn (fun h => ?_) fun h => ?_ | refine And.intro ?_ ?_ | refine wR ?_ | exact wr _ _ | refine wa ?_ | apply awp_join) | (with_reducible refine CallZ.z ?_) | simp -dsimp [go_sem, hs, q1, q2])
        all_goals trace_state
      · have hs : r.short = false := by simpa using hs
        have hst := txStep_c (G := G)  r l (by omega)
        have hnx := hw.next hs
        generalize txtR r = q at *
        obtain ⟨t, r2⟩ := q
        simp only at hst hnx
        clear hsm
        unfold tHp at hst
        rw [hs] at hst
        repeat' (first | (with_reducible first | refine Cn (fun h => ?_) fun h => ?_ | refine And.intro ?_ ?_ | refine wR ?_ | exact wr _ _ | refine wa ?_ | apply awp_join | refine qg hst ?_ | refine qgd hst ?_) | (with_reducible refine CallZ.z ?_) | simp -dsimp [go_sem, hs, q1, q2, w1, w2, hen])
        all_goals first
          | omega
          | (refine Again.auto (n, r2, l ++ [t]) ?_ hnx ?_
             · simp -dsimp [go_sem]
             · show n < n + 1; omega)
          | trace_state
theorem rtexts_c (r : Rd) : DetCall Tryz.prog G 201 1 (rHp r) [.one (.ptr 0 0)] (.one (.v (.sl (strRows (eachR txtR r).1)))) (rHp (eachR txtR r).2) := by
  have he := txEach_c (G := G) r
  generalize eachR txtR r = q at *
  obtain ⟨l, r2⟩ := q
  simp only at he
  unfold tHp at he
  have h0 : strRows [] = [] := rfl
  rw [h0] at he
  unfold rHp
  refine gcallc mixed Tryz.func201 ac_wire_reader_texts ?_
  repeat' (first | (with_reducible first | refine Cn (fun h => ?_) fun h => ?_ | refine And.intro ?_ ?_ | refine wR ?_ | exact wr _ _ | refine wa ?_ | apply awp_join | refine qg he ?_ | refine qgd he ?_) | (refine CallZ.l (CallK.thaw 2 0 9 1 rfl rfl (by decide) ?_); simp -dsimp [go_sem]) | (with_reducible refine CallZ.z ?_) | simp -dsimp [go_sem])
  all_goals trace_state
abbrev pHp (k : Int) (t : ByteArray) (c : Int) (r : Rd) (l : List Pr) : Hp := [some (.box 281 [.v (.sl (bR r.rest)), .v (.lit (.bool r.short))]), some (.box 279 [.ptr 0 0]), some (.box 91 [iC k, sC t, iC c, .ar 3, .ar 4, .ar 5]), some (.arr 151 2 (pR l)), some (.arr 9 1 []), some (.arr 154 2 [])]
theorem pR_ul (l : List Pr) : UL 2 (pR l) := by
  intro r hr
  obtain ⟨y, _, rfl⟩ := List.mem_map.1 hr
  rfl
theorem sR_ul (l : List Sc) : UL 2 (sR l) := by
  intro r hr
  obtain ⟨y, _, rfl⟩ := List.mem_map.1 hr
  rfl
theorem prStep_c (k : Int) (t : ByteArray) (c : Int) (r : Rd) (l : List Pr) (hl : l.length ≤ 1000) : DetCall Tryz.prog G 220 3 (pHp k t c r l) [.one (.ptr 2 0), .one (.ptr 1 0)] (.tup []) (pHp k t c (prR r).2 (l ++ [(prR r).1])) := by
  have e : prR r = (((txtR r).1, (txtR (txtR r).2).1), (txtR (txtR r).2).2) := rfl
  rw [e]
  have h1 := rtext_c (G := G) r
  generalize txtR r = q at *
  obtain ⟨f, r1⟩ := q
  simp only at h1 ⊢
  have h2 := rtext_c (G := G) r1
  generalize txtR r1 = q at *
  obtain ⟨x, r2⟩ := q
  simp only at h2 ⊢
  have h3 : (pR l).length = l.length := by simp
  have h4 := pR_ul l
  have h5 : pR (l ++ [(f, x)]) = pR l ++ [[.lit (.string f), .lit (.string x)]] := by simp
  unfold pHp
  rw [h5]
  unfold rHp at h1 h2
  refine gcallc mixed Tryz.func220 ac_wire_reader_value_1 ?_
  repeat' (first | (with_reducible first | refine Cn (fun h => ?_) fun h => ?_ | refine And.intro ?_ ?_ | refine wR ?_ | exact wr _ _ | refine wa ?_ | apply awp_join | refine qg h1 ?_ | refine qgd h1 ?_ | refine qg h2 ?_ | refine qgd h2 ?_) | (with_reducible refine CallZ.z ?_) | simp -dsimp [go_sem, h3, h4])
  all_goals first | omega | (simp [UL]; done) | trace_state
theorem prEach_c (k : Int) (t : ByteArray) (c : Int) (r0 : Rd) : DetCall Tryz.prog G 195 3 (pHp k t c r0 []) [.one (.ptr 0 0), .fn 220 [] [.ptr 2 0, .ptr 1 0]] (.tup []) (pHp k t c (eachR prR r0).2 (eachR prR r0).1) := by
  have hsm := rsmall_c (G := G) r0
  have hle := smallR_lt r0
  have hen := en220
  have hfirst := OnWay.first prR r0
  generalize smallR r0 = q at *
  obtain ⟨n, r⟩ := q
  simp only at hle hfirst
  refine gcallc mixed Tryz.func195 ac_wire_reader_each ?_
  unfold pHp
  unfold rHp at hsm
  repeat' (first | (with_reducible first | refine Cn (fun h => ?_) fun h => ?_ | refine And.intro ?_ ?_ | refine wR ?_ | exact wr _ _ | refine wa ?_ | apply awp_join | refine qg hsm ?_ | refine qgd hsm ?_) | (with_reducible refine CallZ.z ?_) | simp -dsimp [go_sem])
  refine awp_loop (fun x : Nat × Rd × List Pr => ⟨[(0, .one (.ptr 0 0)), (1, .fn 220 [] [.ptr 2 0, .ptr 1 0]), (4, iV x.1)], G, pHp k t c x.2.1 x.2.2⟩) (fun x => OnWay prR r0 x.1 x.2.1 x.2.2) (fun x => x.1) (n, r, []) (weak_auto ?_) hfirst ?_
  · simp -dsimp [go_sem]
  · rintro ⟨n, r, l⟩ hw
    simp only at hw
    have hwl := hw.le
    unfold pHp
    cases n with
    | zero =>
      rw [hw.stop (.inl rfl)]
      repeat' (first | (with_reducible first | refine Cn (fun h => ?_) fun h => ?_ | refine And.intro ?_ ?_ | refine wR ?_ | exact wr _ _ | refine wa ?_ | apply awp_join) | (with_reducible refine CallZ.z ?_) | simp -dsimp [go_sem])
      all_goals trace_state
    | succ n =>
      have w1 : IntKind.i64.wrap (n : Int) = (n : Int) := IntWalk.i64_in _ (by omega)
      have w2 : ((n + 1 : Nat) : Int) - 1 = (n : Int) := by omega
      have q1 : decide (0 < ((n + 1 : Nat) : Int)) = true := decide_eq_true (by omega)
      have q2 : decide (0 < (n : Int) + 1) = true := decide_eq_true (by omega)
      by_cases hs : r.short = true
      · rw [hw.stop (.inr hs)]
        repeat' (first | (with_reducible first | refine Cn (fun h => ?_) fun h => ?_ | refine And.intro ?_ ?_ | refine wR ?_ | exact wr _ _ | refine wa ?_ | apply awp_join) | (with_reducible refine CallZ.z ?_) | simp -dsimp [go_sem, hs, q1, q2])
        all_goals trace_state
      · have hs : r.short = false := by simpa using hs
        have hst := prStep_c (G := G) k t c r l (by omega)
        have hnx := hw.next hs
        generalize prR r = q at *
        obtain ⟨t, r2⟩ := q
        simp only at hst hnx
        clear hsm
        unfold pHp at hst
        rw [hs] at hst
        repeat' (first | (with_reducible first | refine Cn (fun h => ?_) fun h => ?_ | refine And.intro ?_ ?_ | refine wR ?_ | exact wr _ _ | refine wa ?_ | apply awp_join | refine qg hst ?_ | refine qgd hst ?_) | (with_reducible refine CallZ.z ?_) | simp -dsimp [go_sem, hs, q1, q2, w1, w2, hen])
        all_goals first
          | omega
          | (refine Again.auto (n, r2, l ++ [t]) ?_ hnx ?_
             · simp -dsimp [go_sem]
             · show n < n + 1; omega)
          | trace_state
abbrev sHp (k : Int) (t : ByteArray) (c : Int) (ps : List Pr) (is : List ByteArray) (r : Rd) (l : List Sc) : Hp := [some (.box 281 [.v (.sl (bR r.rest)), .v (.lit (.bool r.short))]), some (.box 279 [.ptr 0 0]), some (.box 91 [iC k, sC t, iC c, .ar 3, .v (.sl (strRows is)), .ar 4]), some (.arr 151 2 (pR ps)), some (.arr 154 2 (sR l))]
theorem scStep_c (k : Int) (t : ByteArray) (c : Int) (ps : List Pr) (is : List ByteArray) (r : Rd) (l : List Sc) (hl : l.length ≤ 1000) : DetCall Tryz.prog G 221 3 (sHp k t c ps is r l) [.one (.ptr 2 0), .one (.ptr 1 0)] (.tup []) (sHp k t c ps is (scR r).2 (l ++ [(scR r).1])) := by
  have e : scR r = (((txtR r).1, (numR (txtR r).2).1), (numR (txtR r).2).2) := rfl
  rw [e]
  have h1 := rtext_c (G := G) r
  generalize txtR r = q at *
  obtain ⟨f, r1⟩ := q
  simp only at h1 ⊢
  have h2 := rnumber_c (G := G) r1
  generalize numR r1 = q at *
  obtain ⟨x, r2⟩ := q
  simp only at h2 ⊢
  have h3 : (sR l).length = l.length := by simp
  have h4 := sR_ul l
  have h5 : sR (l ++ [(f, x)]) = sR l ++ [[.lit (.string f), .lit (.int .i64 x)]] := by simp
  unfold sHp
  rw [h5]
  unfold rHp at h1 h2
  refine gcallc mixed Tryz.func221 ac_wire_reader_value_2 ?_
  repeat' (first | (with_reducible first | refine Cn (fun h => ?_) fun h => ?_ | refine And.intro ?_ ?_ | refine wR ?_ | exact wr _ _ | refine wa ?_ | apply awp_join | refine qg h1 ?_ | refine qgd h1 ?_ | refine qg h2 ?_ | refine qgd h2 ?_) | (with_reducible refine CallZ.z ?_) | simp -dsimp [go_sem, h3, h4])
  all_goals first | omega | (simp [UL]; done) | trace_state
theorem scEach_c (k : Int) (t : ByteArray) (c : Int) (ps : List Pr) (is : List ByteArray) (r0 : Rd) : DetCall Tryz.prog G 195 3 (sHp k t c ps is r0 []) [.one (.ptr 0 0), .fn 221 [] [.ptr 2 0, .ptr 1 0]] (.tup []) (sHp k t c ps is (eachR scR r0).2 (eachR scR r0).1) := by
  have hsm := rsmall_c (G := G) r0
  have hle := smallR_lt r0
  have hen := en221
  have hfirst := OnWay.first scR r0
  generalize smallR r0 = q at *
  obtain ⟨n, r⟩ := q
  simp only at hle hfirst
  refine gcallc mixed Tryz.func195 ac_wire_reader_each ?_
  unfold sHp
  unfold rHp at hsm
  repeat' (first | (with_reducible first | refine Cn (fun h => ?_) fun h => ?_ | refine And.intro ?_ ?_ | refine wR ?_ | exact wr _ _ | refine wa ?_ | apply awp_join | refine qg hsm ?_ | refine qgd hsm ?_) | (with_reducible refine CallZ.z ?_) | simp -dsimp [go_sem])
  refine awp_loop (fun x : Nat × Rd × List Sc => ⟨[(0, .one (.ptr 0 0)), (1, .fn 221 [] [.ptr 2 0, .ptr 1 0]), (4, iV x.1)], G, sHp k t c ps is x.2.1 x.2.2⟩) (fun x => OnWay scR r0 x.1 x.2.1 x.2.2) (fun x => x.1) (n, r, []) (weak_auto ?_) hfirst ?_
  · simp -dsimp [go_sem]
  · rintro ⟨n, r, l⟩ hw
    simp only at hw
    have hwl := hw.le
    unfold sHp
    cases n with
    | zero =>
      rw [hw.stop (.inl rfl)]
      repeat' (first | (with_reducible first | refine Cn (fun h => ?_) fun h => ?_ | refine And.intro ?_ ?_ | refine wR ?_ | exact wr _ _ | refine wa ?_ | apply awp_join) | (with_reducible refine CallZ.z ?_) | simp -dsimp [go_sem])
      all_goals trace_state
    | succ n =>
      have w1 : IntKind.i64.wrap (n : Int) = (n : Int) := IntWalk.i64_in _ (by omega)
      have w2 : ((n + 1 : Nat) : Int) - 1 = (n : Int) := by omega
      have q1 : decide (0 < ((n + 1 : Nat) : Int)) = true := decide_eq_true (by omega)
      have q2 : decide (0 < (n : Int) + 1) = true := decide_eq_true (by omega)
      by_cases hs : r.short = true
      · rw [hw.stop (.inr hs)]
        repeat' (first | (with_reducible first | refine Cn (fun h => ?_) fun h => ?_ | refine And.intro ?_ ?_ | refine wR ?_ | exact wr _ _ | refine wa ?_ | apply awp_join) | (with_reducible refine CallZ.z ?_) | simp -dsimp [go_sem, hs, q1, q2])
        all_goals trace_state
      · have hs : r.short = false := by simpa using hs
        have hst := scStep_c (G := G) k t c ps is r l (by omega)
        have hnx := hw.next hs
        generalize scR r = q at *
        obtain ⟨t, r2⟩ := q
        simp only at hst hnx
        clear hsm
        unfold sHp at hst
        rw [hs] at hst
        repeat' (first | (with_reducible first | refine Cn (fun h => ?_) fun h => ?_ | refine And.intro ?_ ?_ | refine wR ?_ | exact wr _ _ | refine wa ?_ | apply awp_join | refine qg hst ?_ | refine qgd hst ?_) | (with_reducible refine CallZ.z ?_) | simp -dsimp [go_sem, hs, q1, q2, w1, w2, hen])
        all_goals first
          | omega
          | (refine Again.auto (n, r2, l ++ [t]) ?_ hnx ?_
             · simp -dsimp [go_sem]
             · show n < n + 1; omega)
          | trace_state
theorem valR_eq (r : Rd) : valR r = (⟨((smallR r).1 : Int), (txtR (smallR r).2).1, (numR (txtR (smallR r).2).2).1, (eachR prR (numR (txtR (smallR r).2).2).2).1, (eachR txtR (eachR prR (numR (txtR (smallR r).2).2).2).2).1, (eachR scR (eachR txtR (eachR prR (numR (txtR (smallR r).2).2).2).2).2).1⟩, (eachR scR (eachR txtR (eachR prR (numR (txtR (smallR r).2).2).2).2).2).2) := id rfl
theorem rvalue_c (r : Rd) : DetCall Tryz.prog G 198 1 (rHp r) [.one (.ptr 0 0)] (.agg (valR r).1.c) (rHp (valR r).2) := by
  rw [valR_eq]
  have h1 := rsmall_c (G := G) r
  generalize smallR r = q at *
  obtain ⟨k, r1⟩ := q
  simp only at h1 ⊢
  have h2 := rtext_c (G := G) r1
  generalize txtR r1 = q at *
  obtain ⟨t, r2⟩ := q
  simp only at h2 ⊢
  have h3 := rnumber_c (G := G) r2
  generalize numR r2 = q at *
  obtain ⟨c, r3⟩ := q
  simp only at h3 ⊢
  have h4 := prEach_c (G := G) k t c r3
  generalize eachR prR r3 = q at *
  obtain ⟨ps, r4⟩ := q
  simp only at h4 ⊢
  have h5 := rtexts_c (G := G) r4
  generalize eachR txtR r4 = q at *
  obtain ⟨is, r5⟩ := q
  simp only at h5 ⊢
  have h6 := scEach_c (G := G) k t c ps is r5
  generalize eachR scR r5 = q at *
  obtain ⟨ss, r6⟩ := q
  simp only at h6 ⊢
  unfold rHp at *
  unfold pHp at h4
  unfold sHp at h6
  simp only [Val.c]
  refine gcallc mixed Tryz.func198 ac_wire_reader_value ?_
  repeat' (first | (with_reducible first | refine Cn (fun h => ?_) fun h => ?_ | refine And.intro ?_ ?_ | refine wR ?_ | exact wr _ _ | refine wa ?_ | apply awp_join | refine qg h1 ?_ | refine qgd h1 ?_ | refine qg h2 ?_ | refine qgd h2 ?_ | refine qg h3 ?_ | refine qgd h3 ?_ | refine qg h4 ?_ | refine qgd h4 ?_ | refine qg h5 ?_ | refine qgd h5 ?_ | refine qg h6 ?_ | refine qgd h6 ?_ | refine q (simp -dsimp [go_sem]) ?_ | refine qd (simp -dsimp [go_sem]) ?_ | refine qz (simp -dsimp [go_sem]) ?_) | (refine CallZ.l (CallK.thaw 3 3 151 2 rfl rfl (by decide) (CallK.thaw 3 4 9 1 rfl rfl (by decide) (CallK.thaw 3 5 154 2 rfl rfl (by decide) ?_)))) | (with_reducible refine CallZ.z ?_) | simp -dsimp [go_sem])
  all_goals trace_state
end Go.Proofs.YtkkleopmambcnaaGreatDoor
set_option linter.unusedVariables false
set_option linter.unusedSimpArgs false
set_option maxRecDepth 100000
set_option maxHeartbeats 8000000
namespace Go.Proofs.YtkkleopmambcnaaGreatDoor
open Go Go.RowKit Go.Proofs.AE
variable {G : Nat → AV}
abbrev eHp (now nx : Int) (cs : List Cli) (r : Rd) (l : List Ent) : Hp := [some (.box 281 [.v (.sl (bR r.rest)), .v (.lit (.bool r.short))]), some (.box 279 [.ptr 0 0]), some (.box 53 [iC now, .ar 3, iC nx, .ar 4]), some (.arr 93 8 (eR l)), some (.arr 134 7 (clR cs))]
theorem entR_eq (r : Rd) : entR r = (⟨(txtR r).1, (valR (txtR r).2).1, (numR (valR (txtR r).2).2).1⟩, (numR (valR (txtR r).2).2).2) := id rfl
theorem enStep_c (now nx : Int) (cs : List Cli) (r : Rd) (l : List Ent) (hl : l.length ≤ 1000) : DetCall Tryz.prog G 196 3 (eHp now nx cs r l) [.one (.ptr 2 0), .one (.ptr 1 0)] (.tup []) (eHp now nx cs (entR r).2 (l ++ [(entR r).1])) := by
  rw [entR_eq]
  have h1 := rtext_c (G := G) r
  generalize txtR r = q at *
  obtain ⟨f, r1⟩ := q
  simp only at h1 ⊢
  have h2 := rvalue_c (G := G) r1
  generalize valR r1 = q at *
  obtain ⟨⟨vk, vt, vn, vp, vi, vs⟩, r2⟩ := q
  simp only [Val.c] at h2 ⊢
  have h3 := rnumber_c (G := G) r2
  generalize numR r2 = q at *
  obtain ⟨x, r3⟩ := q
  simp only at h3 ⊢
  have h4 : (eR l).length = l.length := by simp
  have h5 := ul_e l
  have h6 : eR (l ++ [⟨f, ⟨vk, vt, vn, vp, vi, vs⟩, x⟩]) = eR l ++ [[.lit (.string f), .lit (.int .i64 vk), .lit (.string vt), .lit (.int .i64 vn), .sl (pR vp), .sl (strRows vi), .sl (sR vs), .lit (.int .i64 x)]] := by simp [Ent.row]
  unfold eHp
  rw [h6]
  unfold rHp at h1 h2 h3
  refine gcallc mixed Tryz.func196 ac_wire_Decode_1 ?_
  repeat' (first | (with_reducible first | refine Cn (fun h => ?_) fun h => ?_ | refine And.intro ?_ ?_ | refine wR ?_ | exact wr _ _ | refine wa ?_ | apply awp_join | refine qg h1 ?_ | refine qgd h1 ?_ | refine qg h2 ?_ | refine qgd h2 ?_ | refine qg h3 ?_ | refine qgd h3 ?_) | (with_reducible refine CallZ.z ?_) | simp -dsimp [go_sem, h4, h5])
  all_goals first | omega | (simp [UL]; done) | trace_state
theorem enEach_c (now nx : Int) (cs : List Cli) (r0 : Rd) : DetCall Tryz.prog G 195 3 (eHp now nx cs r0 []) [.one (.ptr 0 0), .fn 196 [] [.ptr 2 0, .ptr 1 0]] (.tup []) (eHp now nx cs (eachR entR r0).2 (eachR entR r0).1) := by
  have hsm := rsmall_c (G := G) r0
  have hle := smallR_lt r0
  have hen := en196
  have hfirst := OnWay.first entR r0
  generalize smallR r0 = q at *
  obtain ⟨n, r⟩ := q
  simp only at hle hfirst
  refine gcallc mixed Tryz.func195 ac_wire_reader_each ?_
  unfold eHp
  unfold rHp at hsm
  repeat' (first | (with_reducible first | refine Cn (fun h => ?_) fun h => ?_ | refine And.intro ?_ ?_ | refine wR ?_ | exact wr _ _ | refine wa ?_ | apply awp_join | refine qg hsm ?_ | refine qgd hsm ?_) | (with_reducible refine CallZ.z ?_) | simp -dsimp [go_sem])
  refine awp_loop (fun x : Nat × Rd × List Ent => ⟨[(0, .one (.ptr 0 0)), (1, .fn 196 [] [.ptr 2 0, .ptr 1 0]), (4, iV x.1)], G, eHp now nx cs x.2.1 x.2.2⟩) (fun x => OnWay entR r0 x.1 x.2.1 x.2.2) (fun x => x.1) (n, r, []) (weak_auto ?_) hfirst ?_
  · simp -dsimp [go_sem]
  · rintro ⟨n, r, l⟩ hw
    simp only at hw
    have hwl := hw.le
    unfold eHp
    cases n with
    | zero =>
      rw [hw.stop (.inl rfl)]
      repeat' (first | (with_reducible first | refine Cn (fun h => ?_) fun h => ?_ | refine And.intro ?_ ?_ | refine wR ?_ | exact wr _ _ | refine wa ?_ | apply awp_join) | (with_reducible refine CallZ.z ?_) | simp -dsimp [go_sem])
      all_goals trace_state
    | succ n =>
      have w1 : IntKind.i64.wrap (n : Int) = (n : Int) := IntWalk.i64_in _ (by omega)
      have w2 : ((n + 1 : Nat) : Int) - 1 = (n : Int) := by omega
      have q1 : decide (0 < ((n + 1 : Nat) : Int)) = true := decide_eq_true (by omega)
      have q2 : decide (0 < (n : Int) + 1) = true := decide_eq_true (by omega)
      by_cases hs : r.short = true
      · rw [hw.stop (.inr hs)]
        repeat' (first | (with_reducible first | refine Cn (fun h => ?_) fun h => ?_ | refine And.intro ?_ ?_ | refine wR ?_ | exact wr _ _ | refine wa ?_ | apply awp_join) | (with_reducible refine CallZ.z ?_) | simp -dsimp [go_sem, hs, q1, q2])
        all_goals trace_state
      · have hs : r.short = false := by simpa using hs
        have hst := enStep_c (G := G) now nx cs r l (by omega)
        have hnx := hw.next hs
        generalize entR r = q at *
        obtain ⟨t, r2⟩ := q
        simp only at hst hnx
        clear hsm
        unfold eHp at hst
        rw [hs] at hst
        repeat' (first | (with_reducible first | refine Cn (fun h => ?_) fun h => ?_ | refine And.intro ?_ ?_ | refine wR ?_ | exact wr _ _ | refine wa ?_ | apply awp_join | refine qg hst ?_ | refine qgd hst ?_) | (with_reducible refine CallZ.z ?_) | simp -dsimp [go_sem, hs, q1, q2, w1, w2, hen])
        all_goals first
          | omega
          | (refine Again.auto (n, r2, l ++ [t]) ?_ hnx ?_
             · simp -dsimp [go_sem]
             · show n < n + 1; omega)
          | trace_state
abbrev cHp (now nx : Int) (es : List Ent) (r : Rd) (l : List Cli) : Hp := [some (.box 281 [.v (.sl (bR r.rest)), .v (.lit (.bool r.short))]), some (.box 279 [.ptr 0 0]), some (.box 53 [iC now, .ar 3, iC nx, .ar 4]), some (.arr 93 8 (eR es)), some (.arr 134 7 (clR l))]
def cliR3 (r : Rd) : (Int × Int × Int) × Rd := (((numR r).1, (numR (numR r).2).1, (numR (numR (numR r).2).2).1), (numR (numR (numR r).2).2).2)
def repR3 (r : Rd) : (Int × ByteArray × Int) × Rd := ((((smallR r).1 : Int), (txtR (smallR r).2).1, (numR (txtR (smallR r).2).2).1), (numR (txtR (smallR r).2).2).2)
theorem cliR_eq (r : Rd) : cliR r = (⟨(cliR3 r).1.1, (cliR3 r).1.2.1, (cliR3 r).1.2.2, ⟨(repR3 (cliR3 r).2).1.1, (repR3 (cliR3 r).2).1.2.1, (repR3 (cliR3 r).2).1.2.2, (eachR txtR (repR3 (cliR3 r).2).2).1⟩⟩, (eachR txtR (repR3 (cliR3 r).2).2).2) := id rfl
theorem cl_ul (l : List Cli) : UL 7 (clR l) := by
  intro r hr
  obtain ⟨y, _, rfl⟩ := List.mem_map.1 hr
  rfl
theorem clStep_c (now nx : Int) (es : List Ent) (r : Rd) (l : List Cli) (hl : l.length ≤ 1000) : DetCall Tryz.prog G 199 3 (cHp now nx es r l) [.one (.ptr 1 0), .one (.ptr 2 0)] (.tup []) (cHp now nx es (cliR r).2 (l ++ [(cliR r).1])) := by
  rw [cliR_eq]
  unfold cliR3 repR3
  have h1 := rnumber_c (G := G) r
  generalize numR r = q at *
  obtain ⟨id, r1⟩ := q
  simp only at h1 ⊢
  have h2 := rnumber_c (G := G) r1
  generalize numR r1 = q at *
  obtain ⟨seq, r2⟩ := q
  simp only at h2 ⊢
  have h3 := rnumber_c (G := G) r2
  generalize numR r2 = q at *
  obtain ⟨time, r3⟩ := q
  simp only at h3 ⊢
  have h4 := rsmall_c (G := G) r3
  generalize smallR r3 = q at *
  obtain ⟨code, r4⟩ := q
  simp only at h4 ⊢
  have h5 := rtext_c (G := G) r4
  generalize txtR r4 = q at *
  obtain ⟨tx, r5⟩ := q
  simp only at h5 ⊢
  have h6 := rnumber_c (G := G) r5
  generalize numR r5 = q at *
  obtain ⟨n, r6⟩ := q
  simp only at h6 ⊢
  have h7 := rtexts_c (G := G) r6
  generalize eachR txtR r6 = q at *
  obtain ⟨li, r7⟩ := q
  simp only at h7 ⊢
  have k1 : (clR l).length = l.length := by simp
  have k2 := cl_ul l
  have k3 : clR (l ++ [⟨id, seq, time, ⟨(code : Int), tx, n, li⟩⟩]) = clR l ++ [[.lit (.int .i64 id), .lit (.int .i64 seq), .lit (.int .i64 time), .lit (.int .i64 (code : Int)), .lit (.string tx), .lit (.int .i64 n), .sl (strRows li)]] := by simp [Cli.row]
  unfold cHp
  rw [k3]
  unfold rHp at *
  refine gcallc mixed Tryz.func199 ac_wire_Decode_2 ?_
  repeat' (first | (with_reducible first | refine Cn (fun h => ?_) fun h => ?_ | refine And.intro ?_ ?_ | refine wR ?_ | exact wr _ _ | refine wa ?_ | apply awp_join | refine qg h1 ?_ | refine qgd h1 ?_ | refine qg h2 ?_ | refine qgd h2 ?_ | refine qg h3 ?_ | refine qgd h3 ?_ | refine qg h4 ?_ | refine qgd h4 ?_ | refine qg h5 ?_ | refine qgd h5 ?_ | refine qg h6 ?_ | refine qgd h6 ?_ | refine qg h7 ?_ | refine qgd h7 ?_) | (with_reducible refine CallZ.z ?_) | simp -dsimp [go_sem, k1, k2])
  all_goals first | omega | (simp [UL]; done) | trace_state
theorem clEach_c (now nx : Int) (es : List Ent) (r0 : Rd) : DetCall Tryz.prog G 195 3 (cHp now nx es r0 []) [.one (.ptr 0 0), .fn 199 [] [.ptr 1 0, .ptr 2 0]] (.tup []) (cHp now nx es (eachR cliR r0).2 (eachR cliR r0).1) := by
  have hsm := rsmall_c (G := G) r0
  have hle := smallR_lt r0
  have hen := en199
  have hfirst := OnWay.first cliR r0
  generalize smallR r0 = q at *
  obtain ⟨n, r⟩ := q
  simp only at hle hfirst
  refine gcallc mixed Tryz.func195 ac_wire_reader_each ?_
  unfold cHp
  unfold rHp at hsm
  repeat' (first | (with_reducible first | refine Cn (fun h => ?_) fun h => ?_ | refine And.intro ?_ ?_ | refine wR ?_ | exact wr _ _ | refine wa ?_ | apply awp_join | refine qg hsm ?_ | refine qgd hsm ?_) | (with_reducible refine CallZ.z ?_) | simp -dsimp [go_sem])
  refine awp_loop (fun x : Nat × Rd × List Cli => ⟨[(0, .one (.ptr 0 0)), (1, .fn 199 [] [.ptr 1 0, .ptr 2 0]), (4, iV x.1)], G, cHp now nx es x.2.1 x.2.2⟩) (fun x => OnWay cliR r0 x.1 x.2.1 x.2.2) (fun x => x.1) (n, r, []) (weak_auto ?_) hfirst ?_
  · simp -dsimp [go_sem]
  · rintro ⟨n, r, l⟩ hw
    simp only at hw
    have hwl := hw.le
    unfold cHp
    cases n with
    | zero =>
      rw [hw.stop (.inl rfl)]
      repeat' (first | (with_reducible first | refine Cn (fun h => ?_) fun h => ?_ | refine And.intro ?_ ?_ | refine wR ?_ | exact wr _ _ | refine wa ?_ | apply awp_join) | (with_reducible refine CallZ.z ?_) | simp -dsimp [go_sem])
      all_goals trace_state
    | succ n =>
      have w1 : IntKind.i64.wrap (n : Int) = (n : Int) := IntWalk.i64_in _ (by omega)
      have w2 : ((n + 1 : Nat) : Int) - 1 = (n : Int) := by omega
      have q1 : decide (0 < ((n + 1 : Nat) : Int)) = true := decide_eq_true (by omega)
      have q2 : decide (0 < (n : Int) + 1) = true := decide_eq_true (by omega)
      by_cases hs : r.short = true
      · rw [hw.stop (.inr hs)]
        repeat' (first | (with_reducible first | refine Cn (fun h => ?_) fun h => ?_ | refine And.intro ?_ ?_ | refine wR ?_ | exact wr _ _ | refine wa ?_ | apply awp_join) | (with_reducible refine CallZ.z ?_) | simp -dsimp [go_sem, hs, q1, q2])
        all_goals trace_state
      · have hs : r.short = false := by simpa using hs
        have hst := clStep_c (G := G) now nx es r l (by omega)
        have hnx := hw.next hs
        generalize cliR r = q at *
        obtain ⟨t, r2⟩ := q
        simp only at hst hnx
        clear hsm
        unfold cHp at hst
        rw [hs] at hst
        repeat' (first | (with_reducible first | refine Cn (fun h => ?_) fun h => ?_ | refine And.intro ?_ ?_ | refine wR ?_ | exact wr _ _ | refine wa ?_ | apply awp_join | refine qg hst ?_ | refine qgd hst ?_) | (with_reducible refine CallZ.z ?_) | simp -dsimp [go_sem, hs, q1, q2, w1, w2, hen])
        all_goals first
          | omega
          | (refine Again.auto (n, r2, l ++ [t]) ?_ hnx ?_
             · simp -dsimp [go_sem]
             · show n < n + 1; omega)
          | trace_state
end Go.Proofs.YtkkleopmambcnaaGreatDoor
set_option linter.unusedVariables false
set_option linter.unusedSimpArgs false
set_option maxRecDepth 100000
set_option maxHeartbeats 8000000
namespace Go.Proofs.YtkkleopmambcnaaGreatDoor
open Go Go.RowKit Go.Proofs.AE
variable {G : Nat → AV}
theorem eachN_of {α : Type} {f : Rd → α × Rd} : ∀ (n : Nat) (r : Rd), ∀ a ∈ (eachN f n r).1, ∃ r', a = (f r').1
  | 0, r, a, h => by cases h
  | n + 1, r, a, h => by
    unfold eachN at h
    split at h
    · cases h
    · rcases List.mem_cons.1 h with rfl | h
      · exact ⟨r, rfl⟩
      · exact eachN_of n _ a h
theorem mach_small (r : Rd) : (machR r).1.sto.Small ∧ (machR r).1.clis.length ≤ 1000000 := by
  refine ⟨⟨?_, fun e he => ?_⟩, ?_⟩
  · show (eachR entR (numR r).2).1.length ≤ 1000
    have := eachR_len entR (numR r).2; omega
  · obtain ⟨r', rfl⟩ := eachN_of _ _ e he
    rw [entR_eq]
    show (valR (txtR r').2).1.Small
    rw [valR_eq]
    have h1 := eachR_len prR (numR (txtR (smallR (txtR r').2).2).2).2
    have h2 := eachR_len txtR (eachR prR (numR (txtR (smallR (txtR r').2).2).2).2).2
    have h3 := eachR_len scR (eachR txtR (eachR prR (numR (txtR (smallR (txtR r').2).2).2).2).2).2
    unfold Val.Small
    simp only
    omega
  · have := eachR_len cliR (numR (eachR entR (numR r).2).2).2
    show (eachR cliR (numR (eachR entR (numR r).2).2).2).1.length ≤ 1000000
    omega
theorem cloneB_c (l : List UInt8) (hx : l.length ≤ 1000000) : PCall Tryz.prog G 186 [.one (.v (.sl (bR l)))] (.one (.v (.sl (bR l)))) := by
  have h1 := bR_ul l
  have h2 := bR_len l
  refine pcallc mixed Tryz.func186 ac_slices_Clone_byte ?_
  repeat' (first | (with_reducible first | refine Cn (fun h => ?_) fun h => ?_ | refine And.intro ?_ ?_ | refine wR ?_ | exact wr _ _ | refine wa ?_ | apply awp_join | refine q (cases q) ?_ | refine qd (cases q) ?_ | refine qz (cases q) ?_) | (intro q hq) | (with_reducible refine CallZ.z ?_) | simp -dsimp [go_sem, h1, h2])
  all_goals first | omega | exact h1 | trace_state
theorem machR_eq (r : Rd) : machR r = (⟨⟨(numR r).1, (eachR entR (numR r).2).1⟩, (numR (eachR entR (numR r).2).2).1, (eachR cliR (numR (eachR entR (numR r).2).2).2).1⟩, (eachR cliR (numR (eachR entR (numR r).2).2).2).2) := id rfl
theorem endR_eq (r : Rd) : (if r.short then 9 else if true = false ∨ 0 < r.rest.length then 8 else 0 : Int) = endR r := by unfold endR; simp
theorem decode_c (l : List UInt8) : PCall Tryz.prog G 166 [.one (.v (.sl (bR l)))] (.tup [.agg (decM l).1.c, iV (decM l).2]) := by
  have hlen := bR_len l
  unfold decM
  by_cases h0 : 20000 < l.length
  · rw [if_pos h0]
    have q0 : decide (20000 < (l.length : Int)) = true := decide_eq_true (by omega)
    simp only [zeroM, zeroS, Mach.c, List.map_nil]
    refine pcallc mixed Tryz.func166 ac_wire_Decode ?_
    repeat' (first | (with_reducible first | refine Cn (fun h => ?_) fun h => ?_ | refine And.intro ?_ ?_ | refine wR ?_ | exact wr _ _ | refine wa ?_ | apply awp_join) | (with_reducible refine CallZ.z ?_) | simp -dsimp [go_sem, hlen, q0])
    all_goals trace_state
  · rw [if_neg h0]
    have q0 : decide (20000 < (l.length : Int)) = false := decide_eq_false (by omega)
    have hcl := cloneB_c (G := G) l (by omega)
    obtain ⟨hs1, hs2⟩ := mach_small ⟨l, false⟩
    have hck := checkM_c (G := G) (machR ⟨l, false⟩).1 hs1 hs2
    clear hs1 hs2
    rw [machR_eq] at hck ⊢
    have h1 := rnumber_c (G := G) ⟨l, false⟩
    generalize numR ⟨l, false⟩ = q at *
    obtain ⟨now, r1⟩ := q
    simp only at h1 hck ⊢
    have h2 := enEach_c (G := G) now 0 [] r1
    generalize eachR entR r1 = q at *
    obtain ⟨es, r2⟩ := q
    simp only at h2 hck ⊢
    have h3 := rnumber_c (G := G) r2
    generalize numR r2 = q at *
    obtain ⟨nx, r3⟩ := q
    simp only at h3 hck ⊢
    have h4 := clEach_c (G := G) now nx es r3
    generalize eachR cliR r3 = q at *
    obtain ⟨cs, r4⟩ := q
    simp only at h4 hck ⊢
    have h5 := rend_c (G := G) r4 true
    rw [endR_eq] at h5
    generalize endR r4 = e at *
    have he0 : eR [] = [] := rfl
    unfold rHp at h1 h3 h5
    unfold eHp at h2
    unfold cHp at h4
    simp only [Mach.c] at hck
    by_cases he : e ≠ 0
    · rw [if_pos he]
      have q1 : (e != 0) = true := by simpa using he
      simp only [zeroM, zeroS, Mach.c, List.map_nil]
      refine pcallc mixed Tryz.func166 ac_wire_Decode ?_
      repeat' (first | (with_reducible first | refine Cn (fun h => ?_) fun h => ?_ | refine And.intro ?_ ?_ | refine wR ?_ | exact wr _ _ | refine wa ?_ | apply awp_join | refine q hcl ?_ | refine qd hcl ?_ | refine qz hcl ?_ | refine qg h1 ?_ | refine qgd h1 ?_ | refine qg h2 ?_ | refine qgd h2 ?_ | refine qg h3 ?_ | refine qgd h3 ?_ | refine qg h4 ?_ | refine qgd h4 ?_ | refine qg h5 ?_ | refine qgd h5 ?_ | refine q (simp -dsimp [go_sem]) ?_ | refine qd (simp -dsimp [go_sem]) ?_ | refine qz (simp -dsimp [go_sem]) ?_) | (refine CallZ.l (CallK.thaw 3 1 93 8 rfl rfl (by decide) (CallK.thaw 3 3 134 7 rfl rfl (by decide) ?_))) | (with_reducible refine CallZ.z ?_) | simp -dsimp [go_sem, hlen, q0, q1])
      all_goals trace_state
    · rw [if_neg he]
      have q1 : (e != 0) = false := by simpa using he
      generalize checkM (⟨⟨now, es⟩, nx, cs⟩ : Mach) = v at *
      by_cases hv : v ≠ 0
      · rw [if_pos hv]
        have q2 : (v != 0) = true := by simpa using hv
        simp only [zeroM, zeroS, Mach.c, List.map_nil]
        refine pcallc mixed Tryz.func166 ac_wire_Decode ?_
        repeat' (first | (with_reducible first | refine Cn (fun h => ?_) fun h => ?_ | refine And.intro ?_ ?_ | refine wR ?_ | exact wr _ _ | refine wa ?_ | apply awp_join | refine q hcl ?_ | refine qd hcl ?_ | refine qz hcl ?_ | refine qg h1 ?_ | refine qgd h1 ?_ | refine qg h2 ?_ | refine qgd h2 ?_ | refine qg h3 ?_ | refine qgd h3 ?_ | refine qg h4 ?_ | refine qgd h4 ?_ | refine qg h5 ?_ | refine qgd h5 ?_ | refine q hck ?_ | refine qd hck ?_ | refine qz hck ?_ | refine q (simp -dsimp [go_sem]) ?_ | refine qd (simp -dsimp [go_sem]) ?_ | refine qz (simp -dsimp [go_sem]) ?_) | (refine CallZ.l (CallK.thaw 3 1 93 8 rfl rfl (by decide) (CallK.thaw 3 3 134 7 rfl rfl (by decide) ?_))) | (with_reducible refine CallZ.z ?_) | simp -dsimp [go_sem, hlen, q0, q1, q2])
        all_goals trace_state
      · rw [if_neg hv]
        have q2 : (v != 0) = false := by simpa using hv
        simp only [Mach.c]
        refine pcallc mixed Tryz.func166 ac_wire_Decode ?_
        repeat' (first | (with_reducible first | refine Cn (fun h => ?_) fun h => ?_ | refine And.intro ?_ ?_ | refine wR ?_ | exact wr _ _ | refine wa ?_ | apply awp_join | refine q hcl ?_ | refine qd hcl ?_ | refine qz hcl ?_ | refine qg h1 ?_ | refine qgd h1 ?_ | refine qg h2 ?_ | refine qgd h2 ?_ | refine qg h3 ?_ | refine qgd h3 ?_ | refine qg h4 ?_ | refine qgd h4 ?_ | refine qg h5 ?_ | refine qgd h5 ?_ | refine q hck ?_ | refine qd hck ?_ | refine qz hck ?_ | refine q (simp -dsimp [go_sem]) ?_ | refine qd (simp -dsimp [go_sem]) ?_ | refine qz (simp -dsimp [go_sem]) ?_) | (refine CallZ.l (CallK.thaw 3 1 93 8 rfl rfl (by decide) (CallK.thaw 3 3 134 7 rfl rfl (by decide) ?_))) | (with_reducible refine CallZ.z ?_) | simp -dsimp [go_sem, hlen, q0, q1, q2])
        all_goals trace_state
end Go.Proofs.YtkkleopmambcnaaGreatDoor
set_option linter.unusedVariables false
set_option linter.unusedSimpArgs false
set_option maxRecDepth 100000
set_option maxHeartbeats 8000000
namespace Go.Proofs.YtkkleopmambcnaaGreatDoor
open Go Go.RowKit Go.Proofs.AE
variable {G : Nat → AV}
theorem cloneGItems_c (rows : List (List V)) (hu : UL 10 rows) (hx : rows.length ≤ 1000000) : DetCall Tryz.prog G 41 0 [] [.one (.v (.sl rows))] (.one (.ar 0)) [some (.arr 64 10 rows)] := by
  refine gcallc mixed Tryz.func41 ac_slices_Clone_api_Item ?_
  repeat' (first | (with_reducible first | refine Cn (fun h => ?_) fun h => ?_ | refine And.intro ?_ ?_ | refine wR ?_ | exact wr _ _ | refine wa ?_ | apply awp_join | refine q (cases q) ?_ | refine qd (cases q) ?_ | refine qz (cases q) ?_) | (intro q hq) | (with_reducible refine CallZ.z ?_) | simp -dsimp [go_sem])
  all_goals first | omega | exact hu _ ‹_› | trace_state
abbrev ptL6 := PartIs.of ac_tape_line [1, 1, 1, 0]
abbrev stL6 (G : Nat → AV) (base bt p T : Int) (items : List Item) (xc : List C) : S :=
  ⟨[(24, bV false), (28, bV false), (27, iV (base + items.length + 1)), (26, iV (base + items.length)), (25, iV p), (18, bV false), (22, bV false), (21, iV base), (20, .one (.ptr 0 0)), (19, iV p), (10, iV 0), (9, iV T), (8, iV (base + items.length)), (17, iV 0), (16, iV T), (15, iV (base + items.length)), (12, .tup [iV (base + items.length), iV T, iV 0]), (14, .tup [iV (base + items.length), iV T, iV 0]), (13, .agg [iC base, iC bt, .v (.sl (items.map Item.row))]), (7, iV 0), (6, .one (.ptr 2 0)), (5, .one (.ptr 1 0)), (3, .one (.ptr 0 0)), (0, .agg [iC base, iC bt, .v (.sl (items.map Item.row))]), (1, iV p), (2, .agg xc)], G, [some (.box 47 [iC base, iC bt, .v (.sl (items.map Item.row))]), some (.box 64 xc), some (.box 47 [iC 0, iC 0, .nil])]⟩
abbrev stL7 (G : Nat → AV) (base bt : Int) (items : List Item) (k : Nat) (xr : List V) : S :=
  ⟨[(3, .one (.ptr 0 0)), (6, .one (.ptr 1 0)), (7, iV 0), (11, .one (.ptr 2 0))], G, [some (.box 47 [iC base, iC bt, .v (.sl (items.map Item.row))]), some (.box 47 [iC 0, iC 0, .nil]), some (.box 47 [iC base, iC bt, .v (.sl ((items.map Item.row).take k ++ [xr]))])]⟩
theorem line_r6_0 {base bt p T : Int} {items : List Item} {k : Nat} (x : Item) (hkl : k ≤ items.length) (hle : items.length ≤ 200) (e2 : IntKind.i64.wrap (p - base) = p - base) (e4 : IntKind.i64.wrap (p - base - 1) = (k : Int)) : AltOk Tryz.prog (codeOf ptL6) 0 (stL6 G base bt p T items (x.row.map .v)) (stL7 G base bt items k x.row) := by
  have hul : UL 10 ((items.map Item.row).take k) := ul_take (ul_rows _)
  have htl : ((items.map Item.row).take k).length = k := by simp; omega
  have hcl := cloneGItems_c (G := G) ((items.map Item.row).take k) hul (by omega)
  have hull : UL 10 (items.map Item.row) := ul_rows _
  have hll : (items.map Item.row).length = items.length := by simp
  obtain ⟨xt, xm, xn, xc, xs, xk, xa, xb, xd, xx⟩ := x
  unfold AltOk
  simp only [Item.row, List.map_cons, List.map_nil, stL6, stL7, codeOf, nthAlt, List.getD_cons_succ, List.getD_cons_zero] at *
  repeat' (first | (with_reducible first | refine Cn (fun h => ?_) fun h => ?_ | refine And.intro ?_ ?_ | refine wR ?_ | exact wr _ _ | refine weak_autoC ?_ | apply awp_join | refine qg hcl ?_ | refine qgd hcl ?_) | (with_reducible refine CallZ.z ?_) | simp -dsimp [go_sem, e2, e4, htl, hull, hul, hll, clean_nil, clean_cons, clean_yes, clean_no])
  all_goals first | omega | (simp [UL]; done) | trace_state
theorem line_r6_1 {base bt p T : Int} {items : List Item} {k : Nat} (x : Item) (hkl : k ≤ items.length) (hle : items.length ≤ 200) (e2 : IntKind.i64.wrap (p - base) = p - base) (e4 : IntKind.i64.wrap (p - base - 1) = (k : Int)) : AltOk Tryz.prog (codeOf ptL6) 1 (stL6 G base bt p T items (x.row.map .v)) (stL7 G base bt items k x.row) := by
  have hul : UL 10 ((items.map Item.row).take k) := ul_take (ul_rows _)
  have htl : ((items.map Item.row).take k).length = k := by simp; omega
  have hcl := cloneGItems_c (G := G) ((items.map Item.row).take k) hul (by omega)
  have hull : UL 10 (items.map Item.row) := ul_rows _
  have hll : (items.map Item.row).length = items.length := by simp
  obtain ⟨xt, xm, xn, xc, xs, xk, xa, xb, xd, xx⟩ := x
  unfold AltOk
  simp only [Item.row, List.map_cons, List.map_nil, stL6, stL7, codeOf, nthAlt, List.getD_cons_succ, List.getD_cons_zero] at *
  repeat' (first | (with_reducible first | refine Cn (fun h => ?_) fun h => ?_ | refine And.intro ?_ ?_ | refine wR ?_ | exact wr _ _ | refine weak_autoC ?_ | apply awp_join | refine qg hcl ?_ | refine qgd hcl ?_) | (with_reducible refine CallZ.z ?_) | simp -dsimp [go_sem, e2, e4, htl, hull, hul, hll, clean_nil, clean_cons, clean_yes, clean_no])
  all_goals first | omega | (simp [UL]; done) | trace_state
theorem line_r6_2 {base bt p T : Int} {items : List Item} {k : Nat} (x : Item) (hkl : k ≤ items.length) (hle : items.length ≤ 200) (e2 : IntKind.i64.wrap (p - base) = p - base) (e4 : IntKind.i64.wrap (p - base - 1) = (k : Int)) : AltOk Tryz.prog (codeOf ptL6) 2 (stL6 G base bt p T items (x.row.map .v)) (stL7 G base bt items k x.row) := by
  have hul : UL 10 ((items.map Item.row).take k) := ul_take (ul_rows _)
  have htl : ((items.map Item.row).take k).length = k := by simp; omega
  have hcl := cloneGItems_c (G := G) ((items.map Item.row).take k) hul (by omega)
  have hull : UL 10 (items.map Item.row) := ul_rows _
  have hll : (items.map Item.row).length = items.length := by simp
  obtain ⟨xt, xm, xn, xc, xs, xk, xa, xb, xd, xx⟩ := x
  unfold AltOk
  simp only [Item.row, List.map_cons, List.map_nil, stL6, stL7, codeOf, nthAlt, List.getD_cons_succ, List.getD_cons_zero] at *
  repeat' (first | (with_reducible first | refine Cn (fun h => ?_) fun h => ?_ | refine And.intro ?_ ?_ | refine wR ?_ | exact wr _ _ | refine weak_autoC ?_ | apply awp_join | refine qg hcl ?_ | refine qgd hcl ?_) | (with_reducible refine CallZ.z ?_) | simp -dsimp [go_sem, e2, e4, htl, hull, hul, hll, clean_nil, clean_cons, clean_yes, clean_no])
  all_goals first | omega | (simp [UL]; done) | trace_state
theorem line_r6_3 {base bt p T : Int} {items : List Item} {k : Nat} (x : Item) (hkl : k ≤ items.length) (hle : items.length ≤ 200) (e2 : IntKind.i64.wrap (p - base) = p - base) (e4 : IntKind.i64.wrap (p - base - 1) = (k : Int)) : AltOk Tryz.prog (codeOf ptL6) 3 (stL6 G base bt p T items (x.row.map .v)) (stL7 G base bt items k x.row) := by
  have hul : UL 10 ((items.map Item.row).take k) := ul_take (ul_rows _)
  have htl : ((items.map Item.row).take k).length = k := by simp; omega
  have hcl := cloneGItems_c (G := G) ((items.map Item.row).take k) hul (by omega)
  have hull : UL 10 (items.map Item.row) := ul_rows _
  have hll : (items.map Item.row).length = items.length := by simp
  obtain ⟨xt, xm, xn, xc, xs, xk, xa, xb, xd, xx⟩ := x
  unfold AltOk
  simp only [Item.row, List.map_cons, List.map_nil, stL6, stL7, codeOf, nthAlt, List.getD_cons_succ, List.getD_cons_zero] at *
  repeat' (first | (with_reducible first | refine Cn (fun h => ?_) fun h => ?_ | refine And.intro ?_ ?_ | refine wR ?_ | exact wr _ _ | refine weak_autoC ?_ | apply awp_join | refine qg hcl ?_ | refine qgd hcl ?_) | (with_reducible refine CallZ.z ?_) | simp -dsimp [go_sem, e2, e4, htl, hull, hul, hll, clean_nil, clean_cons, clean_yes, clean_no])
  all_goals first | omega | (simp [UL]; done) | trace_state
theorem line_r6_4 {base bt p T : Int} {items : List Item} {k : Nat} (x : Item) (hkl : k ≤ items.length) (hle : items.length ≤ 200) (e2 : IntKind.i64.wrap (p - base) = p - base) (e4 : IntKind.i64.wrap (p - base - 1) = (k : Int)) : AltOk Tryz.prog (codeOf ptL6) 4 (stL6 G base bt p T items (x.row.map .v)) (stL7 G base bt items k x.row) := by
  have hul : UL 10 ((items.map Item.row).take k) := ul_take (ul_rows _)
  have htl : ((items.map Item.row).take k).length = k := by simp; omega
  have hcl := cloneGItems_c (G := G) ((items.map Item.row).take k) hul (by omega)
  have hull : UL 10 (items.map Item.row) := ul_rows _
  have hll : (items.map Item.row).length = items.length := by simp
  obtain ⟨xt, xm, xn, xc, xs, xk, xa, xb, xd, xx⟩ := x
  unfold AltOk
  simp only [Item.row, List.map_cons, List.map_nil, stL6, stL7, codeOf, nthAlt, List.getD_cons_succ, List.getD_cons_zero] at *
  repeat' (first | (with_reducible first | refine Cn (fun h => ?_) fun h => ?_ | refine And.intro ?_ ?_ | refine wR ?_ | exact wr _ _ | refine weak_autoC ?_ | apply awp_join | refine qg hcl ?_ | refine qgd hcl ?_) | (with_reducible refine CallZ.z ?_) | simp -dsimp [go_sem, e2, e4, htl, hull, hul, hll, clean_nil, clean_cons, clean_yes, clean_no])
  all_goals first | omega | (simp [UL]; done) | trace_state
theorem line_r6_5 {base bt p T : Int} {items : List Item} {k : Nat} (x : Item) (hkl : k ≤ items.length) (hle : items.length ≤ 200) (e2 : IntKind.i64.wrap (p - base) = p - base) (e4 : IntKind.i64.wrap (p - base - 1) = (k : Int)) : AltOk Tryz.prog (codeOf ptL6) 5 (stL6 G base bt p T items (x.row.map .v)) (stL7 G base bt items k x.row) := by
  have hul : UL 10 ((items.map Item.row).take k) := ul_take (ul_rows _)
  have htl : ((items.map Item.row).take k).length = k := by simp; omega
  have hcl := cloneGItems_c (G := G) ((items.map Item.row).take k) hul (by omega)
  have hull : UL 10 (items.map Item.row) := ul_rows _
  have hll : (items.map Item.row).length = items.length := by simp
  obtain ⟨xt, xm, xn, xc, xs, xk, xa, xb, xd, xx⟩ := x
  unfold AltOk
  simp only [Item.row, List.map_cons, List.map_nil, stL6, stL7, codeOf, nthAlt, List.getD_cons_succ, List.getD_cons_zero] at *
  repeat' (first | (with_reducible first | refine Cn (fun h => ?_) fun h => ?_ | refine And.intro ?_ ?_ | refine wR ?_ | exact wr _ _ | refine weak_autoC ?_ | apply awp_join | refine qg hcl ?_ | refine qgd hcl ?_) | (with_reducible refine CallZ.z ?_) | simp -dsimp [go_sem, e2, e4, htl, hull, hul, hll, clean_nil, clean_cons, clean_yes, clean_no])
  all_goals first | omega | (simp [UL]; done) | trace_state
theorem line_r6_6 {base bt p T : Int} {items : List Item} {k : Nat} (x : Item) (hkl : k ≤ items.length) (hle : items.length ≤ 200) (e2 : IntKind.i64.wrap (p - base) = p - base) (e4 : IntKind.i64.wrap (p - base - 1) = (k : Int)) : AltOk Tryz.prog (codeOf ptL6) 6 (stL6 G base bt p T items (x.row.map .v)) (stL7 G base bt items k x.row) := by
  have hul : UL 10 ((items.map Item.row).take k) := ul_take (ul_rows _)
  have htl : ((items.map Item.row).take k).length = k := by simp; omega
  have hcl := cloneGItems_c (G := G) ((items.map Item.row).take k) hul (by omega)
  have hull : UL 10 (items.map Item.row) := ul_rows _
  have hll : (items.map Item.row).length = items.length := by simp
  obtain ⟨xt, xm, xn, xc, xs, xk, xa, xb, xd, xx⟩ := x
  unfold AltOk
  simp only [Item.row, List.map_cons, List.map_nil, stL6, stL7, codeOf, nthAlt, List.getD_cons_succ, List.getD_cons_zero] at *
  repeat' (first | (with_reducible first | refine Cn (fun h => ?_) fun h => ?_ | refine And.intro ?_ ?_ | refine wR ?_ | exact wr _ _ | refine weak_autoC ?_ | apply awp_join | refine qg hcl ?_ | refine qgd hcl ?_) | (with_reducible refine CallZ.z ?_) | simp -dsimp [go_sem, e2, e4, htl, hull, hul, hll, clean_nil, clean_cons, clean_yes, clean_no])
  all_goals first | omega | (simp [UL]; done) | trace_state
theorem line_r6_7 {base bt p T : Int} {items : List Item} {k : Nat} (x : Item) (hkl : k ≤ items.length) (hle : items.length ≤ 200) (e2 : IntKind.i64.wrap (p - base) = p - base) (e4 : IntKind.i64.wrap (p - base - 1) = (k : Int)) : AltOk Tryz.prog (codeOf ptL6) 7 (stL6 G base bt p T items (x.row.map .v)) (stL7 G base bt items k x.row) := by
  have hul : UL 10 ((items.map Item.row).take k) := ul_take (ul_rows _)
  have htl : ((items.map Item.row).take k).length = k := by simp; omega
  have hcl := cloneGItems_c (G := G) ((items.map Item.row).take k) hul (by omega)
  have hull : UL 10 (items.map Item.row) := ul_rows _
  have hll : (items.map Item.row).length = items.length := by simp
  obtain ⟨xt, xm, xn, xc, xs, xk, xa, xb, xd, xx⟩ := x
  unfold AltOk
  simp only [Item.row, List.map_cons, List.map_nil, stL6, stL7, codeOf, nthAlt, List.getD_cons_succ, List.getD_cons_zero] at *
  repeat' (first | (with_reducible first | refine Cn (fun h => ?_) fun h => ?_ | refine And.intro ?_ ?_ | refine wR ?_ | exact wr _ _ | refine weak_autoC ?_ | apply awp_join | refine qg hcl ?_ | refine qgd hcl ?_) | (with_reducible refine CallZ.z ?_) | simp -dsimp [go_sem, e2, e4, htl, hull, hul, hll, clean_nil, clean_cons, clean_yes, clean_no])
  all_goals first | omega | (simp [UL]; done) | trace_state
theorem line_r6 {base bt p T : Int} {items : List Item} {k : Nat} (x : Item) (hkl : k ≤ items.length) (hle : items.length ≤ 200) (e2 : IntKind.i64.wrap (p - base) = p - base) (e4 : IntKind.i64.wrap (p - base - 1) = (k : Int)) {Q : Exit → S → Prop} (hq : Q .normal (stL7 G base bt items k x.row)) : awp Tryz.prog 0 (codeOf ptL6) Q (stL6 G base bt p T items (x.row.map .v)) :=
  reg_of _ 8 rfl rfl ⟨line_r6_7 x hkl hle e2 e4, line_r6_6 x hkl hle e2 e4, line_r6_5 x hkl hle e2 e4, line_r6_4 x hkl hle e2 e4, line_r6_3 x hkl hle e2 e4, line_r6_2 x hkl hle e2 e4, line_r6_1 x hkl hle e2 e4, line_r6_0 x hkl hle e2 e4, trivial⟩ hq
theorem line_r6' {base bt p T : Int} {items : List Item} {k : Nat} (x : Item) (xr : List V) (hkl : k ≤ items.length) (hle : items.length ≤ 200) (e2 : IntKind.i64.wrap (p - base) = p - base) (e4 : IntKind.i64.wrap (p - base - 1) = (k : Int)) {xc : List C} (h1 : x.row.map .v = xc) (h2 : x.row = xr) {Q : Exit → S → Prop} (hq : Q .normal (stL7 G base bt items k xr)) : awp Tryz.prog 0 (codeOf ptL6) Q (stL6 G base bt p T items xc) := by
  subst h1; subst h2; exact line_r6 x hkl hle e2 e4 hq
theorem line_c (g : Lg) (p : Int) (x : Item) (h : g.check = 0) (hp : 1 ≤ p ∧ p ≤ 1048576) : PCall Tryz.prog G 164 [.agg g.c, iV p, .agg (x.row.map .v)] (.tup [.agg (lineD g p x).1.c, iV (lineD g p x).2]) := by
  obtain ⟨base, bt, items⟩ := g
  unfold Lg.check at h
  simp only at h
  have hla := lastGood_c (G := G) base bt items h
  have hir := last_c' base bt items h
  have e1 : IntKind.i64.wrap (base + items.length + 1) = base + items.length + 1 := IntWalk.i64_in _ (by omega)
  have e2 : IntKind.i64.wrap (p - base) = p - base := IntWalk.i64_in _ (by omega)
  have e3 : IntKind.i64.wrap (p - base - 1) = p - base - 1 := IntWalk.i64_in _ (by omega)
  unfold lineD
  simp only
  by_cases h1 : p ≤ base
  · rw [if_pos h1]
    have q1 : decide (p ≤ base) = true := decide_eq_true h1
    simp only [Lg.c, logC, Item.row, List.map_cons, List.map_nil] at *
    refine pcallc mixed Tryz.func164 ac_tape_line ?_
    repeat' (first | (with_reducible first | refine Cn (fun h => ?_) fun h => ?_ | refine And.intro ?_ ?_ | refine wR ?_ | exact wr _ _ | refine wa ?_ | apply awp_join | refine q hla ?_ | refine qd hla ?_ | refine qz hla ?_) | (with_reducible refine CallZ.z ?_) | simp -dsimp [go_sem, q1])
    all_goals trace_state
  · rw [if_neg h1]
    have q1 : decide (p ≤ base) = false := decide_eq_false h1
    by_cases h2 : base + items.length + 1 < p
    · rw [if_pos h2]
      have q2 : decide (base + (items.length : Int) + 1 < p) = true := decide_eq_true h2
      simp only [Lg.c, logC, Item.row, List.map_cons, List.map_nil] at *
      refine pcallc mixed Tryz.func164 ac_tape_line ?_
      repeat' (first | (with_reducible first | refine Cn (fun h => ?_) fun h => ?_ | refine And.intro ?_ ?_ | refine wR ?_ | exact wr _ _ | refine wa ?_ | apply awp_join | refine q hla ?_ | refine qd hla ?_ | refine qz hla ?_) | (with_reducible refine CallZ.z ?_) | simp -dsimp [go_sem, q1, q2, e1])
      all_goals trace_state
    · rw [if_neg h2]
      have q2 : decide (base + (items.length : Int) + 1 < p) = false := decide_eq_false h2
      obtain ⟨k, hk⟩ : ∃ k, (p - base - 1).toNat = k := ⟨_, rfl⟩
      rw [hk]
      have hk2 : p - base - 1 = (k : Int) := by omega
      have hkl : k ≤ items.length := by omega
      have e4 : IntKind.i64.wrap (p - base - 1) = (k : Int) := by rw [e3, hk2]
      have hck := checkLog_c (G := G) base bt (items.take k ++ [x]) (by simp; omega)
      generalize checkLog base bt (items.take k ++ [x]) = v at *
      have hrow : (items.take k ++ [x]).map Item.row = (items.map Item.row).take k ++ [x.row] := by simp
      have hkn : ((k : Nat) : Int).toNat = k := by simp
      clear hla
      have hla := lastGood_c (G := G) base bt items h
      by_cases hv : v ≠ 0
      · rw [if_pos hv]
        have q3 : (v != 0) = true := by simpa using hv
        simp only [Lg.c, logC] at *
        rw [hrow] at hck
        obtain ⟨xt, xm, xn, xc, xs, xk, xa, xb, xd, xx⟩ := x
        simp only [Item.row, List.map_cons, List.map_nil] at *
        refine pcallc mixed Tryz.func164 ac_tape_line ?_
        repeat' (first | (with_reducible first | refine line_r6' ⟨xt, xm, xn, xc, xs, xk, xa, xb, xd, xx⟩ [iL xt, iL xm, .lit (.bool xn), iL xc, iL xs, iL xk, sL xa, sL xb, sL xd, iL xx] hkl hir.2.2.1 e2 e4 (by with_unfolding_all rfl) (by with_unfolding_all rfl) ?_ | refine Cn (fun h => ?_) fun h => ?_ | refine And.intro ?_ ?_ | refine wR ?_ | exact wr _ _ | refine wa ?_ | apply awp_join | refine q hla ?_ | refine qd hla ?_ | refine qz hla ?_ | refine q hck ?_ | refine qd hck ?_ | refine qz hck ?_) | (with_reducible refine CallZ.z ?_) | simp -dsimp [go_sem, q1, q2, q3, e1])
        all_goals first | omega | (simp [UL]; done) | trace_state
      · rw [if_neg hv]
        have q3 : (v != 0) = false := by simpa using hv
        simp only [Lg.c, logC] at *
        rw [hrow] at hck ⊢
        obtain ⟨xt, xm, xn, xc, xs, xk, xa, xb, xd, xx⟩ := x
        simp only [Item.row, List.map_cons, List.map_nil] at *
        refine pcallc mixed Tryz.func164 ac_tape_line ?_
        repeat' (first | (with_reducible first | refine line_r6' ⟨xt, xm, xn, xc, xs, xk, xa, xb, xd, xx⟩ [iL xt, iL xm, .lit (.bool xn), iL xc, iL xs, iL xk, sL xa, sL xb, sL xd, iL xx] hkl hir.2.2.1 e2 e4 (by with_unfolding_all rfl) (by with_unfolding_all rfl) ?_ | refine Cn (fun h => ?_) fun h => ?_ | refine And.intro ?_ ?_ | refine wR ?_ | exact wr _ _ | refine wa ?_ | apply awp_join | refine q hla ?_ | refine qd hla ?_ | refine qz hla ?_ | refine q hck ?_ | refine qd hck ?_ | refine qz hck ?_) | (with_reducible refine CallZ.z ?_) | simp -dsimp [go_sem, q1, q2, q3, e1])
        all_goals first | omega | (simp [UL]; done) | trace_state
theorem rest_c (g : Lg) (i t : Int) (m : Mach) (h : g.check = 0) (hi : 1 ≤ i ∧ i ≤ 1048576) : PCall Tryz.prog G 159 [.agg g.c, .agg ([iC i, iC t] ++ m.c)] (.agg (restD g i t).c) := by
  obtain ⟨base, bt, items⟩ := g
  obtain ⟨⟨now, es⟩, next, cs⟩ := m
  unfold Lg.check at h
  simp only at h
  have hte := termGood_c (G := G) base bt items i h ⟨by omega, hi.2⟩
  unfold restD
  simp only
  by_cases h1 : termErr base items.length i = 0
  · have htr := trim_c (G := G) base bt items i h (by unfold i64; omega) h1
    rw [h1] at hte
    generalize termAt base bt items i = T at *
    simp only [Lg.c, logC, Mach.c, List.cons_append, List.nil_append] at *
    by_cases h2 : T = t
    · rw [if_pos ⟨h1, h2⟩]
      subst h2
      simp only
      refine pcallc mixed Tryz.func159 ac_tape_rest ?_
      repeat' (first | (with_reducible first | refine Cn (fun h => ?_) fun h => ?_ | refine And.intro ?_ ?_ | refine wR ?_ | exact wr _ _ | refine wa ?_ | apply awp_join | refine q hte ?_ | refine qd hte ?_ | refine qz hte ?_ | refine q htr ?_ | refine qd htr ?_ | refine qz htr ?_) | (with_reducible refine CallZ.z ?_) | simp -dsimp [go_sem])
      all_goals trace_state
    · rw [if_neg (fun h => h2 h.2)]
      have q1 : (T == t) = false := by simpa using h2
      refine pcallc mixed Tryz.func159 ac_tape_rest ?_
      repeat' (first | (with_reducible first | refine Cn (fun h => ?_) fun h => ?_ | refine And.intro ?_ ?_ | refine wR ?_ | exact wr _ _ | refine wa ?_ | apply awp_join | refine q hte ?_ | refine qd hte ?_ | refine qz hte ?_) | (with_reducible refine CallZ.z ?_) | simp -dsimp [go_sem, q1])
      all_goals trace_state
  · rw [if_neg (fun h => h1 h.1)]
    have q1 : (termErr base items.length i == 0) = false := by simpa using h1
    simp only [Lg.c, logC, Mach.c, List.cons_append, List.nil_append] at *
    refine pcallc mixed Tryz.func159 ac_tape_rest ?_
    repeat' (first | (with_reducible first | refine Cn (fun h => ?_) fun h => ?_ | refine And.intro ?_ ?_ | refine wR ?_ | exact wr _ _ | refine wa ?_ | apply awp_join | refine q hte ?_ | refine qd hte ?_ | refine qz hte ?_) | (with_reducible refine CallZ.z ?_) | simp -dsimp [go_sem, q1])
    all_goals trace_state
end Go.Proofs.YtkkleopmambcnaaGreatDoor
set_option linter.unusedVariables false
set_option linter.unusedSimpArgs false
set_option maxRecDepth 100000
set_option maxHeartbeats 8000000
namespace Go.Proofs.YtkkleopmambcnaaGreatDoor
open Go Go.RowKit Go.Proofs.AE
variable {G : Nat → AV}
theorem bR_three (n : Int) : bR (threeB n) = [[.lit (.int .u8 ((smallB (n / 65536)).toNat : Int))], [.lit (.int .u8 ((smallB (n / 256)).toNat : Int))], [.lit (.int .u8 ((smallB n).toNat : Int))]] := rfl
theorem three_c (n : Int) : PCall Tryz.prog G 184 [iV n] (.one (.v (.sl (bR (threeB n))))) := by
  have h1 := wrap_u8 (n / 65536)
  have h2 := wrap_u8 (n / 256)
  have h3 := wrap_u8 n
  have f1 : n.fdiv 65536 = n / 65536 := Int.fdiv_eq_ediv_of_nonneg _ (by omega)
  have f2 : n.fdiv 256 = n / 256 := Int.fdiv_eq_ediv_of_nonneg _ (by omega)
  rw [bR_three]
  refine pcallc mixed Tryz.func184 ac_tape_three ?_
  repeat' (first | (with_reducible first | refine Cn (fun h => ?_) fun h => ?_ | refine And.intro ?_ ?_ | refine wR ?_ | exact wr _ _ | refine wa ?_ | apply awp_join) | (with_reducible refine CallZ.z ?_) | simp -dsimp [go_sem, h1, h2, h3, f1, f2])
  all_goals trace_state
theorem or_i64 (a b i : Nat) (hb : b < 2 ^ i) (h : a * 2 ^ i + b < 1099511627776) : bitsV .or .i64 ((a * 2 ^ i : Nat) : Int) (b : Int) = ((a * 2 ^ i + b : Nat) : Int) := by
  unfold bitsV
  simp only [IntKind.bits]
  have e1 : (BitVec.ofInt 64 ((a * 2 ^ i : Nat) : Int)) = BitVec.ofNat 64 (a * 2 ^ i) := rfl
  have e2 : (BitVec.ofInt 64 (b : Int)) = BitVec.ofNat 64 b := rfl
  rw [e1, e2]
  change IntKind.i64.wrap (((BitVec.ofNat 64 (a * 2 ^ i) ||| BitVec.ofNat 64 b : BitVec 64).toNat : Nat) : Int) = _
  simp only [BitVec.toNat_or, BitVec.toNat_ofNat]
  rw [Nat.mod_eq_of_lt (by omega), Nat.mod_eq_of_lt (by omega)]
  have e3 : a * 2 ^ i ||| b = a * 2 ^ i + b := by
    have := Nat.shiftLeft_add_eq_or_of_lt (i := i) (b := b) hb a
    rw [Nat.shiftLeft_eq] at this
    exact this.symm
  rw [e3, IntWalk.i64_in _ (by omega)]
theorem value3_c (x y z : UInt8) (t : List UInt8) : PCall Tryz.prog G 161 [.one (.v (.sl (bR (x :: y :: z :: t))))] (iV (valB3 x y z)) := by
  have g0 : (bR (x :: y :: z :: t))[0]? = some [.lit (.int .u8 (x.toNat : Int))] := rfl
  have g1 : (bR (x :: y :: z :: t))[1]? = some [.lit (.int .u8 (y.toNat : Int))] := rfl
  have g2 : (bR (x :: y :: z :: t))[2]? = some [.lit (.int .u8 (z.toNat : Int))] := rfl
  have hx := x.toNat_lt; have hy := y.toNat_lt; have hz := z.toNat_lt
  have wx : IntKind.i64.wrap (x.toNat : Int) = x.toNat := IntWalk.i64_in _ (by omega)
  have wy : IntKind.i64.wrap (y.toNat : Int) = y.toNat := IntWalk.i64_in _ (by omega)
  have wz : IntKind.i64.wrap (z.toNat : Int) = z.toNat := IntWalk.i64_in _ (by omega)
  have sx : IntKind.i64.wrap ((x.toNat : Int) * 65536) = (x.toNat : Int) * 65536 := IntWalk.i64_in _ (by omega)
  have sy : IntKind.i64.wrap ((y.toNat : Int) * 256) = (y.toNat : Int) * 256 := IntWalk.i64_in _ (by omega)
  have o1 : bitsV .or .i64 ((x.toNat : Int) * 65536) ((y.toNat : Int) * 256) = ((x.toNat * 256 + y.toNat) * 256 : Nat) := by
    have := or_i64 x.toNat (y.toNat * 256) 16 (by omega) (by omega)
    rw [show ((x.toNat : Int) * 65536) = ((x.toNat * 2 ^ 16 : Nat) : Int) by omega, show ((y.toNat : Int) * 256) = ((y.toNat * 256 : Nat) : Int) by omega, this]
    omega
  have o2 : bitsV .or .i64 (((x.toNat * 256 + y.toNat) * 256 : Nat) : Int) (z.toNat : Int) = valB3 x y z := by
    have := or_i64 (x.toNat * 256 + y.toNat) z.toNat 8 (by omega) (by omega)
    rw [show (((x.toNat * 256 + y.toNat) * 256 : Nat) : Int) = (((x.toNat * 256 + y.toNat) * 2 ^ 8 : Nat) : Int) by omega, this]
    unfold valB3
    omega
  generalize bR (x :: y :: z :: t) = rows at *
  refine pcallc mixed Tryz.func161 ac_tape_value ?_
  repeat' (first | (with_reducible first | refine Cn (fun h => ?_) fun h => ?_ | refine And.intro ?_ ?_ | refine wR ?_ | exact wr _ _ | refine wa ?_ | apply awp_join) | (with_reducible refine CallZ.z ?_) | simp -dsimp [go_sem, g0, g1, g2, wx, wy, wz, sx, sy])
  rw [o1, o2]
end Go.Proofs.YtkkleopmambcnaaGreatDoor
set_option linter.unusedVariables false
set_option linter.unusedSimpArgs false
set_option maxRecDepth 100000
set_option maxHeartbeats 8000000
namespace Go.Proofs.YtkkleopmambcnaaGreatDoor
open Go Go.RowKit Go.Proofs.AE
variable {G : Nat → AV}
theorem detNil {P : Program} {f e m : Nat} {rest : List AV} {r : AV} {hp' : Hp} (hm : 0 < m) (h : DetCall P G f 0 [some (.arj e m 0 [])] (.one (.sub 0 m 0 0 0) :: rest) r hp') : DetCall P G f 0 [] (.one .nil :: rest) r hp' := by
  intro w ok μ xs hr hg hargs
  cases hargs with | cons ha ht =>
  rename_i x xs
  have hx : x = .slice none 0 0 := by cases ha with | one hc => cases hc; rfl
  subst hx
  have hμ : μ = [] := List.eq_nil_of_length_eq_zero hr.len
  subst hμ
  have hno : ∀ b, ¬ OwnL [some (.arj e m 0 [])] [MB.arr (.slice none 0 0)] b := by
    rintro b ⟨i, blk, mm, h1, h2, h3⟩
    cases i with
    | zero => simp at h2; subst h2; cases h3
    | succ i => simp at h1
  have hr' : HR w ok [MB.arr (.slice none 0 0)] [some (.arj e m 0 [])] := by
    refine ⟨rfl, ?_, ?_, ?_⟩
    · intro j b hj
      cases j with
      | zero => simp at hj; subst hj; exact ⟨_, rfl, ⟨hm, (fun _ h => by cases h), .inl ⟨rfl, rfl, rfl⟩⟩⟩
      | succ j => simp at hj
    · intro j1 j2 b c q1 q2 k' hij h1 h2
      cases j1 <;> cases j2 <;> simp at h1 h2 hij
    · intro k' hk
      refine ⟨(hr.okn k' hk).1, fun j b q hj hq hown => ?_⟩
      exact hno k' ⟨j, b, q, hj, hq, hown⟩
  have hargs' : AVRels w ok [MB.arr (.slice none 0 0)] (.one (.sub 0 m 0 0 0) :: rest) (.slice none 0 0 :: xs) :=
    .cons (.one (.sub _ _ _ _ rfl (.nil rfl rfl))) (ht.ext (fun i q hq => by simp at hq))
  refine (h w ok _ _ hr' hg hargs').mono ?_
  rintro e' w' ⟨y, r', hp1, ok', μ', rfl, hf, hrel, hk'⟩
  refine ⟨y, r', hp1, ok', μ', rfl, ⟨hf.hr, hf.os, hf.tape, hf.output, hf.size, fun b hb _ => hf.frame b hb (hno b), hf.oksub, fun b hb => ?_, fun b hb => ?_, fun i q hi => by omega⟩, hrel, hk'⟩
  · rcases hf.okfrom b hb with h3 | h3 | h3
    · exact .inl h3
    · exact .inr (.inl h3)
    · exact absurd h3 (hno b)
  · rcases hf.ownfrom b hb with h3 | h3
    · exact .inl h3
    · exact absurd h3 (hno b)
theorem qgi {P : Program} {G : Nat → AV} {Q} [CQ Q] {f : Nat} {hp' hp1 hpc : Hp} {args : List AV} {r r1 : AV} {K : AV → Hp → Prop} {x : Held K} (h : DetCall P G f 0 [] args r hp') (hk : K r1 hp1)
    (hi : idAVs args = true := by with_unfolding_all rfl)
    (e5 : renAV (sig [] 0 hpc.length) r = r1 := by (try conv => lhs; simp -dsimp [go_sem]); all_goals rfl)
    (e6 : mergeH hpc [] 0 hp' = hp1 := by (try conv => lhs; simp -dsimp [go_sem]); all_goals rfl) : Q P G f hpc args K x := by
  subst e5; subst e6
  have hc := gcall_sub (ρ := []) (hpc := hpc) h rfl (Nat.zero_le _) List.nodup_nil (fun j hj => by cases hj) trivial (idAVs_coe hi)
  exact CQ.up (hc.mono fun r1 hp1 ⟨r2, hp2, ⟨e1, e2⟩, e3, e4⟩ => by subst e1; subst e2; exact ⟨e3, e4⟩) hk
theorem grow_c (n : Int) (h0 : 0 ≤ n) (h1 : n ≤ 1000000000) : DetCall Tryz.prog G 217 0 [] [.one .nil, iV n] (.one (.ar 0)) [some (.arr 5 1 [])] := by
  refine detNil (e := 5) (m := 1) (by decide) ?_
  have w1 : IntKind.i64.wrap n = n := IntWalk.i64_in _ (by omega)
  have w0 : IntKind.i64.wrap 0 = 0 := IntWalk.i64_in _ (by omega)
  have q0 : decide (n < 0) = false := decide_eq_false (by omega)
  by_cases hn : 0 < n
  · have q1 : decide (0 < n) = true := decide_eq_true hn
    refine gcallc mixed Tryz.func217 ac_slices_Grow_byte ?_
    repeat' (first | (with_reducible first | refine Cn (fun h => ?_) fun h => ?_ | refine And.intro ?_ ?_ | refine wR ?_ | exact wr _ _ | refine wa ?_ | apply awp_join) | (intro (c1 : Nat) hq1 hq2) | (with_reducible refine CallZ.z ?_) | simp -dsimp [go_sem, w0, w1, q0, q1])
    all_goals first | omega | assumption | trace_state
  · have q1 : decide (0 < n) = false := decide_eq_false hn
    refine gcallc mixed Tryz.func217 ac_slices_Grow_byte ?_
    repeat' (first | (with_reducible first | refine Cn (fun h => ?_) fun h => ?_ | refine And.intro ?_ ?_ | refine wR ?_ | exact wr _ _ | refine wa ?_ | apply awp_join) | (with_reducible refine CallZ.z ?_) | simp -dsimp [go_sem, w0, w1, q0, q1])
    all_goals first | omega | assumption | trace_state
def bL (L : List (List UInt8)) : List (List V) := L.map fun b => [.sl (bR b)]
def sumL (L : List (List UInt8)) : Nat := (L.map List.length).sum
theorem sumL_flat (L : List (List UInt8)) : L.flatten.length = sumL L := by unfold sumL; rw [List.length_flatten]
theorem sumL_take (L : List (List UInt8)) (i : Nat) : sumL (L.take i) ≤ sumL L := by
  have h := congrArg sumL (List.take_append_drop i L)
  have e : sumL (L.take i ++ L.drop i) = sumL (L.take i) + sumL (L.drop i) := by unfold sumL; rw [List.map_append, List.sum_append]
  omega
theorem sumL_succ {L : List (List UInt8)} {i : Nat} {b : List UInt8} (h : L[i]? = some b) : sumL (L.take (i + 1)) = sumL (L.take i) + b.length := by
  unfold sumL; rw [List.take_add_one, h, Option.toList_some]; simp
theorem flatL_succ {L : List (List UInt8)} {i : Nat} {b : List UInt8} (h : L[i]? = some b) : bR (L.take (i + 1)).flatten = bR (L.take i).flatten ++ bR b := by
  rw [List.take_add_one, h, Option.toList_some, List.flatten_append, bR_app]; simp
theorem concat_c (L : List (List UInt8)) (h1 : L.length ≤ 1000) (h2 : sumL L ≤ 1000000) : PCall Tryz.prog G 183 [.one (.v (.sl (bL L)))] (.one (.v (.sl (bR L.flatten)))) := by
  have hlen : (bL L).length = L.length := by unfold bL; simp
  have hat : ∀ (i : Nat) b, L[i]? = some b → (bL L)[i]? = some [.sl (bR b)] := fun i b h => by unfold bL; simp [h]
  have hst := sumL_take L
  have hzero : sumL (L.take 0) = 0 := rfl
  generalize bL L = rows at *
  refine pcallc mixed Tryz.func183 ac_slices_Concat_byte ?_
  repeat' (first | (with_reducible first | refine Cn (fun h => ?_) fun h => ?_ | refine And.intro ?_ ?_ | refine wR ?_ | exact wr _ _ | refine wa ?_ | apply awp_join) | (with_reducible refine CallZ.z ?_) | simp -dsimp [go_sem, hlen])
  refine awp_loop (fun i : Nat => ⟨[(0, .one (.v (.sl rows))), (3, iV (sumL (L.take i))), (9, .one (.v (.sl rows))), (10, iV L.length), (11, iV i)], G, []⟩) (fun i => i ≤ L.length) (fun i => L.length - i) 0 (weak_auto ?_) (Nat.zero_le _) ?_
  · simp -dsimp [go_sem, hzero, show sumL [] = 0 from rfl]
  · intro i hi
    have hsi := hst i
    by_cases hil : i < L.length
    · obtain ⟨b, hx⟩ : ∃ b, L[i]? = some b := ⟨_, List.getElem?_eq_getElem hil⟩
      have hr := hat i b hx
      have hsu := sumL_succ hx
      have hs2 := hst (i + 1)
      have hbl := bR_len b
      have q1 : decide (i < L.length) = true := decide_eq_true hil
      have w1 : IntKind.i64.wrap ((i : Int) + 1) = (i : Int) + 1 := IntWalk.i64_in _ (by omega)
      have w2 : IntKind.i64.wrap ((sumL (L.take i) : Int) + b.length) = ((sumL (L.take (i + 1)) : Nat) : Int) := by rw [IntWalk.i64_in _ (by omega)]; omega
      have q2 : decide (((sumL (L.take (i + 1)) : Nat) : Int) < 0) = false := decide_eq_false (by omega)
      generalize sumL (L.take (i + 1)) = S1 at *
      obtain ⟨S0, hS0⟩ : ∃ S0, sumL (L.take i) = S0 := ⟨_, rfl⟩
      rw [hS0] at w2 ⊢
      repeat' (first | (with_reducible first | refine Cn (fun h => ?_) fun h => ?_ | refine And.intro ?_ ?_ | refine wR ?_ | exact wr _ _ | refine wa ?_ | apply awp_join) | (with_reducible refine CallZ.z ?_) | simp -dsimp [go_sem, hr, hbl, q1, q2, w1, w2])
      all_goals first
        | omega
        | (refine Again.auto (i + 1) ?_ hil ?_
           · have hS1 : sumL (L.take (i + 1)) = S1 := by have := sumL_succ hx; omega
             simp -dsimp [go_sem, hS1]
           · show L.length - (i + 1) < L.length - i; omega)
        | trace_state
    · have hie : i = L.length := by omega
      subst hie
      rw [List.take_length]
      have q1 : decide (L.length < L.length) = false := decide_eq_false (by omega)
      have hg := grow_c (G := G) (sumL L : Int) (by omega) (by omega)
      repeat' (first | (with_reducible first | refine Cn (fun h => ?_) fun h => ?_ | refine And.intro ?_ ?_ | refine wR ?_ | exact wr _ _ | refine wa ?_ | apply awp_join) | (((with_reducible refine CallZ.l ?_); with_reducible refine qgi hg ?_)) | ((with_reducible refine qgi hg ?_)) | (with_reducible refine CallZ.z ?_) | simp -dsimp [go_sem, q1, hlen])
      refine awp_loop (fun i : Nat => ⟨[(6, .one (.ar 0)), (25, .one (.v (.sl rows))), (26, iV L.length), (27, iV i)], G, [some (.arr 5 1 (bR (L.take i).flatten))]⟩) (fun i => i ≤ L.length) (fun i => L.length - i) 0 (weak_auto ?_) (Nat.zero_le _) ?_
      · simp -dsimp [go_sem, bR]
      · intro i hi
        have hsi := hst i
        by_cases hil : i < L.length
        · obtain ⟨b, hx⟩ : ∃ b, L[i]? = some b := ⟨_, List.getElem?_eq_getElem hil⟩
          have hr := hat i b hx
          have hfs := flatL_succ hx
          have hs2 := hst (i + 1)
          have hsu := sumL_succ hx
          have hbl := bR_len b
          have hbu := bR_ul b
          have hfu := bR_ul (L.take i).flatten
          have hfl : (bR (L.take i).flatten).length = sumL (L.take i) := by rw [bR_len, sumL_flat]
          have q1 : decide (i < L.length) = true := decide_eq_true hil
          have w1 : IntKind.i64.wrap ((i : Int) + 1) = (i : Int) + 1 := IntWalk.i64_in _ (by omega)
          clear hg
          obtain ⟨R0, hR0⟩ : ∃ R, bR (L.take i).flatten = R := ⟨_, rfl⟩
          obtain ⟨R1, hR1⟩ : ∃ R, bR (L.take (i + 1)).flatten = R := ⟨_, rfl⟩
          rw [hR0] at hfs hfu hfl ⊢
          rw [hR1] at hfs
          generalize bR b = B at *
          repeat' (first | (with_reducible first | refine Cn (fun h => ?_) fun h => ?_ | refine And.intro ?_ ?_ | refine wR ?_ | exact wr _ _ | refine wa ?_ | apply awp_join) | (with_reducible refine CallZ.z ?_) | simp -dsimp [go_sem, hr, hbl, hbu, hfu, hfl, q1, w1])
          all_goals first
            | omega
            | (refine Again.auto (i + 1) ?_ hil ?_
               · simp -dsimp [go_sem, hR1, hfs]
               · show L.length - (i + 1) < L.length - i; omega)
            | trace_state
        · have hie : i = L.length := by omega
          subst hie
          rw [List.take_length]
          generalize bR L.flatten = R
          repeat' (first | (with_reducible first | refine Cn (fun h => ?_) fun h => ?_ | refine And.intro ?_ ?_ | refine wR ?_ | exact wr _ _ | refine wa ?_ | apply awp_join) | (with_reducible refine CallZ.z ?_) | simp -dsimp [go_sem, q1])
          all_goals trace_state
end Go.Proofs.YtkkleopmambcnaaGreatDoor
set_option linter.unusedVariables false
set_option linter.unusedSimpArgs false
set_option maxRecDepth 100000
set_option maxHeartbeats 8000000
namespace Go.Proofs.YtkkleopmambcnaaGreatDoor
open Go Go.RowKit Go.Proofs.AE
variable {G : Nat → AV}
abbrev tpC (d : List UInt8) (s : Int) : List C := [.v (.sl (bR d)), iC s]
structure TOk (d : List UInt8) (s : Int) : Prop where
  s0 : 0 ≤ s
  s1 : s ≤ d.length
  le : d.length ≤ 400000
theorem topen_c (d : List UInt8) (s : Int) (h : TOk d s) : PCall Tryz.prog G 160 [.agg (tpC d s)] (.tup [.agg (tpC d s), bV true]) := by
  have hs0 := h.s0; have hs1 := h.s1; have hle := h.le
  have q1 : decide (s < 0) = false := decide_eq_false (by omega)
  have q2 : decide ((d.length : Int) < s) = false := decide_eq_false (by omega)
  have q3 : decide (400000 < (d.length : Int)) = false := decide_eq_false (by omega)
  have hc := cloneB_c (G := G) d (by omega)
  have hl := bR_len d
  simp only [tpC]
  generalize bR d = R at *
  refine pcallc mixed Tryz.func160 ac_tape_open ?_
  repeat' (first | (with_reducible first | refine Cn (fun h => ?_) fun h => ?_ | refine And.intro ?_ ?_ | refine wR ?_ | exact wr _ _ | refine wa ?_ | apply awp_join | refine q hc ?_ | refine qd hc ?_ | refine qz hc ?_) | (with_reducible refine CallZ.z ?_) | simp -dsimp [go_sem, hl, q1, q2, q3])
  all_goals trace_state
theorem sync_c (d : List UInt8) (s : Int) (h : TOk d s) : PCall Tryz.prog G 125 [.agg (tpC d s)] (.tup [.agg (tpC d d.length), iV 0]) := by
  have ho := topen_c (G := G) d s h
  have hl := bR_len d
  simp only [tpC] at ho ⊢
  generalize bR d = R at *
  refine pcallc mixed Tryz.func125 ac_tape_Sync ?_
  repeat' (first | (with_reducible first | refine Cn (fun h => ?_) fun h => ?_ | refine And.intro ?_ ?_ | refine wR ?_ | exact wr _ _ | refine wa ?_ | apply awp_join | refine q ho ?_ | refine qd ho ?_ | refine qz ho ?_) | (with_reducible refine CallZ.z ?_) | simp -dsimp [go_sem, hl])
  all_goals trace_state
def crashN (d : List UInt8) (s k : Int) : Nat := (if k < (d.length : Int) - s then s + k else (d.length : Int)).toNat
theorem crash_c (d : List UInt8) (s k : Int) (h : TOk d s) (hk : 0 ≤ k) : PCall Tryz.prog G 126 [.agg (tpC d s), iV k] (.tup [.agg (tpC (d.take (crashN d s k)) (crashN d s k)), iV 0]) := by
  have hs0 := h.s0; have hs1 := h.s1; have hle := h.le
  have ho := topen_c (G := G) d s h
  have hl := bR_len d
  have hul := bR_ul d
  obtain ⟨n, hn⟩ : ∃ n, crashN d s k = n := ⟨_, rfl⟩
  have hnl : n ≤ d.length := by unfold crashN at hn; split at hn <;> omega
  have q1 : decide (k < 0) = false := decide_eq_false (by omega)
  have w1 : IntKind.i64.wrap ((d.length : Int) - s) = (d.length : Int) - s := IntWalk.i64_in _ (by omega)
  obtain ⟨mn, hmn⟩ : ∃ mn, (if (d.length : Int) - s < k then (d.length : Int) - s else k) = mn := ⟨_, rfl⟩
  have hmn2 : s + mn = (n : Int) := by unfold crashN at hn; split at hn <;> split at hmn <;> omega
  have w2 : IntKind.i64.wrap (s + mn) = (n : Int) := by rw [IntWalk.i64_in _ (by omega)]; exact hmn2
  have hmx : ∀ a b : Int, (if b < a then b else a) = (if b < a then b else a) := fun _ _ => rfl
  simp only [tpC] at ho ⊢
  rw [hn, show bR (d.take n) = (bR d).take n from (bR_take d n).symm]
  generalize bR d = R at *
  refine pcallc mixed Tryz.func126 ac_tape_Crash ?_
  repeat' (first | (with_reducible first | refine Cn (fun h => ?_) fun h => ?_ | refine And.intro ?_ ?_ | refine wR ?_ | exact wr _ _ | refine wa ?_ | apply awp_join | refine q ho ?_ | refine qd ho ?_ | refine qz ho ?_) | (with_reducible refine CallZ.z ?_) | simp -dsimp [go_sem, hl, hul, q1, w1, hmn, w2])
  all_goals first | omega | trace_state
theorem bR_cons (x : UInt8) (l : List UInt8) : bR (x :: l) = [.lit (.int .u8 (x.toNat : Int))] :: bR l := rfl
theorem tencode_c (r : Rcd) (h : checkRc r = 0) : PCall Tryz.prog G 182 [.agg r.c] (.one (.v (.sl (bR (encRc r))))) := by
  rcases rc_cases h with ⟨t, f, rfl, h1, h2, h3⟩ | ⟨i, x, rfl, h1, h2⟩ | ⟨i, t, m, rfl, h1, h2, h3⟩
  · have e : bR (encRc ⟨1, t, f, 0, zeroItem, 0, 0, zeroM⟩) = [[.lit (.int .u8 1)]] ++ bR (threeB t) ++ [[.lit (.int .u8 ((smallB (f + 1)).toNat : Int))]] := by
      unfold encRc; rw [if_pos (show (1 : Int) = 1 from rfl), bR_cons, bR_app]; simp [bR]
    have c1 := three_c (G := G) t
    have w1 : IntKind.i64.wrap (f + 1) = f + 1 := IntWalk.i64_in _ (by omega)
    have w2 := wrap_u8 (f + 1)
    have hul := bR_ul (threeB t)
    have hl : (bR (threeB t)).length = 3 := rfl
    rw [e]
    simp only [Rcd.c, zeroItem, zeroM, zeroS, List.map_nil]
    generalize bR (threeB t) = T at *
    refine pcallc mixed Tryz.func182 ac_tape_encode ?_
    repeat' (first | (with_reducible first | refine Cn (fun h => ?_) fun h => ?_ | refine And.intro ?_ ?_ | refine wR ?_ | exact wr _ _ | refine weak_autoC ?_ | apply awp_join | refine q c1 ?_ | refine qd c1 ?_ | refine qz c1 ?_) | (with_reducible refine CallZ.z ?_) | simp -dsimp [go_sem, w1, w2, hul, hl, clean_nil, clean_cons, clean_yes, clean_no])
    all_goals first | omega | (simp [UL]; done) | trace_state
  · have e : bR (encRc ⟨2, 0, 0, i, x, 0, 0, zeroM⟩) = [[.lit (.int .u8 2)]] ++ bR (threeB i) ++ bR (itemB x) := by
      unfold encRc; rw [if_neg (show ¬ (2 : Int) = 1 by omega), if_pos (show (2 : Int) = 2 from rfl), bR_cons, bR_app]; rfl
    have c1 := three_c (G := G) i
    have c2 := encodeItem_c (G := G) x h2
    have hul := bR_ul (threeB i)
    have hul2 := bR_ul (itemB x)
    have hl : (bR (threeB i)).length = 3 := rfl
    have hl2 : (bR (itemB x)).length ≤ 200 := by rw [bR_len]; exact itemB_short h2
    rw [e]
    obtain ⟨xt, xm, xn, xc, xs, xk, xa, xb, xd, xx⟩ := x
    simp only [Rcd.c, zeroM, zeroS, List.map_nil, Item.row, List.map_cons] at *
    generalize bR (threeB i) = T at *
    generalize bR (itemB ⟨xt, xm, xn, xc, xs, xk, xa, xb, xd, xx⟩) = B at *
    refine pcallc mixed Tryz.func182 ac_tape_encode ?_
    repeat' (first | (with_reducible first | refine Cn (fun h => ?_) fun h => ?_ | refine And.intro ?_ ?_ | refine wR ?_ | exact wr _ _ | refine weak_autoC ?_ | apply awp_join | refine q c1 ?_ | refine qd c1 ?_ | refine qz c1 ?_ | refine q c2 ?_ | refine qd c2 ?_ | refine qz c2 ?_) | (with_reducible refine CallZ.z ?_) | simp -dsimp [go_sem, hul, hl, hul2, clean_nil, clean_cons, clean_yes, clean_no])
    all_goals first | omega | (simp [UL]; done) | trace_state
  · have e : encRc ⟨3, 0, 0, 0, zeroItem, i, t, m⟩ = [[3], threeB i, threeB t, machB m].flatten := by
      unfold encRc; rw [if_neg (show ¬ (3 : Int) = 1 by omega), if_neg (show ¬ (3 : Int) = 2 by omega)]; simp
    have c1 := three_c (G := G) i
    have c2 := three_c (G := G) t
    have c3 := encode_c (G := G) m h3
    have hml := machB_len h3
    have c4 := concat_c (G := G) [[3], threeB i, threeB t, machB m] (by simp) (by unfold sumL threeB; simp; omega)
    rw [← e] at c4
    have e2 : bL [[3], threeB i, threeB t, machB m] = [[.sl [[.lit (.int .u8 3)]]], [.sl (bR (threeB i))], [.sl (bR (threeB t))], [.sl (bR (machB m))]] := rfl
    rw [e2] at c4
    obtain ⟨⟨now, es⟩, next, cs⟩ := m
    simp only [Rcd.c, zeroItem, Mach.c] at *
    generalize bR (threeB i) = T1 at *
    generalize bR (threeB t) = T2 at *
    generalize bR (machB ⟨⟨now, es⟩, next, cs⟩) = B at *
    generalize bR (encRc ⟨3, 0, 0, 0, ⟨0, 0, false, 0, 0, 0, ⟨#[]⟩, ⟨#[]⟩, ⟨#[]⟩, 0⟩, i, t, ⟨⟨now, es⟩, next, cs⟩⟩) = R at *
    refine pcallc mixed Tryz.func182 ac_tape_encode ?_
    repeat' (first | (with_reducible first | refine Cn (fun h => ?_) fun h => ?_ | refine And.intro ?_ ?_ | refine wR ?_ | exact wr _ _ | refine weak_autoC ?_ | apply awp_join | refine q c1 ?_ | refine qd c1 ?_ | refine qz c1 ?_ | refine q c2 ?_ | refine qd c2 ?_ | refine qz c2 ?_ | refine q c3 ?_ | refine qd c3 ?_ | refine qz c3 ?_ | refine q c4 ?_ | refine qd c4 ?_ | refine qz c4 ?_) | (with_reducible refine CallZ.z ?_) | simp -dsimp [go_sem, clean_nil, clean_cons, clean_yes, clean_no])
    all_goals first | omega | (simp [UL]; done) | trace_state
end Go.Proofs.YtkkleopmambcnaaGreatDoor
