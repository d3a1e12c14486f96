/- What is told may be told. -/
import Derived.Test.YtmaiphnabebplaaGreatDoorA9
set_option linter.unusedVariables false
set_option linter.unusedSimpArgs false
set_option maxRecDepth 100000
set_option maxHeartbeats 8000000
namespace Go.Proofs.YtmaiphnabebplaaGreatDoor
open Go Go.RowKit Go.Proofs.AE
variable {G : Nat → AV}
/-! ### what is told may be told -/
structure OkR (r : Rep) : Prop where
  code : 0 ≤ r.code ∧ r.code ≤ 13
  text : okText r.text = true
  len : r.list.length ≤ 20
  list : ∀ s ∈ r.list, okText s = true
  n : okCount r.n = true
theorem eT_ok : okText (⟨#[]⟩ : ByteArray) = true := rfl
theorem told_ok {n : Int} (h : okCount n = true) : OkR (toldR n) := ⟨⟨by show (0 : Int) ≤ 0; omega, by show (0 : Int) ≤ 13; omega⟩, rfl, Nat.zero_le _, (fun s hs => by cases hs), h⟩
theorem told_small {n : Int} (h0 : 0 ≤ n) (h1 : n ≤ 1099511627776) : OkR (toldR n) := told_ok (by unfold okCount; simp; omega)
theorem fail_ok {e : Int} (h0 : 0 ≤ e) (h1 : e ≤ 13) : OkR (failR e) := ⟨⟨h0, h1⟩, rfl, Nat.zero_le _, (fun s hs => by cases hs), rfl⟩
theorem textR_ok {t : ByteArray} (h : okText t = true) : OkR (textR t) := ⟨⟨by show (0 : Int) ≤ 0; omega, by show (0 : Int) ≤ 13; omega⟩, h, Nat.zero_le _, (fun s hs => by cases hs), rfl⟩
theorem flag_ok (b : Bool) : OkR (toldR (flagN b)) := told_small (by cases b <;> decide) (by cases b <;> decide)
theorem hashR_ok {l : List Pr} {c : Cmd} (h : ∀ p ∈ l, okField p.1 = true ∧ okText p.2 = true) (ht : okText c.text = true) : OkR (hashV l c).2 := by
  unfold hashV
  simp only
  repeat' split
  · exact told_small (by omega) (by omega)
  · exact fail_ok (by omega) (by omega)
  · exact told_small (by omega) (by omega)
  · refine textR_ok ?_
    cases hx : l[hashAt l c.field]? with
    | none => exact ht
    | some a => exact (h a (List.mem_of_getElem? hx)).2
  · exact fail_ok (by omega) (by omega)
  · exact told_small (by omega) (by omega)
  · exact told_small (by omega) (by omega)
theorem listR_ok {l : List ByteArray} {c : Cmd} (h : ∀ s ∈ l, okText s = true) (hl : l.length ≤ 20) : OkR (listV l c).2 := by
  have hg : ∀ i : Nat, okText (l[i]?.getD ⟨#[]⟩) = true := fun i => by
    cases hx : l[i]? with
    | none => rfl
    | some a => exact h a (List.mem_of_getElem? hx)
  unfold listV
  repeat' split
  · exact fail_ok (by omega) (by omega)
  · exact told_small (by omega) (by omega)
  · exact told_small (by omega) (by omega)
  · exact textR_ok (hg _)
  · exact textR_ok (hg _)
theorem setR_ok (l : List ByteArray) (c : Cmd) : OkR (setV l c).2 := by
  unfold setV
  simp only
  repeat' split
  all_goals first | exact told_small (by omega) (by omega) | exact fail_ok (by omega) (by omega) | exact flag_ok _
theorem firstI_bound {α : Type} (p : α → Bool) : ∀ (l : List α) (i : Nat), -1 ≤ firstI p i l ∧ firstI p i l < (i : Int) + l.length + 1
  | [], i => by unfold firstI; simp; omega
  | a :: l, i => by
    unfold firstI
    split
    · simp; omega
    · have := firstI_bound p l (i + 1)
      simp only [List.length_cons]
      omega
theorem ranksR_ok {l : List Sc} {c : Cmd} (hl : l.length ≤ 20) : OkR (ranksV l c).2 := by
  have hb := firstI_bound (fun s : Sc => decide (s.1 = c.text)) l 0
  change -1 ≤ rankOf l c.text ∧ rankOf l c.text < _ at hb
  unfold ranksV
  simp only
  repeat' split
  all_goals first | exact told_small (by omega) (by omega) | exact fail_ok (by omega) (by omega)
theorem allV_ok {v : Val} (h : OkB v) : (allV v).length ≤ 20 ∧ ∀ s ∈ allV v, okText s = true := by
  have he := h.els
  unfold Val.els at he
  unfold allV
  refine ⟨by simp; omega, fun s hs => ?_⟩
  rcases List.mem_append.1 hs with hs | hs
  · rcases List.mem_append.1 hs with hs | hs
    · exact h.okI s hs
    · obtain ⟨p, hp, rfl⟩ := List.mem_map.1 hs
      have := (h.okP p hp).1
      unfold okField at this
      unfold okText
      simp only [Bool.and_eq_true, decide_eq_true_eq] at this ⊢
      omega
  · obtain ⟨p, hp, rfl⟩ := List.mem_map.1 hs
    exact (h.okS p hp).1
theorem doV_okR {v : Val} {c : Cmd} (h : OkB v) (ht : okText c.text = true) : OkR (doV v c).2 := by
  have he := h.els
  unfold Val.els at he
  unfold doV
  repeat' split
  · exact told_small (by omega) (by omega)
  · exact textR_ok h.okT
  · rename_i hc; exact told_ok hc
  · exact fail_ok (by omega) (by omega)
  · refine told_small ?_ ?_ <;> (unfold Val.els; omega)
  · obtain ⟨h1, h2⟩ := allV_ok h
    exact ⟨⟨by show (0 : Int) ≤ 0; omega, by show (0 : Int) ≤ 13; omega⟩, rfl, h1, h2, rfl⟩
  · exact hashR_ok h.okP ht
  · exact listR_ok h.okI (by omega)
  · exact setR_ok _ _
  · exact ranksR_ok (by omega)
theorem DoEnd_okR {v : Val} {q : Val × Rep} (h : OkR q.2) : OkR (DoEnd v q).2.1 := by
  unfold DoEnd
  repeat' split
  all_goals exact h
theorem DoV_okR {v : Val} {c : Cmd} (hv : Vk v) (hc : checkC c = 0) (hk : c.kind ≤ 18) : OkR (DoV v c).2.1 := by
  have ht := (checkC_facts hc).2.2.1
  have hk1 := checkC_kind hc
  rcases hv with h | h
  · have hv := checkV_iff.2 h
    by_cases hm : (kindOfC c.kind ≠ 0 ∧ kindOfC c.kind ≠ v.kind) ∨ (17 ≤ c.kind ∧ v.kind < 3)
    · rw [DoV_type hv hc hk hm]; exact fail_ok (by omega) (by omega)
    · rw [DoV_go hv hc hk hm]; exact DoEnd_okR (doV_okR h.b ht)
  · subst h
    rw [DoV_zero hc hk]
    split
    · by_cases e : c.kind = 1
      · have hd : doV ⟨kindOfC c.kind, ⟨#[]⟩, 0, [], [], []⟩ c = doV ⟨1, ⟨#[]⟩, 0, [], [], []⟩ c := by unfold doV; rw [if_pos e, if_pos e]
        rw [hd]
        exact DoEnd_okR (doV_okR (fresh_b (by omega) (by omega)) ht)
      · rename_i hmk
        have hk2 : c.kind ≤ 14 := by
          unfold makesC at hmk
          simp at hmk
          omega
        have hr : 1 ≤ kindOfC c.kind ∧ kindOfC c.kind ≤ 6 := by
          have hne := kindOf_zero hk1 (by omega) e
          unfold kindOfC at hne ⊢
          repeat' split
          all_goals simp_all
        exact DoEnd_okR (doV_okR (fresh_b hr.1 hr.2) ht)
    · exact fail_ok (by omega) (by omega)
/-- What a store's command tells. -/
theorem doE_okR {now : Int} {l : List Ent} {c : Cmd} (hn0 : 0 ≤ now) (hr : Rise l) (ha : ∀ e ∈ l, OkE now e) (hl : l.length ≤ 12) (hc : checkC c = 0) : OkR (doE now l c).2 := by
  have hk1 := checkC_kind hc
  have hkf := (checkC_facts hc).2.1
  unfold doE
  by_cases k1 : c.kind = 22
  · rw [if_pos k1]
    refine ⟨⟨by show (0 : Int) ≤ 0; omega, by show (0 : Int) ≤ 13; omega⟩, rfl, by show (l.map Ent.key).length ≤ 20; rw [List.length_map]; omega, fun s hs => ?_, rfl⟩
    obtain ⟨e, he, rfl⟩ := List.mem_map.1 hs
    have := (ha e he).key
    unfold okField at this
    unfold okText
    simp only [Bool.and_eq_true, decide_eq_true_eq] at this ⊢
    omega
  · rw [if_neg k1]
    by_cases k2 : c.kind = 19
    · rw [if_pos k2]
      split <;> exact told_small (by omega) (by omega)
    · rw [if_neg k2]
      by_cases k3 : c.kind = 20 ∨ c.kind = 21
      · rw [if_pos k3]
        obtain ⟨t1, t2⟩ := timedE_spec hr now c
        cases hg : getE l c.key with
        | none => rw [t1 hg]; exact fail_ok (by omega) (by omega)
        | some e =>
          obtain ⟨t3, t4, t5⟩ := t2 e hg
          have ht := (ha e (getE_mem hg).1).till
          by_cases k4 : c.kind = 21
          · rw [t3 k4]; refine told_small ?_ ?_ <;> (split <;> omega)
          · by_cases k5 : c.n < 1 ∨ 1073741824 - now < c.n
            · rw [t4 k4 k5]; exact fail_ok (by omega) (by omega)
            · rw [(t5 k4 k5).1]; exact told_small (by omega) (by omega)
      · rw [if_neg k3, (valE_spec hr c).2]
        have hvk : Vk (((getE l c.key).map Ent.val).getD zeroV) := by
          cases hg : getE l c.key with
          | none => exact .inr rfl
          | some e => exact .inl (ha e (getE_mem hg).1).val
        have hn := DoV_okR hvk hc (by omega)
        change OkR (newR l c) at hn
        repeat' split
        all_goals first | exact hn | exact fail_ok (by omega) (by omega)
theorem apply_okR {s : Sto} (h : OkS s) {t : Int} (h0 : 0 ≤ t) (h1 : t ≤ 1073741824) {c : Cmd} (hc : checkC c = 0) : OkR (ApplyS s t c).2.1 := by
  rw [(apply_ok h h0 h1 hc).1]
  obtain ⟨a1, a2, a3⟩ := alive_ok h (maxI_le s.now t).1
  exact doE_okR (by have := h.now; have := maxI_le s.now t; omega) a1 a2 a3 hc
structure Cli where
  id : Int
  seq : Int
  time : Int
  reply : Rep
structure Mach where
  sto : Sto
  next : Int
  clis : List Cli
structure Cal where
  client : Int
  seq : Int
  cmd : Cmd
def Cli.c (x : Cli) : List C := [iC x.id, iC x.seq, iC x.time, iC x.reply.code, sC x.reply.text, iC x.reply.n, .v (.sl (strRows x.reply.list))]
def Cli.row (x : Cli) : List V := [.lit (.int .i64 x.id), .lit (.int .i64 x.seq), .lit (.int .i64 x.time), .lit (.int .i64 x.reply.code), .lit (.string x.reply.text), .lit (.int .i64 x.reply.n), .sl (strRows x.reply.list)]
abbrev clR (l : List Cli) : List (List V) := l.map Cli.row
def Mach.c (m : Mach) : List C := [iC m.sto.now, .v (.sl (eR m.sto.ents)), iC m.next, .v (.sl (clR m.clis))]
def Cal.c (c : Cal) : List C := [iC c.client, iC c.seq, iC c.cmd.kind, sC c.cmd.key, sC c.cmd.field, sC c.cmd.text, iC c.cmd.n]
def checkR (r : Rep) : Int := checkReply r.code r.text r.n r.list
def checkCl (c : Cal) : Int := checkCall c.client c.seq c.cmd.kind c.cmd.key c.cmd.field c.cmd.text c.cmd.n
def badC (next now : Int) (x : Cli) : Bool := decide (x.id < 1) || decide (next ≤ x.id) || decide (x.seq < 0) || decide (1048576 < x.seq) || decide (x.time < 0) || decide (now < x.time) || (checkR x.reply != 0)
def cI (a b : Cli) : Int := a.id - b.id
def checkM (m : Mach) : Int :=
  if checkS m.sto ≠ 0 ∨ m.next < 1 ∨ 1048577 < m.next ∨ 4 < m.clis.length then 13
  else if m.clis.any (badC m.next m.sto.now) = true then 13
  else if rising cI m.clis = true then 0 else 13
/-- The first of the least times. -/
def oldest : List Cli → Nat → Nat → List Cli → Nat
  | _, old, _, [] => old
  | all, old, i, x :: r => oldest all (match all[old]? with | some y => if x.time < y.time then i else old | none => old) (i + 1) r
def openM (m : Mach) : Mach × Rep :=
  if 1048576 < m.next then (m, failR 6)
  else (⟨m.sto, m.next + 1, (if m.clis.length = 4 then delAt m.clis (oldest m.clis 0 0 m.clis) else m.clis) ++ [⟨m.next, 0, m.sto.now, toldR 0⟩]⟩, toldR m.next)
def findC (l : List Cli) (id : Int) : Int := firstI (fun x => x.id == id) 0 l
def zeroM : Mach := ⟨zeroS, 0, []⟩
def callM (m : Mach) (time : Int) (c : Cal) : Mach × Rep :=
  if c.client = 0 then openM m
  else if findC m.clis c.client < 0 then (m, failR 11)
  else match m.clis[(findC m.clis c.client).toNat]? with
    | none => (m, failR 11)
    | some x =>
      if c.seq = x.seq then (m, x.reply)
      else if c.seq ≠ x.seq + 1 then (m, failR 10)
      else (⟨(ApplyS m.sto time c.cmd).1, m.next, m.clis.set (findC m.clis c.client).toNat ⟨x.id, c.seq, (ApplyS m.sto time c.cmd).1.now, (ApplyS m.sto time c.cmd).2.1⟩⟩, (ApplyS m.sto time c.cmd).2.1)
def DoM (m : Mach) (time : Int) (c : Cal) : Mach × Rep × Int :=
  if checkM m ≠ 0 then (zeroM, toldR 0, checkM m)
  else if time < 0 ∨ 1073741824 < time then (zeroM, toldR 0, 2)
  else if checkCl c ≠ 0 then (zeroM, toldR 0, checkCl c)
  else ((callM ⟨(ApplyS m.sto time keysC).1, m.next, m.clis⟩ time c).1, (callM ⟨(ApplyS m.sto time keysC).1, m.next, m.clis⟩ time c).2, 0)
/-! ### a machine that may be -/
structure OkC (next now : Int) (x : Cli) : Prop where
  id : 1 ≤ x.id ∧ x.id < next
  seq : 0 ≤ x.seq ∧ x.seq ≤ 1048576
  time : 0 ≤ x.time ∧ x.time ≤ now
  reply : checkR x.reply = 0
def RiseC (l : List Cli) : Prop := l.Pairwise (fun a b => a.id < b.id)
structure OkM (m : Mach) : Prop where
  sto : OkS m.sto
  next : 1 ≤ m.next ∧ m.next ≤ 1048577
  len : m.clis.length ≤ 4
  all : ∀ x ∈ m.clis, OkC m.next m.sto.now x
  rise : RiseC m.clis
theorem badC_iff {next now : Int} {x : Cli} : badC next now x = false ↔ OkC next now x := by
  unfold badC
  constructor
  · intro h
    simp only [Bool.or_eq_false_iff, decide_eq_false_iff_not, bne_eq_false_iff_eq] at h
    obtain ⟨⟨⟨⟨⟨⟨h1, h2⟩, h3⟩, h4⟩, h5⟩, h6⟩, h7⟩ := h
    exact ⟨by omega, by omega, by omega, h7⟩
  · rintro ⟨h1, h2, h3, h4⟩
    simp only [Bool.or_eq_false_iff, decide_eq_false_iff_not, bne_eq_false_iff_eq]
    exact ⟨⟨⟨⟨⟨⟨by omega, by omega⟩, by omega⟩, by omega⟩, by omega⟩, by omega⟩, h4⟩
theorem cI_tr : ∀ a b c : Cli, cI a b < 0 → cI b c < 0 → cI a c < 0 := fun a b c h1 h2 => by unfold cI at *; omega
theorem riseC_iff {l : List Cli} : rising cI l = true ↔ RiseC l := by
  rw [rising_iff cI_tr]
  unfold RiseC
  constructor <;> exact fun h => h.imp fun h => by unfold cI at *; omega
theorem checkM_iff {m : Mach} : checkM m = 0 ↔ OkM m := by
  unfold checkM
  constructor
  · intro h
    split at h
    · cases h
    · rename_i h1
      simp only [not_or] at h1
      split at h
      · cases h
      · rename_i h2
        split at h
        · rename_i h3
          refine ⟨checkS_iff.1 (Classical.not_not.1 h1.1), by omega, by omega, fun x hx => badC_iff.1 ?_, riseC_iff.1 h3⟩
          cases hb : badC m.next m.sto.now x with
          | false => rfl
          | true => exact absurd (List.any_eq_true.2 ⟨x, hx, hb⟩) h2
        · cases h
  · rintro ⟨h1, h2, h3, h4, h5⟩
    rw [if_neg, if_neg, if_pos (riseC_iff.2 h5)]
    · intro h
      obtain ⟨x, hx, hb⟩ := List.any_eq_true.1 h
      rw [badC_iff.2 (h4 x hx)] at hb; cases hb
    · simp only [not_or]
      exact ⟨fun h => h (checkS_iff.2 h1), by omega, by omega, by omega⟩
theorem checkR_iff {r : Rep} : checkR r = 0 ↔ OkR r := by
  unfold checkR checkReply
  constructor
  · intro h
    repeat' split at h
    all_goals first | (cases h; done) | skip
    rename_i h1 h2 h3 h4 h5 h6 h7
    simp only [decide_eq_true_eq] at h1 h2 h3 h4 h6 h7
    refine ⟨by omega, by unfold okText; simp; omega, by omega, fun s hs => ?_, by unfold okCount; simp; omega⟩
    unfold okText
    simp only [decide_eq_true_eq]
    apply Classical.not_not.1
    intro hh
    exact h5 (List.any_eq_true.2 ⟨s, hs, by simp; omega⟩)
  · rintro ⟨h1, h2, h3, h4, h5⟩
    unfold okText at h2 h4
    unfold okCount at h5
    simp only [decide_eq_true_eq, Bool.and_eq_true] at h2 h4 h5
    have ha : ¬ (r.list.any fun s => decide (20 < (s.size : Int))) = true := fun h => by
      obtain ⟨s, hs, hb⟩ := List.any_eq_true.1 h
      have := h4 s hs
      simp at hb; omega
    rw [if_neg (by simp; omega), if_neg (by simp; omega), if_neg (by simp; omega), if_neg (by simp; omega), if_neg ha, if_neg (by simp; omega), if_neg (by simp; omega)]
/-! ### the machine -/
theorem oldest_lt (all : List Cli) : ∀ (r : List Cli) (old i : Nat), old < all.length → i + r.length ≤ all.length → oldest all old i r < all.length
  | [], old, _, h, _ => h
  | x :: r, old, i, h, hi => by
    unfold oldest
    simp only [List.length_cons] at hi
    refine oldest_lt all r _ (i + 1) ?_ (by omega)
    split
    · split <;> omega
    · exact h
theorem RiseC.sub {l l' : List Cli} (h : RiseC l) (hs : l'.Sublist l) : RiseC l' := List.Pairwise.sublist hs h
theorem open_ok {m : Mach} (h : OkM m) : OkM (openM m).1 ∧ OkR (openM m).2 := by
  unfold openM
  by_cases hn : 1048576 < m.next
  · rw [if_pos hn]; exact ⟨h, fail_ok (by omega) (by omega)⟩
  · rw [if_neg hn]
    obtain ⟨L, hL⟩ : ∃ L, (if m.clis.length = 4 then delAt m.clis (oldest m.clis 0 0 m.clis) else m.clis) = L := ⟨_, rfl⟩
    have hsub : L.Sublist m.clis ∧ L.length ≤ 3 := by
      rw [← hL]
      split
      · rename_i h4
        have hlt := oldest_lt m.clis m.clis 0 0 (by omega) (by omega)
        exact ⟨del_sub _ _, by have := delE_len hlt; omega⟩
      · exact ⟨List.Sublist.refl _, by have := h.len; omega⟩
    rw [hL]
    have hnx := h.next
    have hnow := h.sto.now
    refine ⟨⟨h.sto, ⟨by show 1 ≤ m.next + 1; omega, by show m.next + 1 ≤ 1048577; omega⟩, by show (L ++ [_]).length ≤ 4; rw [List.length_append]; simp; omega, fun x hx => ?_, ?_⟩, told_small (by omega) (by omega)⟩
    · rcases List.mem_append.1 hx with hx | hx
      · have ho := h.all x (hsub.1.subset hx)
        exact ⟨⟨ho.id.1, by have := ho.id.2; show x.id < m.next + 1; omega⟩, ho.seq, ho.time, ho.reply⟩
      · simp only [List.mem_singleton] at hx
        subst hx
        exact ⟨⟨hnx.1, by show m.next < m.next + 1; omega⟩, ⟨Int.le_refl _, by show (0 : Int) ≤ 1048576; omega⟩, ⟨hnow.1, Int.le_refl _⟩, checkR_iff.2 (told_small (by omega) (by omega))⟩
    · refine List.pairwise_append.2 ⟨h.rise.sub hsub.1, List.pairwise_singleton _ _, fun a ha b hb => ?_⟩
      simp only [List.mem_singleton] at hb
      subst hb
      exact (h.all a (hsub.1.subset ha)).id.2
theorem later_ok {m : Mach} (h : OkM m) {s : Sto} (hs : OkS s) (hn : m.sto.now ≤ s.now) : OkM ⟨s, m.next, m.clis⟩ :=
  ⟨hs, h.next, h.len, fun x hx => by have ho := h.all x hx; exact ⟨ho.id, ho.seq, ⟨ho.time.1, Int.le_trans ho.time.2 hn⟩, ho.reply⟩, h.rise⟩
theorem call_cmd {c : Cal} (h : checkCl c = 0) (hc : c.client ≠ 0) : okNumber c.client = true ∧ okNumber c.seq = true ∧ checkC c.cmd = 0 := by
  unfold checkCl checkCall at h
  rw [if_neg (by simpa using hc)] at h
  split at h
  · rename_i h1
    split at h
    · rename_i h2; exact ⟨h1, h2, h⟩
    · cases h
  · cases h
theorem call_ok {m : Mach} (h : OkM m) {t : Int} (h0 : 0 ≤ t) (h1 : t ≤ 1073741824) {c : Cal} (hc : checkCl c = 0) : OkM (callM m t c).1 ∧ OkR (callM m t c).2 := by
  unfold callM
  by_cases hz : c.client = 0
  · rw [if_pos hz]; exact open_ok h
  · rw [if_neg hz]
    obtain ⟨n1, n2, hcc⟩ := call_cmd hc hz
    by_cases hf : findC m.clis c.client < 0
    · rw [if_pos hf]; exact ⟨h, fail_ok (by omega) (by omega)⟩
    · rw [if_neg hf]
      cases hx : m.clis[(findC m.clis c.client).toNat]? with
      | none => exact ⟨h, fail_ok (by omega) (by omega)⟩
      | some x =>
        have hm := List.mem_of_getElem? hx
        have ho := h.all x hm
        simp only
        by_cases e1 : c.seq = x.seq
        · rw [if_pos e1]; exact ⟨h, checkR_iff.1 ho.reply⟩
        · rw [if_neg e1]
          by_cases e2 : c.seq ≠ x.seq + 1
          · rw [if_pos e2]; exact ⟨h, fail_ok (by omega) (by omega)⟩
          · rw [if_neg e2]
            have hr := apply_okR h.sto h0 h1 hcc
            obtain ⟨e, ok⟩ := apply_ok h.sto h0 h1 hcc
            have hnow : m.sto.now ≤ (ApplyS m.sto t c.cmd).1.now := by rw [e]; exact (maxI_le _ _).1
            have okS : OkS (ApplyS m.sto t c.cmd).1 := by rw [e]; exact ok
            obtain ⟨S, hS⟩ : ∃ S, (ApplyS m.sto t c.cmd).1 = S := ⟨_, rfl⟩
            rw [hS] at hnow okS ⊢
            have hl := later_ok h okS hnow
            have hlt := (List.getElem?_eq_some_iff.1 hx).1
            have hxe := (List.getElem?_eq_some_iff.1 hx).2
            unfold okNumber at n2
            simp only [Bool.and_eq_true, decide_eq_true_eq] at n2
            refine ⟨⟨okS, h.next, by show (m.clis.set _ _).length ≤ 4; rw [List.length_set]; exact h.len, fun y hy => ?_, ?_⟩, hr⟩
            · rcases List.mem_or_eq_of_mem_set hy with hy | hy
              · exact hl.all y hy
              · subst hy
                exact ⟨ho.id, ⟨by show 0 ≤ c.seq; omega, n2.2⟩, ⟨okS.now.1, Int.le_refl _⟩, checkR_iff.2 hr⟩
            · have hri := h.rise
              unfold RiseC at hri ⊢
              rw [← List.pairwise_map (f := Cli.id) (R := fun a b => a < b)] at hri ⊢
              have : (m.clis.set (findC m.clis c.client).toNat ⟨x.id, c.seq, S.now, (ApplyS m.sto t c.cmd).2.1⟩).map Cli.id = m.clis.map Cli.id := by
                rw [List.map_set]
                refine List.ext_getElem? fun q => ?_
                rw [List.getElem?_set]
                split
                · rename_i hq
                  subst hq
                  rw [if_pos (by rw [List.length_map]; exact hlt), List.getElem?_map, hx]; rfl
                · rfl
              show ((m.clis.set (findC m.clis c.client).toNat ⟨x.id, c.seq, S.now, (ApplyS m.sto t c.cmd).2.1⟩).map Cli.id).Pairwise _
              rw [this]; exact hri
theorem do_ok {m : Mach} (h : OkM m) {t : Int} (h0 : 0 ≤ t) (h1 : t ≤ 1073741824) {c : Cal} (hc : checkCl c = 0) :
    DoM m t c = ((callM ⟨⟨maxI m.sto.now t, aliveS (maxI m.sto.now t) m.sto⟩, m.next, m.clis⟩ t c).1, (callM ⟨⟨maxI m.sto.now t, aliveS (maxI m.sto.now t) m.sto⟩, m.next, m.clis⟩ t c).2, 0) ∧
      OkM ⟨⟨maxI m.sto.now t, aliveS (maxI m.sto.now t) m.sto⟩, m.next, m.clis⟩ ∧ OkM (DoM m t c).1 ∧ OkR (DoM m t c).2.1 := by
  obtain ⟨e, ok⟩ := apply_ok h.sto h0 h1 keysC_ok
  rw [doE_keys] at e ok
  have hmid := later_ok h ok (maxI_le _ _).1
  have hd : DoM m t c = ((callM ⟨⟨maxI m.sto.now t, aliveS (maxI m.sto.now t) m.sto⟩, m.next, m.clis⟩ t c).1, (callM ⟨⟨maxI m.sto.now t, aliveS (maxI m.sto.now t) m.sto⟩, m.next, m.clis⟩ t c).2, 0) := by
    unfold DoM
    rw [if_neg (by rw [checkM_iff.2 h]; simp), if_neg (by omega), if_neg (by rw [hc]; simp), e]
  obtain ⟨c1, c2⟩ := call_ok hmid h0 h1 hc
  rw [hd]
  exact ⟨rfl, hmid, c1, c2⟩
end Go.Proofs.YtmaiphnabebplaaGreatDoor
