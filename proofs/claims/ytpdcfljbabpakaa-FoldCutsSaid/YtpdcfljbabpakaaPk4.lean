/- Texts joined: WM WE A4 CL2 WF Zp WD WC2 WG. -/
import Derived.Test.YtpdcfljbabpakaaPk3
/- Machines as bytes: the model; reading is the other way of writing. -/
set_option linter.unusedVariables false
set_option linter.unusedSimpArgs false
set_option maxRecDepth 100000
set_option maxHeartbeats 8000000
namespace Go.Proofs.Ytpdcfljbabpakaa
open Go Go.RowKit Go.Proofs.AE
/-- A reader and a writer of one kind of things. -/
structure Codec {α : Type} (f : Rd → α × Rd) (g : α → List UInt8) (ok : α → Prop) : Prop where
  back : ∀ a rest, ok a → f ⟨g a ++ rest, false⟩ = (a, ⟨rest, false⟩)
  reads : Reads f
  eats : ∀ r, (f r).2.short = false → ok (f r).1 → r.short = false ∧ r.rest = g (f r).1 ++ (f r).2.rest
theorem Codec.num : Codec numR numB inNum := ⟨fun n rest h => numR_app h rest, reads_num, fun r h hn => num_eats' h hn⟩
theorem Codec.text : Codec txtR textB (fun t => t.size ≤ 255) := ⟨fun t rest h => txtR_app h rest, reads_text, fun r h _ => text_eats' h⟩
def smR (r : Rd) : Int × Rd := ((smallR r).1, (smallR r).2)
theorem Codec.small : Codec smR (fun n => [smallB n]) (fun n => 0 ≤ n ∧ n < 256) := by
  refine ⟨fun n rest h => ?_, reads_small.map fun n : Nat => (n : Int), fun r h hn => ?_⟩
  · have := smallR_app (smallB n) rest
    unfold smR
    rw [show [smallB n] ++ rest = smallB n :: rest from rfl, this, smallB_toNat h.1 h.2]
    simp only [Prod.mk.injEq, and_true]
    omega
  · obtain ⟨h1, h2, _⟩ := small_eats' (r := r) h
    exact ⟨h1, h2⟩
theorem Codec.seq {α β : Type} {f : Rd → α × Rd} {g : α → List UInt8} {ok : α → Prop} {f' : Rd → β × Rd} {g' : β → List UInt8} {ok' : β → Prop} (A : Codec f g ok) (B : Codec f' g' ok') :
    Codec (fun r => (((f r).1, (f' (f r).2).1), (f' (f r).2).2)) (fun p => g p.1 ++ g' p.2) (fun p => ok p.1 ∧ ok' p.2) := by
  refine ⟨fun p rest h => ?_, Reads.bind (g := fun _ => f') Prod.mk A.reads fun _ => B.reads, fun r h ho => ?_⟩
  · simp only [List.append_assoc, A.back p.1 _ h.1, B.back p.2 _ h.2]
  · simp only at h ho ⊢
    obtain ⟨h1, h2⟩ := B.eats (f r).2 h ho.2
    obtain ⟨h3, h4⟩ := A.eats r h1 ho.1
    exact ⟨h3, by rw [h4, h2, List.append_assoc]⟩
theorem Codec.iso {α β : Type} {f : Rd → α × Rd} {g : α → List UInt8} {ok : α → Prop} (A : Codec f g ok) (to : α → β) (of : β → α) (h1 : ∀ b, to (of b) = b) (h2 : ∀ a, of (to a) = a) :
    Codec (fun r => (to (f r).1, (f r).2)) (fun b => g (of b)) (fun b => ok (of b)) := by
  refine ⟨fun b rest h => ?_, A.reads.map to, fun r h ho => ?_⟩
  · simp only [A.back (of b) rest h, h1]
  · simp only [h2] at h ho ⊢
    exact A.eats r h ho
def eachN {α : Type} (f : Rd → α × Rd) : Nat → Rd → List α × Rd
  | 0, r => ([], r)
  | n + 1, r => if r.short = true then ([], r) else ((f r).1 :: (eachN f n (f r).2).1, (eachN f n (f r).2).2)
def eachR {α : Type} (f : Rd → α × Rd) (r : Rd) : List α × Rd := eachN f (smallR r).1 (smallR r).2
def manyB {α : Type} (g : α → List UInt8) (l : List α) : List UInt8 := smallB l.length :: l.flatMap g
theorem eachN_back {α : Type} {f : Rd → α × Rd} {g : α → List UInt8} {ok : α → Prop} (A : Codec f g ok) : ∀ (l : List α) (rest : List UInt8), (∀ a ∈ l, ok a) → eachN f l.length ⟨l.flatMap g ++ rest, false⟩ = (l, ⟨rest, false⟩)
  | [], rest, _ => rfl
  | a :: l, rest, h => by
    have ih := eachN_back A l rest fun b hb => h b (List.mem_cons_of_mem _ hb)
    have ha := A.back a (l.flatMap g ++ rest) (h a (List.mem_cons_self ..))
    simp only [List.length_cons, eachN, List.flatMap_cons, List.append_assoc, Bool.false_eq_true, if_false, ha, ih]
theorem eachN_stuck {α : Type} {f : Rd → α × Rd} : ∀ (n : Nat) (l : List UInt8), (eachN f n ⟨l, true⟩).2.short = true
  | 0, _ => rfl
  | n + 1, l => by simp [eachN]
theorem eachN_reads {α : Type} {f : Rd → α × Rd} (A : Reads f) : ∀ n, Reads (eachN f n)
  | 0 => ⟨fun l => rfl, fun l1 l2 _ => rfl⟩
  | n + 1 => by
    have ih := eachN_reads A n
    have hb := Reads.bind (f := f) (g := fun _ => eachN f n) (fun a l => a :: l) A fun _ => ih
    refine ⟨fun l => eachN_stuck (n + 1) l, fun l1 l2 h => ?_⟩
    simp only [eachN, Bool.false_eq_true, if_false] at h ⊢
    exact hb.ext l1 l2 h
theorem eachN_eats {α : Type} {f : Rd → α × Rd} {g : α → List UInt8} {ok : α → Prop} (A : Codec f g ok) : ∀ (n : Nat) (r : Rd), (eachN f n r).2.short = false → (∀ a ∈ (eachN f n r).1, ok a) → r.short = false ∧ (eachN f n r).1.length = n ∧ r.rest = (eachN f n r).1.flatMap g ++ (eachN f n r).2.rest
  | 0, r, h, _ => ⟨h, rfl, rfl⟩
  | n + 1, r, h, ho => by
    unfold eachN at h ho ⊢
    by_cases hs : r.short = true
    · rw [if_pos hs] at h; rw [hs] at h; cases h
    · rw [if_neg hs] at h ho ⊢
      simp only [List.mem_cons] at h ho ⊢
      obtain ⟨i1, i2, i3⟩ := eachN_eats A n (f r).2 h fun a ha => ho a (.inr ha)
      obtain ⟨j1, j2⟩ := A.eats r i1 (ho _ (.inl rfl))
      exact ⟨j1, by simp [i2], by rw [j2, i3]; simp⟩
theorem Codec.many {α : Type} {f : Rd → α × Rd} {g : α → List UInt8} {ok : α → Prop} (A : Codec f g ok) : Codec (eachR f) (manyB g) (fun l => l.length ≤ 255 ∧ ∀ a ∈ l, ok a) := by
  refine ⟨fun l rest h => ?_, ?_, fun r h ho => ?_⟩
  · unfold eachR manyB
    rw [List.cons_append, smallR_app, smallB_toNat (by omega) (by omega)]
    simp only [Int.toNat_natCast]
    exact eachN_back A l rest h.2
  · exact Reads.bind (f := smallR) (g := fun n => eachN f n) (fun _ l => l) reads_small fun n => eachN_reads A.reads n
  · unfold eachR at h ho ⊢
    obtain ⟨h1, h2, h3⟩ := eachN_eats A _ _ h ho.2
    obtain ⟨h4, h5, _⟩ := small_eats' (r := r) h1
    refine ⟨h4, ?_⟩
    unfold manyB
    rw [h5, h3, h2]
    rfl
/-! ### machines -/
def prR (r : Rd) : Pr × Rd := (((txtR r).1, (txtR (txtR r).2).1), (txtR (txtR r).2).2)
def prB (p : Pr) : List UInt8 := textB p.1 ++ textB p.2
theorem Codec.pr : Codec prR prB (fun p => p.1.size ≤ 255 ∧ p.2.size ≤ 255) := Codec.seq Codec.text Codec.text
def scR (r : Rd) : Sc × Rd := (((txtR r).1, (numR (txtR r).2).1), (numR (txtR r).2).2)
def scB (s : Sc) : List UInt8 := textB s.1 ++ numB s.2
theorem Codec.sc : Codec scR scB (fun s => s.1.size ≤ 255 ∧ inNum s.2) := Codec.seq Codec.text Codec.num
abbrev ValT : Type := Int × ByteArray × Int × List Pr × List ByteArray × List Sc
def valT (v : Val) : ValT := (v.kind, v.text, v.count, v.pairs, v.items, v.scores)
def tVal (p : ValT) : Val := ⟨p.1, p.2.1, p.2.2.1, p.2.2.2.1, p.2.2.2.2.1, p.2.2.2.2.2⟩
def sqR {α β : Type} (f : Rd → α × Rd) (g : Rd → β × Rd) (r : Rd) : (α × β) × Rd := (((f r).1, (g (f r).2).1), (g (f r).2).2)
def mapR {α β : Type} (t : α → β) (f : Rd → α × Rd) (r : Rd) : β × Rd := (t (f r).1, (f r).2)
def valR : Rd → Val × Rd := mapR tVal (sqR smR (sqR txtR (sqR numR (sqR (eachR prR) (sqR (eachR txtR) (eachR scR))))))
def valB (v : Val) : List UInt8 := [smallB v.kind] ++ (textB v.text ++ (numB v.count ++ (manyB prB v.pairs ++ (manyB textB v.items ++ manyB scB v.scores))))
structure SizV (v : Val) : Prop where
  kind : 0 ≤ v.kind ∧ v.kind < 256
  text : v.text.size ≤ 255
  count : inNum v.count
  pairs : v.pairs.length ≤ 255 ∧ ∀ p ∈ v.pairs, p.1.size ≤ 255 ∧ p.2.size ≤ 255
  items : v.items.length ≤ 255 ∧ ∀ t ∈ v.items, t.size ≤ 255
  scores : v.scores.length ≤ 255 ∧ ∀ s ∈ v.scores, s.1.size ≤ 255 ∧ inNum s.2
theorem Codec.ok {α : Type} {f : Rd → α × Rd} {g : α → List UInt8} {ok ok' : α → Prop} (A : Codec f g ok) (h : ∀ a, ok' a → ok a) : Codec f g ok' := ⟨fun a rest ha => A.back a rest (h a ha), A.reads, fun r hs ha => A.eats r hs (h _ ha)⟩
theorem Codec.val : Codec valR valB SizV :=
  ((Codec.small.seq (Codec.text.seq (Codec.num.seq (Codec.pr.many.seq (Codec.text.many.seq Codec.sc.many))))).iso tVal valT (fun v => rfl) (fun p => rfl)).ok
    fun v h => ⟨h.kind, h.text, h.count, h.pairs, h.items, h.scores⟩
abbrev EntT : Type := ByteArray × Val × Int
def tEnt (p : EntT) : Ent := ⟨p.1, p.2.1, p.2.2⟩
def entR : Rd → Ent × Rd := mapR tEnt (sqR txtR (sqR valR numR))
def entB (e : Ent) : List UInt8 := textB e.key ++ (valB e.val ++ numB e.till)
structure SizE (e : Ent) : Prop where
  key : e.key.size ≤ 255
  val : SizV e.val
  till : inNum e.till
theorem Codec.ent : Codec entR entB SizE :=
  ((Codec.text.seq (Codec.val.seq Codec.num)).iso tEnt (fun e => (e.key, e.val, e.till)) (fun e => rfl) (fun p => rfl)).ok fun e h => ⟨h.key, h.val, h.till⟩
abbrev CliT : Type := Int × Int × Int × Int × ByteArray × Int × List ByteArray
def tCli (p : CliT) : Cli := ⟨p.1, p.2.1, p.2.2.1, ⟨p.2.2.2.1, p.2.2.2.2.1, p.2.2.2.2.2.1, p.2.2.2.2.2.2⟩⟩
def cliR : Rd → Cli × Rd := mapR tCli (sqR numR (sqR numR (sqR numR (sqR smR (sqR txtR (sqR numR (eachR txtR)))))))
def cliB (x : Cli) : List UInt8 := numB x.id ++ (numB x.seq ++ (numB x.time ++ ([smallB x.reply.code] ++ (textB x.reply.text ++ (numB x.reply.n ++ manyB textB x.reply.list)))))
structure SizC (x : Cli) : Prop where
  id : inNum x.id
  seq : inNum x.seq
  time : inNum x.time
  code : 0 ≤ x.reply.code ∧ x.reply.code < 256
  text : x.reply.text.size ≤ 255
  n : inNum x.reply.n
  list : x.reply.list.length ≤ 255 ∧ ∀ t ∈ x.reply.list, t.size ≤ 255
theorem Codec.cli : Codec cliR cliB SizC :=
  ((Codec.num.seq (Codec.num.seq (Codec.num.seq (Codec.small.seq (Codec.text.seq (Codec.num.seq Codec.text.many)))))).iso tCli (fun x => (x.id, x.seq, x.time, x.reply.code, x.reply.text, x.reply.n, x.reply.list)) (fun x => rfl) (fun p => rfl)).ok
    fun x h => ⟨h.id, h.seq, h.time, h.code, h.text, h.n, h.list⟩
abbrev MachT : Type := Int × List Ent × Int × List Cli
def tMach (p : MachT) : Mach := ⟨⟨p.1, p.2.1⟩, p.2.2.1, p.2.2.2⟩
def machR : Rd → Mach × Rd := mapR tMach (sqR numR (sqR (eachR entR) (sqR numR (eachR cliR))))
def machB (m : Mach) : List UInt8 := numB m.sto.now ++ (manyB entB m.sto.ents ++ (numB m.next ++ manyB cliB m.clis))
structure SizM (m : Mach) : Prop where
  now : inNum m.sto.now
  ents : m.sto.ents.length ≤ 255 ∧ ∀ e ∈ m.sto.ents, SizE e
  next : inNum m.next
  clis : m.clis.length ≤ 255 ∧ ∀ x ∈ m.clis, SizC x
theorem Codec.mach : Codec machR machB SizM :=
  ((Codec.num.seq (Codec.ent.many.seq (Codec.num.seq Codec.cli.many))).iso tMach (fun m => (m.sto.now, m.sto.ents, m.next, m.clis)) (fun m => rfl) (fun p => rfl)).ok fun m h => ⟨h.now, h.ents, h.next, h.clis⟩
theorem okT_size {t : ByteArray} (h : okText t = true) : t.size ≤ 20 := by unfold okText at h; simp at h; omega
theorem okF_size {t : ByteArray} (h : okField t = true) : t.size ≤ 12 := by unfold okField at h; simp at h; omega
theorem okC_num {n : Int} (h : okCount n = true) : inNum n := by unfold okCount at h; simp at h; unfold inNum; omega
theorem OkV.siz {v : Val} (h : OkV v) : SizV v := by
  have hb := h.b
  have he := hb.els
  unfold Val.els at he
  refine ⟨by have := h.kind; omega, by have := okT_size h.okT; omega, okC_num h.okC, ⟨by omega, fun p hp => ?_⟩, ⟨by omega, fun t ht => ?_⟩, ⟨by omega, fun s hs => ?_⟩⟩
  · have := h.okP p hp; have h1 := okF_size this.1; have h2 := okT_size this.2; omega
  · have := okT_size (h.okI t ht); omega
  · have := h.okS s hs; have h1 := okT_size this.1; exact ⟨by omega, okC_num this.2⟩
theorem OkE.siz {now : Int} (h0 : 0 ≤ now) {e : Ent} (h : OkE now e) : SizE e := by
  refine ⟨by have := okF_size h.key; omega, h.val.siz, ?_⟩
  have := h.till
  unfold inNum; omega
theorem OkC.siz {next now : Int} (hn : next ≤ 1048577) (hw : now ≤ 1073741824) {x : Cli} (h : OkC next now x) : SizC x := by
  have hr := checkR_iff.1 h.reply
  have h1 := h.id; have h2 := h.seq; have h3 := h.time
  refine ⟨by unfold inNum; omega, by unfold inNum; omega, by unfold inNum; omega, by have := hr.code; omega, by have := okT_size hr.text; omega, okC_num hr.n, ⟨by have := hr.len; omega, fun t ht => by have := okT_size (hr.list t ht); omega⟩⟩
theorem OkM.siz {m : Mach} (h : OkM m) : SizM m := by
  have h1 := h.sto.now; have h2 := h.next
  exact ⟨by unfold inNum; omega, ⟨by have := h.sto.len; omega, fun e he => (h.sto.all e he).siz h1.1⟩, by unfold inNum; omega, ⟨by have := h.len; omega, fun x hx => (h.all x hx).siz h2.2 h1.2⟩⟩
/-- What Decode makes of bytes. -/
def endR (r : Rd) : Int := if r.short = true then 9 else if 0 < r.rest.length then 8 else 0
def decM (l : List UInt8) : Mach × Int :=
  if 20000 < l.length then (zeroM, 1)
  else if endR (machR ⟨l, false⟩).2 ≠ 0 then (zeroM, endR (machR ⟨l, false⟩).2)
  else if checkM (machR ⟨l, false⟩).1 ≠ 0 then (zeroM, checkM (machR ⟨l, false⟩).1)
  else ((machR ⟨l, false⟩).1, 0)
theorem decM_back {m : Mach} (h : OkM m) (hl : (machB m).length ≤ 20000) : decM (machB m) = (m, 0) := by
  have e := Codec.mach.back m [] h.siz
  rw [List.append_nil] at e
  unfold decM
  rw [if_neg (by omega), e]
  simp only [endR]
  rw [if_neg (by simp), if_neg (by rw [checkM_iff.2 h]; simp)]
theorem decM_more {m : Mach} (h : OkM m) (t : UInt8) (hl : (machB m).length < 20000) : decM (machB m ++ [t]) = (zeroM, 8) := by
  have e := Codec.mach.back m [t] h.siz
  unfold decM
  rw [if_neg (by simp; omega), e]
  simp [endR]
theorem decM_torn {m : Mach} (h : OkM m) {k : Nat} (hk : k < (machB m).length) (hl : (machB m).length ≤ 20000) : decM ((machB m).take k) = (zeroM, 9) := by
  have hs : (machR ⟨(machB m).take k, false⟩).2.short = true := by
    cases hq : (machR ⟨(machB m).take k, false⟩).2.short with
    | true => rfl
    | false =>
      have e := Codec.mach.back m [] h.siz
      rw [List.append_nil] at e
      have e2 := Codec.mach.reads.ext ((machB m).take k) ((machB m).drop k) hq
      rw [List.take_append_drop, e] at e2
      have e3 := congrArg (fun q => q.2.rest) e2
      simp only at e3
      have e4 := congrArg List.length e3
      simp at e4
      omega
  unfold decM
  rw [if_neg (by rw [List.length_take]; omega)]
  have he : endR (machR ⟨(machB m).take k, false⟩).2 = 9 := by unfold endR; rw [if_pos hs]
  rw [he, if_pos (by omega)]
theorem decM_fixed {l : List UInt8} (h : (decM l).2 = 0) : OkM (decM l).1 ∧ machB (decM l).1 = l ∧ l.length ≤ 20000 := by
  unfold decM at h ⊢
  by_cases h1 : 20000 < l.length
  · rw [if_pos h1] at h; cases h
  · rw [if_neg h1] at h ⊢
    by_cases h2 : endR (machR ⟨l, false⟩).2 ≠ 0
    · rw [if_pos h2] at h; exact absurd h h2
    · rw [if_neg h2] at h ⊢
      by_cases h3 : checkM (machR ⟨l, false⟩).1 ≠ 0
      · rw [if_pos h3] at h; exact absurd h h3
      · rw [if_neg h3]
        have ok := checkM_iff.1 (Classical.not_not.1 h3)
        have he := Classical.not_not.1 h2
        unfold endR at he
        split at he
        · cases he
        · rename_i hs
          split at he
          · cases he
          · rename_i hr
            have hs' : (machR ⟨l, false⟩).2.short = false := by simpa using hs
            obtain ⟨_, e⟩ := Codec.mach.eats ⟨l, false⟩ hs' ok.siz
            have hr' : (machR ⟨l, false⟩).2.rest = [] := List.eq_nil_of_length_eq_zero (by omega)
            rw [hr', List.append_nil] at e
            exact ⟨ok, e.symm, by omega⟩
theorem decM_err {l : List UInt8} (h : (decM l).2 ≠ 0) : (decM l).1 = zeroM := by
  unfold decM at h ⊢
  split
  · rfl
  · split
    · rfl
    · split
      · rfl
      · rename_i h1 h2 h3
        rw [if_neg h1, if_neg h2, if_neg h3] at h
        exact absurd rfl h
/-! ### how long -/
theorem flat_len {α : Type} {g : α → List UInt8} {b : Nat} : ∀ (l : List α), (∀ a ∈ l, (g a).length ≤ b) → (l.flatMap g).length ≤ l.length * b
  | [], _ => by simp
  | a :: l, h => by
    have ih := flat_len l fun x hx => h x (List.mem_cons_of_mem _ hx)
    have ha := h a (List.mem_cons_self ..)
    rw [List.flatMap_cons, List.length_append, List.length_cons, Nat.add_mul]
    omega
theorem many_len {α : Type} {g : α → List UInt8} {b : Nat} {l : List α} (h : ∀ a ∈ l, (g a).length ≤ b) : (manyB g l).length ≤ 1 + l.length * b := by
  unfold manyB
  rw [List.length_cons]
  have := flat_len l h
  omega
theorem valB_len' {v : Val} (h : OkV v) : (valB v).length ≤ 900 := by
  have hb := h.b
  have he := hb.els
  unfold Val.els at he
  have h1 := okT_size h.okT
  have p := many_len (g := prB) (b := 34) (l := v.pairs) fun p hp => by
    have := h.okP p hp; have a := okF_size this.1; have b := okT_size this.2
    unfold prB; rw [List.length_append, textB_len, textB_len]; omega
  have i := many_len (g := textB) (b := 34) (l := v.items) fun t ht => by have := okT_size (h.okI t ht); rw [textB_len]; omega
  have s := many_len (g := scB) (b := 34) (l := v.scores) fun s hs => by
    have := h.okS s hs; have a := okT_size this.1
    unfold scB; rw [List.length_append, textB_len, numB_len]; omega
  unfold valB
  simp only [List.length_append, textB_len, numB_len, List.length_cons, List.length_nil]
  omega
theorem machB_len {m : Mach} (h : OkM m) : (machB m).length ≤ 13500 := by
  have e := many_len (g := entB) (b := 930) (l := m.sto.ents) fun e he => by
    have ok := h.sto.all e he
    have a := okF_size ok.key; have b := valB_len' ok.val
    unfold entB; simp only [List.length_append, textB_len, numB_len]; omega
  have c := many_len (g := cliB) (b := 500) (l := m.clis) fun x hx => by
    have hr := checkR_iff.1 (h.all x hx).reply
    have a := okT_size hr.text
    have b := many_len (g := textB) (b := 21) (l := x.reply.list) fun t ht => by have := okT_size (hr.list t ht); rw [textB_len]; omega
    have l := hr.len
    unfold cliB; simp only [List.length_append, textB_len, numB_len, List.length_cons, List.length_nil]; omega
  have h1 := h.sto.len
  have h2 := h.len
  unfold machB
  simp only [List.length_append, numB_len]
  omega
theorem machB_pos (m : Mach) : 0 < (machB m).length := by unfold machB; simp [numB_len]; omega
end Go.Proofs.Ytpdcfljbabpakaa

/- Machines as bytes: what the writer answers. -/
set_option linter.unusedVariables false
set_option linter.unusedSimpArgs false
set_option maxRecDepth 100000
set_option maxHeartbeats 8000000
namespace Go.Proofs.Ytpdcfljbabpakaa
open Go Go.RowKit Go.Proofs.AE
variable {G : Nat → AV}
theorem flat_succ {α : Type} {g : α → List UInt8} {xs : List α} {i : Nat} {x : α} (h : xs[i]? = some x) : (xs.take (i + 1)).flatMap g = (xs.take i).flatMap g ++ g x := by
  rw [List.take_add_one, h, Option.toList_some, List.flatMap_append]; simp
theorem flat_take {α : Type} {g : α → List UInt8} {b : Nat} {xs : List α} (h : ∀ a ∈ xs, (g a).length ≤ b) (i : Nat) : ((xs.take i).flatMap g).length ≤ xs.length * b := by
  have h1 := flat_len (xs.take i) (fun a ha => h a (List.mem_of_mem_take ha))
  have h2 : (xs.take i).length * b ≤ xs.length * b := Nat.mul_le_mul_right _ (by rw [List.length_take]; omega)
  omega
theorem strRows_at {l : List ByteArray} {i : Nat} {t : ByteArray} (h : l[i]? = some t) : (strRows l)[i]? = some [.lit (.string t)] := by simp [strRows, h]
theorem strRows_length (l : List ByteArray) : (strRows l).length = l.length := by simp [strRows]
theorem textB_le {t : ByteArray} (h : t.size ≤ 255) : (textB t).length ≤ 256 := by rw [textB_len]; omega
theorem wtexts_c (l : List UInt8) (ts : List ByteArray) (hl : l.length ≤ 700000) (hn : ts.length ≤ 255) (ht : ∀ t ∈ ts, t.size ≤ 255) :
    DetCall Try.prog G 29 1 (wHp l) [.one (.ptr 0 0), .one (.v (.sl (strRows ts)))] (.tup []) (wHp (l ++ manyB textB ts)) := by
  have hs : l ++ manyB textB ts = l ++ [smallB ts.length] ++ (ts.take ts.length).flatMap textB := by simp [manyB]
  have hfl := flat_take (g := textB) (b := 256) (xs := ts) fun t h => textB_le (ht t h)
  have hsm := wsmall_c (G := G) l ts.length (by omega)
  rw [hs]
  obtain ⟨l0, hl0⟩ : ∃ l0, l ++ [smallB ts.length] = l0 := ⟨_, rfl⟩
  have hl0n : l0.length ≤ 700001 := by rw [← hl0]; simp; omega
  rw [hl0] at hsm ⊢
  have hlen := strRows_length ts
  refine gcallc mixed Try.func29 ac_wire_writer_texts ?_
  unfold wHp
  repeat' (first | (with_reducible first | refine Cn (fun h => ?_) fun h => ?_ | refine And.intro ?_ ?_ | refine wR ?_ | exact wr _ _ | refine wa ?_ | apply awp_join | refine qg hsm ?_ | refine qgd hsm ?_) | (with_reducible refine CallZ.z ?_) | simp -dsimp [go_sem, hlen])
  refine awp_loop (fun i : Nat => ⟨[(0, .one (.ptr 0 0)), (10, .one (.v (.sl (strRows ts)))), (11, iV ts.length), (12, iV i)], G, wHp (l0 ++ (ts.take i).flatMap textB)⟩) (fun i => i ≤ ts.length) (fun i => ts.length - i) 0 (weak_auto ?_) (Nat.zero_le _) ?_
  · simp -dsimp [go_sem]
  · intro i hi
    by_cases hil : i < ts.length
    · obtain ⟨t, hx⟩ : ∃ t, ts[i]? = some t := ⟨_, List.getElem?_eq_getElem hil⟩
      have hr := strRows_at hx
      have htt := ht t (List.mem_of_getElem? hx)
      have hfi := hfl i
      have hw := wtext_c (G := G) (l0 ++ (ts.take i).flatMap textB) t (by simp only [List.length_append, List.length_cons, List.length_nil]; omega) (by omega)
      have e1 : l0 ++ (ts.take i).flatMap textB ++ textB t = l0 ++ (ts.take (i + 1)).flatMap textB := by rw [flat_succ hx, List.append_assoc]
      rw [e1] at hw
      have q1 : decide (i < ts.length) = true := by simpa using hil
      have w1 : IntKind.i64.wrap ((i : Int) + 1) = (i : Int) + 1 := IntWalk.i64_in _ (by omega)
      generalize l0 ++ (ts.take i).flatMap textB = a at *
      obtain ⟨b, hb⟩ : ∃ b, l0 ++ (ts.take (i + 1)).flatMap textB = b := ⟨_, rfl⟩
      rw [hb] at hw
      unfold wHp at hw ⊢
      repeat' (first | (with_reducible first | refine Cn (fun h => ?_) fun h => ?_ | refine And.intro ?_ ?_ | refine wR ?_ | exact wr _ _ | refine wa ?_ | apply awp_join | refine qg hw ?_ | refine qgd hw ?_) | (with_reducible refine CallZ.z ?_) | simp -dsimp [go_sem, hr, q1, w1])
      all_goals first
        | omega
        | (refine Again.auto (i + 1) ?_ hil ?_
           · simp -dsimp [go_sem, hb]
           · show ts.length - (i + 1) < ts.length - i; omega)
        | trace_state
    · have q1 : decide (i < ts.length) = false := by simpa using hil
      have hie : i = ts.length := by omega
      rw [hie]
      generalize l0 ++ (ts.take ts.length).flatMap textB = a
      rw [hie] at q1
      unfold wHp
      repeat' (first | (with_reducible first | refine Cn (fun h => ?_) fun h => ?_ | refine And.intro ?_ ?_ | refine wR ?_ | exact wr _ _ | refine wa ?_ | apply awp_join) | (with_reducible refine CallZ.z ?_) | simp -dsimp [go_sem, q1])
      all_goals trace_state
theorem prB_le {p : Pr} (h1 : p.1.size ≤ 255) (h2 : p.2.size ≤ 255) : (prB p).length ≤ 512 := by unfold prB; rw [List.length_append, textB_len, textB_len]; omega
theorem scB_le {s : Sc} (h1 : s.1.size ≤ 255) : (scB s).length ≤ 264 := by unfold scB; rw [List.length_append, textB_len, numB_len]; omega
theorem many_le {α : Type} {g : α → List UInt8} {b : Nat} {l : List α} (hl : l.length ≤ 255) (h : ∀ a ∈ l, (g a).length ≤ b) : (manyB g l).length ≤ 1 + 255 * b := by
  have := many_len h
  have h2 : l.length * b ≤ 255 * b := Nat.mul_le_mul_right _ hl
  omega
/-- A value's head, as it is written. -/
def valH (v : Val) : List UInt8 := [smallB v.kind] ++ textB v.text ++ numB v.count
theorem valB_split (l : List UInt8) (v : Val) : l ++ valB v = l ++ [smallB v.kind] ++ textB v.text ++ numB v.count ++ [smallB v.pairs.length] ++ v.pairs.flatMap prB ++ manyB textB v.items ++ [smallB v.scores.length] ++ v.scores.flatMap scB := by
  unfold valB manyB; simp
theorem wvalue_c (l : List UInt8) (v : Val) (hl : l.length ≤ 200000) (hv : SizV v) :
    DetCall Try.prog G 28 1 (wHp l) [.one (.ptr 0 0), .agg v.c] (.tup []) (wHp (l ++ valB v)) := by
  have hpl := flat_take (g := prB) (b := 512) (xs := v.pairs) fun p h => prB_le (hv.pairs.2 p h).1 (hv.pairs.2 p h).2
  have hsl := flat_take (g := scB) (b := 264) (xs := v.scores) fun p h => scB_le (hv.scores.2 p h).1
  have hil := many_le (g := textB) (b := 256) hv.items.1 fun t h => textB_le (hv.items.2 t h)
  have ht := textB_le hv.text
  have p1 := hv.pairs; have p2 := hv.items; have p3 := hv.scores; have p4 := hv.count; have p5 := hv.text
  rw [valB_split]
  obtain ⟨k, tx, n, ps, is, ss⟩ := v
  simp only [Val.c] at *
  have a1 := wsmall_c (G := G) l k (by omega)
  obtain ⟨x1, h1⟩ : ∃ x, l ++ [smallB k] = x := ⟨_, rfl⟩
  have h1n : x1.length ≤ 200001 := by rw [← h1]; simp; omega
  rw [h1] at a1 ⊢
  have a2 := wtext_c (G := G) x1 tx (by omega) (by omega)
  obtain ⟨x2, h2⟩ : ∃ x, x1 ++ textB tx = x := ⟨_, rfl⟩
  have h2n : x2.length ≤ 200257 := by rw [← h2, List.length_append]; omega
  rw [h2] at a2 ⊢
  have a3 := wnumber_c (G := G) x2 n (by omega) p4
  obtain ⟨x3, h3⟩ : ∃ x, x2 ++ numB n = x := ⟨_, rfl⟩
  have h3n : x3.length ≤ 200265 := by rw [← h3, List.length_append, numB_len]; omega
  rw [h3] at a3 ⊢
  have a4 := wsmall_c (G := G) x3 ps.length (by omega)
  obtain ⟨l0, hl0⟩ : ∃ l0, x3 ++ [smallB ps.length] = l0 := ⟨_, rfl⟩
  have hl0n : l0.length ≤ 200300 := by rw [← hl0]; simp; omega
  rw [hl0] at a4 ⊢
  have hpn : (pR ps).length = ps.length := by simp
  have hsn : (sR ss).length = ss.length := by simp
  refine gcallc mixed Try.func28 ac_wire_writer_value ?_
  unfold wHp at *
  repeat' (first | (with_reducible first | refine Cn (fun h => ?_) fun h => ?_ | refine And.intro ?_ ?_ | refine wR ?_ | exact wr _ _ | refine wa ?_ | apply awp_join | refine qg a1 ?_ | refine qgd a1 ?_ | refine qg a2 ?_ | refine qgd a2 ?_ | refine qg a3 ?_ | refine qgd a3 ?_ | refine qg a4 ?_ | refine qgd a4 ?_) | (with_reducible refine CallZ.z ?_) | simp -dsimp [go_sem, hpn])
  refine awp_loop (fun i : Nat => ⟨[(0, .one (.ptr 0 0)), (3, .one (.ptr 2 0)), (26, .one (.v (.sl (pR ps)))), (27, iV ps.length), (28, iV i)], G, wHp (l0 ++ (ps.take i).flatMap prB) ++ [some (.box 77 [iC k, sC tx, iC n, .v (.sl (pR ps)), .v (.sl (strRows is)), .v (.sl (sR ss))])]⟩) (fun i => i ≤ ps.length) (fun i => ps.length - i) 0 (weak_auto ?_) (Nat.zero_le _) ?_
  · simp -dsimp [go_sem]
  · intro i hi
    by_cases hilt : i < ps.length
    · obtain ⟨⟨f, t⟩, hx⟩ : ∃ p, ps[i]? = some p := ⟨_, List.getElem?_eq_getElem hilt⟩
      have hr : (pR ps)[i]? = some [.lit (.string f), .lit (.string t)] := by simp [hx, row_api_Pair]
      have htt := p1.2 _ (List.mem_of_getElem? hx)
      have hfi := hpl i
      simp only at htt
      have b1 := wtext_c (G := G) (l0 ++ (ps.take i).flatMap prB) f (by simp only [List.length_append]; omega) (by omega)
      have b2 := wtext_c (G := G) (l0 ++ (ps.take i).flatMap prB ++ textB f) t (by simp only [List.length_append, textB_len]; omega) (by omega)
      have e1 : l0 ++ (ps.take i).flatMap prB ++ textB f ++ textB t = l0 ++ (ps.take (i + 1)).flatMap prB := by rw [flat_succ hx]; simp [prB]
      rw [e1] at b2
      have q1 : decide (i < ps.length) = true := by simpa using hilt
      have w1 : IntKind.i64.wrap ((i : Int) + 1) = (i : Int) + 1 := IntWalk.i64_in _ (by omega)
      generalize l0 ++ (ps.take i).flatMap prB = a at *
      obtain ⟨b, hb⟩ : ∃ b, l0 ++ (ps.take (i + 1)).flatMap prB = b := ⟨_, rfl⟩
      rw [hb] at b2
      unfold wHp at b1 b2 ⊢
      repeat' (first | (with_reducible first | refine Cn (fun h => ?_) fun h => ?_ | refine And.intro ?_ ?_ | refine wR ?_ | exact wr _ _ | refine wa ?_ | apply awp_join | refine qg b1 ?_ | refine qgd b1 ?_ | refine qg b2 ?_ | refine qgd b2 ?_) | (with_reducible refine CallZ.z ?_) | simp -dsimp [go_sem, hr, q1, w1])
      all_goals first
        | omega
        | (refine Again.auto (i + 1) ?_ hilt ?_
           · simp -dsimp [go_sem, hb]
           · show ps.length - (i + 1) < ps.length - i; omega)
        | trace_state
    · have hie : i = ps.length := by omega
      subst hie
      rw [List.take_length]
      have hpl0 := hpl ps.length
      rw [List.take_length] at hpl0
      obtain ⟨y1, g1⟩ : ∃ x, l0 ++ ps.flatMap prB = x := ⟨_, rfl⟩
      have g1n : y1.length ≤ 340000 := by rw [← g1, List.length_append]; omega
      rw [g1]
      have c1 := wtexts_c (G := G) y1 is (by omega) p2.1 p2.2
      obtain ⟨y2, g2⟩ : ∃ x, y1 ++ manyB textB is = x := ⟨_, rfl⟩
      have g2n : y2.length ≤ 410000 := by rw [← g2, List.length_append]; omega
      rw [g2] at c1 ⊢
      have c2 := wsmall_c (G := G) y2 ss.length (by omega)
      obtain ⟨l1, hl1⟩ : ∃ l1, y2 ++ [smallB ss.length] = l1 := ⟨_, rfl⟩
      have hl1n : l1.length ≤ 500000 := by rw [← hl1]; simp; omega
      rw [hl1] at c2 ⊢
      unfold wHp at c1 c2 ⊢
      repeat' (first | (with_reducible first | refine Cn (fun h => ?_) fun h => ?_ | refine And.intro ?_ ?_ | refine wR ?_ | exact wr _ _ | refine wa ?_ | apply awp_join | refine qg c1 ?_ | refine qgd c1 ?_ | refine qg c2 ?_ | refine qgd c2 ?_) | (with_reducible refine CallZ.z ?_) | simp -dsimp [go_sem, hsn])
      refine awp_loop (fun i : Nat => ⟨[(0, .one (.ptr 0 0)), (51, .one (.v (.sl (sR ss)))), (52, iV ss.length), (53, iV i)], G, wHp (l1 ++ (ss.take i).flatMap scB)⟩) (fun i => i ≤ ss.length) (fun i => ss.length - i) 0 (weak_auto ?_) (Nat.zero_le _) ?_
      · simp -dsimp [go_sem]
      · intro i hi
        by_cases hilt : i < ss.length
        · obtain ⟨⟨f, t⟩, hx⟩ : ∃ p, ss[i]? = some p := ⟨_, List.getElem?_eq_getElem hilt⟩
          have hr : (sR ss)[i]? = some [.lit (.string f), .lit (.int .i64 t)] := by simp [hx, row_api_Score]
          have htt := p3.2 _ (List.mem_of_getElem? hx)
          have hfi := hsl i
          simp only at htt
          have b1 := wtext_c (G := G) (l1 ++ (ss.take i).flatMap scB) f (by simp only [List.length_append]; omega) (by omega)
          have b2 := wnumber_c (G := G) (l1 ++ (ss.take i).flatMap scB ++ textB f) t (by simp only [List.length_append, textB_len]; omega) htt.2
          have e1 : l1 ++ (ss.take i).flatMap scB ++ textB f ++ numB t = l1 ++ (ss.take (i + 1)).flatMap scB := by rw [flat_succ hx]; simp [scB]
          rw [e1] at b2
          have q1 : decide (i < ss.length) = true := by simpa using hilt
          have w1 : IntKind.i64.wrap ((i : Int) + 1) = (i : Int) + 1 := IntWalk.i64_in _ (by omega)
          generalize l1 ++ (ss.take i).flatMap scB = a at *
          obtain ⟨b, hb⟩ : ∃ b, l1 ++ (ss.take (i + 1)).flatMap scB = b := ⟨_, rfl⟩
          rw [hb] at b2
          unfold wHp at b1 b2 ⊢
          repeat' (first | (with_reducible first | refine Cn (fun h => ?_) fun h => ?_ | refine And.intro ?_ ?_ | refine wR ?_ | exact wr _ _ | refine wa ?_ | apply awp_join | refine qg b1 ?_ | refine qgd b1 ?_ | refine qg b2 ?_ | refine qgd b2 ?_) | (with_reducible refine CallZ.z ?_) | simp -dsimp [go_sem, hr, q1, w1])
          all_goals first
            | omega
            | (refine Again.auto (i + 1) ?_ hilt ?_
               · simp -dsimp [go_sem, hb]
               · show ss.length - (i + 1) < ss.length - i; omega)
            | trace_state
        · have hie : i = ss.length := by omega
          subst hie
          rw [List.take_length]
          generalize l1 ++ ss.flatMap scB = a
          unfold wHp
          repeat' (first | (with_reducible first | refine Cn (fun h => ?_) fun h => ?_ | refine And.intro ?_ ?_ | refine wR ?_ | exact wr _ _ | refine wa ?_ | apply awp_join) | (with_reducible refine CallZ.z ?_) | simp -dsimp [go_sem])
          all_goals trace_state
end Go.Proofs.Ytpdcfljbabpakaa

/- What checking a store answers. -/
set_option linter.unusedVariables false
set_option linter.unusedSimpArgs false
set_option maxRecDepth 100000
set_option maxHeartbeats 8000000
namespace Go.Proofs.Ytpdcfljbabpakaa
open Go Go.RowKit Go.Proofs.AE
variable {G : Nat → AV}
/-- A nil cell of a box becomes an own empty array. -/
theorem weak_thaw {k : Nat} {s : S} (b o e m : Nat) {t : TypeId} {cs : List C} (h1 : s.hp[b]? = some (some (.box t cs))) (h2 : cs[o]? = some .nil) (hm : 0 < m) :
    Weak k s { s with hp := s.hp.set b (some (.box t (cs.set o (.ar s.hp.length)))) ++ [some (.arr e m [])] } :=
  ⟨rfl, fun n w ok μ a hst => ⟨ok, _, hst.step (hr_thaw hst.hr h1 h2 hm), (hr_thaw hst.hr h1 h2 hm).far⟩⟩
/-- One entry behind another one. -/
def tstE (now : Int) (p : Option Ent) (e : Ent) : Bool := !okField e.key || checkV e.val != 0 || (match p with | some p => !decide (cmpB p.key e.key < 0) | none => false) || (e.till != 0 && (decide (e.till ≤ now) || decide (1073741824 < e.till)))
def chkE (now : Int) : Option Ent → List Ent → Int
  | _, [] => 0
  | p, e :: r => if tstE now p e = true then 13 else chkE now (some e) r
theorem chkE_eq (now : Int) : ∀ (l : List Ent) (p : Option Ent), chkE now p l = if l.any (entBad now) = true then 13 else if rising bE ((match p with | some p => [p] | none => []) ++ l) = true then 0 else 13
  | [], p => by cases p <;> rfl
  | e :: r, p => by
    have ih := chkE_eq now r (some e)
    unfold chkE tstE
    rw [ih]
    have hb : entBad now e = (!okField e.key || checkV e.val != 0 || (e.till != 0 && (decide (e.till ≤ now) || decide (1073741824 < e.till)))) := rfl
    cases p with
    | none =>
      simp only [List.any_cons, hb, List.nil_append, List.singleton_append]
      cases (!okField e.key || checkV e.val != 0) <;> cases (e.till != 0 && (decide (e.till ≤ now) || decide (1073741824 < e.till))) <;> simp
    | some p =>
      have hr : rising bE ([p] ++ e :: r) = (decide (bE p e < 0) && rising bE (e :: r)) := rfl
      have hr2 : rising bE (p :: e :: r) = (decide (bE p e < 0) && rising bE (e :: r)) := rfl
      simp only [List.any_cons, hb, hr, List.singleton_append]
      have hd : decide (cmpB p.key e.key < 0) = decide (bE p e < 0) := rfl
      rw [hd]
      cases (!okField e.key || checkV e.val != 0) <;> cases (e.till != 0 && (decide (e.till ≤ now) || decide (1073741824 < e.till))) <;> cases hbe : decide (bE p e < 0) <;> simp [hr2, hbe]
theorem okField_alt (s : ByteArray) : okField s = !(decide ((s.size : Int) < 1) || decide (12 < (s.size : Int))) := by
  unfold okField
  rw [Bool.eq_iff_iff]
  simp <;> omega
def prevE (l : List Ent) (i : Nat) : Option Ent := if i = 0 then none else l[i - 1]?
theorem chkE_drop (now : Int) {l : List Ent} {i : Nat} {e : Ent} (h : l[i]? = some e) : chkE now (prevE l i) (l.drop i) = if tstE now (prevE l i) e = true then 13 else chkE now (prevE l (i + 1)) (l.drop (i + 1)) := by
  have hl := (List.getElem?_eq_some_iff.1 h).1
  have hx := (List.getElem?_eq_some_iff.1 h).2
  rw [List.drop_eq_getElem_cons hl, hx]
  have hp : prevE l (i + 1) = some e := by unfold prevE; simpa using h
  rw [hp]
  rfl
theorem checkS_chk (s : Sto) : checkS s = if s.now < 0 ∨ 1073741824 < s.now ∨ 12 < s.ents.length then 13 else chkE s.now none s.ents := by
  unfold checkS
  rw [chkE_eq]
  rfl
theorem checkS_c (s : Sto) (hs : s.Small) : PCall Try.prog G 40 [.agg s.c] (iV (checkS s)) := by
  obtain ⟨now, l⟩ := s
  obtain ⟨s1, s2⟩ := hs
  simp only at s1 s2
  rw [checkS_chk]
  simp only [Sto.c]
  by_cases hb : now < 0 ∨ 1073741824 < now ∨ 12 < l.length
  · rw [if_pos hb]
    refine pcallc mixed Try.func40 ac_store_Check ?_
    repeat' (first | (with_reducible first | refine Cn (fun h => ?_) fun h => ?_ | refine And.intro ?_ ?_ | refine wR ?_ | exact wr _ _ | refine wa ?_ | apply awp_join) | (with_reducible refine CallZ.z ?_) | simp -dsimp [go_sem])
    all_goals (exfalso; clear s2; simp at *; omega)
  · rw [if_neg hb]
    have b1 : decide (now < 0) = false := by simp; omega
    have b2 : decide (1073741824 < now) = false := by simp; omega
    have b3 : decide (12 < (l.length : Int)) = false := by simp; omega
    refine pcallc mixed Try.func40 ac_store_Check ?_
    repeat' (first | (with_reducible first | refine Cn (fun h => ?_) fun h => ?_ | refine And.intro ?_ ?_ | refine wR ?_ | exact wr _ _ | refine wa ?_ | apply awp_join) | (with_reducible refine CallZ.z ?_) | simp -dsimp [go_sem, b1, b2, b3])
    refine awp_loop (fun i : Nat => ⟨[(1, .one (.ptr 0 0)), (20, .one (.v (.sl (eR l)))), (21, iV l.length), (22, iV i)], G, [some (.box 25 [iC now, .v (.sl (eR l))])]⟩) (fun i => i ≤ l.length ∧ chkE now none l = chkE now (prevE l i) (l.drop i)) (fun i => l.length - i) 0 (weak_auto ?_) ⟨Nat.zero_le _, rfl⟩ ?_
    · simp -dsimp [go_sem]
    · rintro i ⟨hi, hx⟩
      rw [hx]
      by_cases hlt : i < l.length
      · obtain ⟨e, he⟩ : ∃ e, l[i]? = some e := ⟨_, List.getElem?_eq_getElem hlt⟩
        have e4 : IntKind.i64.wrap ((i : Int) + 1) = (i : Int) + 1 := IntWalk.i64_in _ (by omega)
        have q1 : decide (i < l.length) = true := by simpa using hlt
        have hcv := checkV_c (G := G) e.val (s2 e (List.mem_of_getElem? he))
        rw [chkE_drop now he]
        obtain ⟨T, hT⟩ : ∃ T, tstE now (prevE l i) e = T := ⟨_, rfl⟩
        have hT' := hT
        unfold tstE at hT'
        rw [okField_alt] at hT'
        obtain ⟨N, hN⟩ : ∃ N, chkE now (prevE l (i + 1)) (l.drop (i + 1)) = N := ⟨_, rfl⟩
        rw [hT, hN]
        clear hT
        obtain ⟨V, hV⟩ : ∃ V, checkV e.val = V := ⟨_, rfl⟩
        rw [hV] at hcv hT'
        obtain ⟨key, ⟨vk, vt, vn, vp, vi, vs⟩, till⟩ := e
        simp only [Val.c] at hcv
        simp only at hT'
        have hag : i + 1 ≤ l.length ∧ N = chkE now (prevE l (i + 1)) (l.drop (i + 1)) := ⟨hlt, hN.symm⟩
        by_cases h0 : i = 0
        · have q2 : decide (0 < i) = false := by simp; omega
          have hp : prevE l i = none := by unfold prevE; rw [if_pos h0]
          rw [hp] at hT'
          simp only at hT'
          repeat' (first | (with_reducible first | refine Cn (fun h => ?_) fun h => ?_ | refine And.intro ?_ ?_ | refine wR ?_ | exact wr _ _ | refine wa ?_ | apply awp_join | refine q hcv ?_ | refine qd hcv ?_ | refine qz hcv ?_) | (with_reducible refine CallZ.z ?_) | simp -dsimp [go_sem, he, Ent.row, e4, q1, q2])
          all_goals first
            | omega
            | (have hTt : T = true := by (rw [← hT']; simp [*])
               simp [hTt]; done)
            | (have hTf : T = false := by (rw [← hT']; simp [*])
               rw [hTf]
               refine Again.auto (i + 1) ?_ ?_ ?_
               · simp -dsimp [go_sem]
               · exact hag
               · show l.length - (i + 1) < l.length - i; omega)
        · obtain ⟨j, hj⟩ : ∃ j, i = j + 1 := ⟨i - 1, by omega⟩
          have q2 : decide (0 < i) = true := by simp; omega
          obtain ⟨p, hpj⟩ : ∃ p, l[j]? = some p := ⟨_, List.getElem?_eq_getElem (by omega)⟩
          have hp : prevE l i = some p := by unfold prevE; rw [if_neg h0, hj]; simpa using hpj
          rw [hp] at hT'
          have e5 : IntKind.i64.wrap ((i : Int) - 1) = (j : Int) := by rw [IntWalk.i64_in _ (by omega)]; omega
          have e6 : lessB p.key key = decide (cmpB p.key key < 0) := lessB_eq _ _
          obtain ⟨pkey, ⟨wk, wt, wn, wp, wi, ws⟩, ptill⟩ := p
          simp only at hT' e6
          repeat' (first | (with_reducible first | refine Cn (fun h => ?_) fun h => ?_ | refine And.intro ?_ ?_ | refine wR ?_ | exact wr _ _ | refine wa ?_ | apply awp_join | refine q hcv ?_ | refine qd hcv ?_ | refine qz hcv ?_) | (with_reducible refine CallZ.z ?_) | simp -dsimp [go_sem, he, hpj, Ent.row, e4, e5, q1, q2, e6])
          all_goals first
            | omega
            | (have hTt : T = true := by (rw [← hT']; simp [*])
               simp [hTt]; done)
            | (have hTf : T = false := by (rw [← hT']; simp [*])
               rw [hTf]
               refine Again.auto (i + 1) ?_ ?_ ?_
               · simp -dsimp [go_sem]
               · exact hag
               · show l.length - (i + 1) < l.length - i; omega)
      · have hn : l.drop i = [] := List.drop_eq_nil_of_le (by omega)
        have q1 : decide (i < l.length) = false := by simpa using hlt
        rw [hn]
        unfold chkE
        repeat' (first | (with_reducible first | refine Cn (fun h => ?_) fun h => ?_ | refine And.intro ?_ ?_ | refine wR ?_ | exact wr _ _ | refine wa ?_ | apply awp_join) | (with_reducible refine CallZ.z ?_) | simp -dsimp [go_sem, q1])
end Go.Proofs.Ytpdcfljbabpakaa

/- The client layer: what checking a machine answers. -/
set_option linter.unusedVariables false
set_option linter.unusedSimpArgs false
set_option maxRecDepth 100000
set_option maxHeartbeats 8000000
namespace Go.Proofs.Ytpdcfljbabpakaa
open Go Go.RowKit Go.Proofs.AE
variable {G : Nat → AV}
theorem ul_c (l : List Cli) : UL 7 (clR l) := by
  intro r hr
  obtain ⟨y, _, rfl⟩ := List.mem_map.1 hr
  rfl
theorem ul_str (l : List ByteArray) : UL 1 (strRows l) := by
  intro r hr
  obtain ⟨y, _, rfl⟩ := List.mem_map.1 hr
  rfl
theorem checkR_c (r : Rep) : PCall Try.prog G 41 [.agg r.c] (iV (checkR r)) := checkReply_c r.code r.text r.n r.list
theorem checkCl_c (c : Cal) : PCall Try.prog G 56 [.agg c.c] (iV (checkCl c)) := checkCall_c c.client c.seq c.cmd.kind c.cmd.key c.cmd.field c.cmd.text c.cmd.n
def tstC (next now : Int) (p : Option Cli) (x : Cli) : Bool := decide (x.id < 1) || decide (next ≤ x.id) || (match p with | some p => decide (x.id ≤ p.id) | none => false) || decide (x.seq < 0) || decide (1048576 < x.seq) || decide (x.time < 0) || decide (now < x.time) || (checkR x.reply != 0)
def chkC (next now : Int) : Option Cli → List Cli → Int
  | _, [] => 0
  | p, x :: r => if tstC next now p x = true then 13 else chkC next now (some x) r
theorem tstC_eq (next now : Int) (p : Option Cli) (x : Cli) : tstC next now p x = (badC next now x || (match p with | some p => !decide (cI p x < 0) | none => false)) := by
  unfold tstC badC cI
  cases p with
  | none => simp
  | some p =>
    have : decide (x.id ≤ p.id) = !decide (p.id - x.id < 0) := by
      by_cases h : x.id ≤ p.id
      · have h2 : ¬ p.id - x.id < 0 := by omega
        simp [h, h2]
      · have h2 : p.id - x.id < 0 := by omega
        simp [h, h2]
    simp only [this]
    generalize (!decide (p.id - x.id < 0)) = b
    cases b <;> simp
theorem chkC_eq (next now : Int) : ∀ (l : List Cli) (p : Option Cli), chkC next now p l = if l.any (badC next now) = true then 13 else if rising cI ((match p with | some p => [p] | none => []) ++ l) = true then 0 else 13
  | [], p => by cases p <;> rfl
  | x :: r, p => by
    have ih := chkC_eq next now r (some x)
    unfold chkC
    rw [ih, tstC_eq]
    cases p with
    | none =>
      obtain ⟨b, hb⟩ : ∃ b, badC next now x = b := ⟨_, rfl⟩
      rw [List.any_cons, hb]
      cases b <;> simp
    | some p =>
      have hr : rising cI ([p] ++ x :: r) = (decide (cI p x < 0) && rising cI (x :: r)) := rfl
      obtain ⟨b, hb⟩ : ∃ b, badC next now x = b := ⟨_, rfl⟩
      obtain ⟨d, hd⟩ : ∃ d, decide (cI p x < 0) = d := ⟨_, rfl⟩
      simp only [List.any_cons, hr, hb, hd]
      cases b <;> cases d <;> simp
def prevC (l : List Cli) (i : Nat) : Option Cli := if i = 0 then none else l[i - 1]?
theorem chkC_drop (next now : Int) {l : List Cli} {i : Nat} {x : Cli} (h : l[i]? = some x) : chkC next now (prevC l i) (l.drop i) = if tstC next now (prevC l i) x = true then 13 else chkC next now (prevC l (i + 1)) (l.drop (i + 1)) := by
  have hl := (List.getElem?_eq_some_iff.1 h).1
  have hx := (List.getElem?_eq_some_iff.1 h).2
  rw [List.drop_eq_getElem_cons hl, hx]
  have hp : prevC l (i + 1) = some x := by unfold prevC; simpa using h
  rw [hp]
  rfl
theorem checkM_chk (m : Mach) : checkM m = if checkS m.sto ≠ 0 ∨ m.next < 1 ∨ 1048577 < m.next ∨ 4 < m.clis.length then 13 else chkC m.next m.sto.now none m.clis := by
  unfold checkM
  rw [chkC_eq]
  rfl
theorem checkM_c (m : Mach) (hs : m.sto.Small) (hl : m.clis.length ≤ 1000000) : PCall Try.prog G 24 [.agg m.c] (iV (checkM m)) := by
  have hcs := checkS_c (G := G) m.sto hs
  rw [checkM_chk]
  obtain ⟨V, hV⟩ : ∃ V, checkS m.sto = V := ⟨_, rfl⟩
  rw [hV] at hcs ⊢
  obtain ⟨⟨now, ents⟩, next, l⟩ := m
  simp only at hl
  simp only [Mach.c, Sto.c] at hcs ⊢
  by_cases hb : V ≠ 0 ∨ next < 1 ∨ 1048577 < next ∨ 4 < l.length
  · rw [if_pos hb]
    by_cases b0 : V ≠ 0
    · have q0 : (V != 0) = true := by simpa using b0
      refine pcallc mixed Try.func24 ac_client_Check ?_
      repeat' (first | (with_reducible first | refine Cn (fun h => ?_) fun h => ?_ | refine And.intro ?_ ?_ | refine wR ?_ | exact wr _ _ | refine wa ?_ | apply awp_join | refine q hcs ?_ | refine qd hcs ?_ | refine qz hcs ?_) | (with_reducible refine CallZ.z ?_) | simp -dsimp [go_sem, q0])
    · have q0 : (V != 0) = false := by simpa using b0
      by_cases b1 : next < 1
      · have q1 : decide (next < 1) = true := by simpa using b1
        refine pcallc mixed Try.func24 ac_client_Check ?_
        repeat' (first | (with_reducible first | refine Cn (fun h => ?_) fun h => ?_ | refine And.intro ?_ ?_ | refine wR ?_ | exact wr _ _ | refine wa ?_ | apply awp_join | refine q hcs ?_ | refine qd hcs ?_ | refine qz hcs ?_) | (with_reducible refine CallZ.z ?_) | simp -dsimp [go_sem, q0, q1])
      · have q1 : decide (next < 1) = false := by simpa using b1
        by_cases b2 : 1048577 < next
        · have q2 : decide (1048577 < next) = true := by simpa using b2
          refine pcallc mixed Try.func24 ac_client_Check ?_
          repeat' (first | (with_reducible first | refine Cn (fun h => ?_) fun h => ?_ | refine And.intro ?_ ?_ | refine wR ?_ | exact wr _ _ | refine wa ?_ | apply awp_join | refine q hcs ?_ | refine qd hcs ?_ | refine qz hcs ?_) | (with_reducible refine CallZ.z ?_) | simp -dsimp [go_sem, q0, q1, q2])
        · have q2 : decide (1048577 < next) = false := by simpa using b2
          have q3 : decide (4 < (l.length : Int)) = true := by simp; omega
          refine pcallc mixed Try.func24 ac_client_Check ?_
          repeat' (first | (with_reducible first | refine Cn (fun h => ?_) fun h => ?_ | refine And.intro ?_ ?_ | refine wR ?_ | exact wr _ _ | refine wa ?_ | apply awp_join | refine q hcs ?_ | refine qd hcs ?_ | refine qz hcs ?_) | (with_reducible refine CallZ.z ?_) | simp -dsimp [go_sem, q0, q1, q2, q3])
  · rw [if_neg hb]
    simp only [not_or, Classical.not_not] at hb
    have q0 : (V != 0) = false := by simpa using hb.1
    have q1 : decide (next < 1) = false := by simp; omega
    have q2 : decide (1048577 < next) = false := by simp; omega
    have q3 : decide (4 < (l.length : Int)) = false := by simp; omega
    refine pcallc mixed Try.func24 ac_client_Check ?_
    repeat' (first | (with_reducible first | refine Cn (fun h => ?_) fun h => ?_ | refine And.intro ?_ ?_ | refine wR ?_ | exact wr _ _ | refine wa ?_ | apply awp_join | refine q hcs ?_ | refine qd hcs ?_ | refine qz hcs ?_) | (with_reducible refine CallZ.z ?_) | simp -dsimp [go_sem, q0, q1, q2, q3])
    refine awp_loop (fun i : Nat => ⟨[(1, .one (.ptr 0 0)), (26, .one (.v (.sl (clR l)))), (27, iV l.length), (28, iV i)], G, [some (.box 28 [iC now, .v (.sl (eR ents)), iC next, .v (.sl (clR l))])]⟩) (fun i => i ≤ l.length ∧ chkC next now none l = chkC next now (prevC l i) (l.drop i)) (fun i => l.length - i) 0 (weak_auto ?_) ⟨Nat.zero_le _, rfl⟩ ?_
    · simp -dsimp [go_sem]
    · rintro i ⟨hi, hx⟩
      rw [hx]
      by_cases hlt : i < l.length
      · obtain ⟨x, he⟩ : ∃ x, l[i]? = some x := ⟨_, List.getElem?_eq_getElem hlt⟩
        have e4 : IntKind.i64.wrap ((i : Int) + 1) = (i : Int) + 1 := IntWalk.i64_in _ (by omega)
        have q4 : decide (i < l.length) = true := by simpa using hlt
        have hcr := checkR_c (G := G) x.reply
        rw [chkC_drop next now he]
        obtain ⟨T, hT⟩ : ∃ T, tstC next now (prevC l i) x = T := ⟨_, rfl⟩
        have hT' := hT
        unfold tstC at hT'
        obtain ⟨N, hN⟩ : ∃ N, chkC next now (prevC l (i + 1)) (l.drop (i + 1)) = N := ⟨_, rfl⟩
        rw [hT, hN]
        clear hT
        obtain ⟨R, hR⟩ : ∃ R, checkR x.reply = R := ⟨_, rfl⟩
        rw [hR] at hcr hT'
        obtain ⟨id, seq, time, ⟨rc, rt, rn, rl⟩⟩ := x
        simp only [Rep.c] at hcr
        simp only at hT'
        have hag : i + 1 ≤ l.length ∧ N = chkC next now (prevC l (i + 1)) (l.drop (i + 1)) := ⟨hlt, hN.symm⟩
        by_cases h0 : i = 0
        · have q5 : decide (0 < i) = false := by simp; omega
          have hp : prevC l i = none := by unfold prevC; rw [if_pos h0]
          rw [hp] at hT'
          simp only at hT'
          repeat' (first | (with_reducible first | refine Cn (fun h => ?_) fun h => ?_ | refine And.intro ?_ ?_ | refine wR ?_ | exact wr _ _ | refine wa ?_ | apply awp_join | refine q hcr ?_ | refine qd hcr ?_ | refine qz hcr ?_) | (with_reducible refine CallZ.z ?_) | simp -dsimp [go_sem, he, Cli.row, e4, q4, q5])
          all_goals first
            | omega
            | (have hTt : T = true := by (rw [← hT']; simp [*])
               simp [hTt]; done)
            | (have hTf : T = false := by (rw [← hT']; simp [*])
               rw [hTf]
               refine Again.auto (i + 1) ?_ ?_ ?_
               · simp -dsimp [go_sem]
               · exact hag
               · show l.length - (i + 1) < l.length - i; omega)
            | trace_state
        · have q5 : decide (0 < i) = true := by simp; omega
          obtain ⟨j, hj⟩ : ∃ j, i = j + 1 := ⟨i - 1, by omega⟩
          obtain ⟨p, hpj⟩ : ∃ p, l[j]? = some p := ⟨_, List.getElem?_eq_getElem (by omega)⟩
          have hp : prevC l i = some p := by unfold prevC; rw [if_neg h0, hj]; simpa using hpj
          rw [hp] at hT'
          have e5 : IntKind.i64.wrap ((i : Int) - 1) = (j : Int) := by rw [IntWalk.i64_in _ (by omega)]; omega
          obtain ⟨pid, pseq, ptime, ⟨pc, pt, pn, pl⟩⟩ := p
          simp only at hT'
          repeat' (first | (with_reducible first | refine Cn (fun h => ?_) fun h => ?_ | refine And.intro ?_ ?_ | refine wR ?_ | exact wr _ _ | refine wa ?_ | apply awp_join | refine q hcr ?_ | refine qd hcr ?_ | refine qz hcr ?_) | (with_reducible refine CallZ.z ?_) | simp -dsimp [go_sem, he, hpj, Cli.row, e4, e5, q4, q5])
          all_goals first
            | omega
            | (have hTt : T = true := by (rw [← hT']; simp [*])
               simp [hTt]; done)
            | (have hTf : T = false := by (rw [← hT']; simp [*])
               rw [hTf]
               refine Again.auto (i + 1) ?_ ?_ ?_
               · simp -dsimp [go_sem]
               · exact hag
               · show l.length - (i + 1) < l.length - i; omega)
            | trace_state
      · have hn : l.drop i = [] := List.drop_eq_nil_of_le (by omega)
        have q4 : decide (i < l.length) = false := by simpa using hlt
        rw [hn]
        unfold chkC
        repeat' (first | (with_reducible first | refine Cn (fun h => ?_) fun h => ?_ | refine And.intro ?_ ?_ | refine wR ?_ | exact wr _ _ | refine wa ?_ | apply awp_join) | (with_reducible refine CallZ.z ?_) | simp -dsimp [go_sem, q4])
end Go.Proofs.Ytpdcfljbabpakaa

/- Machines as bytes: Encode. -/
set_option linter.unusedVariables false
set_option linter.unusedSimpArgs false
set_option maxRecDepth 100000
set_option maxHeartbeats 8000000
namespace Go.Proofs.Ytpdcfljbabpakaa
open Go Go.RowKit Go.Proofs.AE
variable {G : Nat → AV}
theorem OkM.dom {m : Mach} (h : OkM m) : m.sto.Small ∧ m.clis.length ≤ 1000000 := ⟨h.sto.small, by have := h.len; omega⟩
theorem valB_le {v : Val} (h : SizV v) : (valB v).length ≤ 270000 := by
  have p := many_le (g := prB) (b := 512) h.pairs.1 fun p hp => prB_le (h.pairs.2 p hp).1 (h.pairs.2 p hp).2
  have i := many_le (g := textB) (b := 256) h.items.1 fun t ht => textB_le (h.items.2 t ht)
  have s := many_le (g := scB) (b := 264) h.scores.1 fun s hs => scB_le (h.scores.2 s hs).1
  have t := textB_le h.text
  unfold valB
  simp only [List.length_append, numB_len, List.length_cons, List.length_nil]
  omega
theorem entB_len {now : Int} {e : Ent} (h : OkE now e) : (entB e).length ≤ 930 := by
  have a := okF_size h.key; have b := valB_len' h.val
  unfold entB; simp only [List.length_append, textB_len, numB_len]; omega
theorem cliB_len {next now : Int} {x : Cli} (h : OkC next now x) : (cliB x).length ≤ 500 := by
  have hr := checkR_iff.1 h.reply
  have a := okT_size hr.text
  have b := many_len (g := textB) (b := 21) (l := x.reply.list) fun t ht => by have := okT_size (hr.list t ht); rw [textB_len]; omega
  have l := hr.len
  unfold cliB; simp only [List.length_append, textB_len, numB_len, List.length_cons, List.length_nil]; omega
theorem encode_c (m : Mach) (h : OkM m) : PCall Try.prog G 8 [.agg m.c] (.tup [.one (.v (.sl (bR (machB m)))), iV 0]) := by
  have hck := checkM_c (G := G) m h.dom.1 h.dom.2
  rw [checkM_iff.2 h] at hck
  have hel := flat_take (g := entB) (b := 930) (xs := m.sto.ents) fun e he => entB_len (h.sto.all e he)
  have hcl := flat_take (g := cliB) (b := 500) (xs := m.clis) fun x hx => cliB_len (h.all x hx)
  have hn := h.sto.now; have hx := h.next; have n1 := h.sto.len; have n2 := h.len
  have hes : ∀ e ∈ m.sto.ents, SizE e := fun e he => (h.sto.all e he).siz hn.1
  have hcs : ∀ x ∈ m.clis, SizC x := fun x hc => (h.all x hc).siz hx.2 hn.2
  clear h
  unfold machB manyB
  obtain ⟨⟨now, es⟩, next, cs⟩ := m
  simp only at hel hcl hn hx n1 n2 hes hcs
  simp only [Mach.c] at hck ⊢
  have a1 := wnumber_c (G := G) [] now (by simp) (by unfold inNum; omega)
  rw [List.nil_append] at a1
  have a2 := wsmall_c (G := G) (numB now) es.length (by rw [numB_len]; omega)
  obtain ⟨l0, hl0⟩ : ∃ l, numB now ++ [smallB es.length] = l := ⟨_, rfl⟩
  have hl0n : l0.length = 9 := by rw [← hl0]; rfl
  rw [hl0] at a2
  have hfin : numB now ++ ((smallB es.length :: es.flatMap entB) ++ (numB next ++ (smallB cs.length :: cs.flatMap cliB))) = l0 ++ es.flatMap entB ++ numB next ++ [smallB cs.length] ++ cs.flatMap cliB := by rw [← hl0]; simp
  rw [hfin]
  have hen : (eR es).length = es.length := by simp
  have hcn : (clR cs).length = cs.length := by simp
  refine pcallc mixed Try.func8 ac_wire_Encode ?_
  unfold wHp at *
  repeat' (first | (with_reducible first | refine Cn (fun h => ?_) fun h => ?_ | refine And.intro ?_ ?_ | refine wR ?_ | exact wr _ _ | refine wa ?_ | apply awp_join | refine q hck ?_ | refine qd hck ?_ | refine qz hck ?_ | refine qg a1 ?_ | refine qgd a1 ?_ | refine qg a2 ?_ | refine qgd a2 ?_) | (refine CallZ.l (CallK.thaw 1 0 5 1 rfl rfl (by decide) ?_); simp -dsimp [go_sem]) | (with_reducible refine CallZ.z ?_) | simp -dsimp [go_sem, hen])
  refine awp_loop (fun i : Nat => ⟨[(1, .one (.ptr 0 0)), (5, .one (.ptr 1 0)), (30, .one (.v (.sl (eR es)))), (31, iV es.length), (32, iV i)], G, [some (.box 28 [iC now, .v (.sl (eR es)), iC next, .v (.sl (clR cs))]), some (.box 90 [.ar 2]), some (.arr 5 1 (bR (l0 ++ (es.take i).flatMap entB)))]⟩) (fun i => i ≤ es.length) (fun i => es.length - i) 0 (weak_auto ?_) (Nat.zero_le _) ?_
  · simp -dsimp [go_sem]
  · intro i hi
    by_cases hilt : i < es.length
    · obtain ⟨e, hx⟩ : ∃ p, es[i]? = some p := ⟨_, List.getElem?_eq_getElem hilt⟩
      have hr : (eR es)[i]? = some e.row := by simp [hx]
      have hse := hes e (List.mem_of_getElem? hx)
      have hfi := hel i
      have hb3 := valB_le hse.val
      obtain ⟨y0, g0⟩ : ∃ x, l0 ++ (es.take i).flatMap entB = x := ⟨_, rfl⟩
      have g0n : y0.length ≤ 12000 := by rw [← g0, List.length_append]; omega
      have b1 := wtext_c (G := G) y0 e.key (by omega) (by have := hse.key; omega)
      obtain ⟨y1, g1⟩ : ∃ x, y0 ++ textB e.key = x := ⟨_, rfl⟩
      have g1n : y1.length ≤ 13000 := by rw [← g1, List.length_append]; have := textB_le hse.key; omega
      have b2 := wvalue_c (G := G) y1 e.val (by omega) hse.val
      obtain ⟨y2, g2⟩ : ∃ x, y1 ++ valB e.val = x := ⟨_, rfl⟩
      have g2n : y2.length ≤ 300000 := by rw [← g2, List.length_append]; omega
      have b3 := wnumber_c (G := G) y2 e.till (by omega) hse.till
      have e1 : y2 ++ numB e.till = l0 ++ (es.take (i + 1)).flatMap entB := by rw [flat_succ hx, ← g2, ← g1, ← g0]; simp [entB]
      obtain ⟨b, hb⟩ : ∃ b, l0 ++ (es.take (i + 1)).flatMap entB = b := ⟨_, rfl⟩
      rw [g1] at b1
      rw [g2] at b2
      rw [e1, hb] at b3
      rw [g0]
      clear g1 g2 e1 g0
      have q1 : decide (i < es.length) = true := by simpa using hilt
      have w1 : IntKind.i64.wrap ((i : Int) + 1) = (i : Int) + 1 := IntWalk.i64_in _ (by omega)
      clear hck a1 a2
      obtain ⟨key, ⟨vk, vt, vn, vp, vi, vs⟩, till⟩ := e
      simp only [Val.c] at b1 b2 b3
      simp only [Ent.row] at hr
      unfold wHp at b1 b2 b3
      repeat' (first | (with_reducible first | refine Cn (fun h => ?_) fun h => ?_ | refine And.intro ?_ ?_ | refine wR ?_ | exact wr _ _ | refine wa ?_ | apply awp_join | refine qg b1 ?_ | refine qgd b1 ?_ | refine qg b2 ?_ | refine qgd b2 ?_ | refine qg b3 ?_ | refine qgd b3 ?_) | (with_reducible refine CallZ.z ?_) | simp -dsimp [go_sem, hr, q1, w1])
      all_goals first
        | omega
        | (refine Again.auto (i + 1) ?_ hilt ?_
           · simp -dsimp [go_sem, hb]
           · show es.length - (i + 1) < es.length - i; omega)
        | trace_state
    · have hie : i = es.length := by omega
      subst hie
      rw [List.take_length]
      have hel0 := hel es.length
      rw [List.take_length] at hel0
      clear hck a1 a2
      obtain ⟨y1, g1⟩ : ∃ x, l0 ++ es.flatMap entB = x := ⟨_, rfl⟩
      have g1n : y1.length ≤ 12000 := by rw [← g1, List.length_append]; omega
      rw [g1]
      have c1 := wnumber_c (G := G) y1 next (by omega) (by unfold inNum; omega)
      obtain ⟨y2, g2⟩ : ∃ x, y1 ++ numB next = x := ⟨_, rfl⟩
      have g2n : y2.length ≤ 13000 := by rw [← g2, List.length_append, numB_len]; omega
      rw [g2] at c1 ⊢
      have c2 := wsmall_c (G := G) y2 cs.length (by omega)
      obtain ⟨l1, hl1⟩ : ∃ l1, y2 ++ [smallB cs.length] = l1 := ⟨_, rfl⟩
      have hl1n : l1.length ≤ 14000 := by rw [← hl1]; simp; omega
      rw [hl1] at c2 ⊢
      unfold wHp at c1 c2
      repeat' (first | (with_reducible first | refine Cn (fun h => ?_) fun h => ?_ | refine And.intro ?_ ?_ | refine wR ?_ | exact wr _ _ | refine wa ?_ | apply awp_join | refine qg c1 ?_ | refine qgd c1 ?_ | refine qg c2 ?_ | refine qgd c2 ?_) | (with_reducible refine CallZ.z ?_) | simp -dsimp [go_sem, hcn])
      refine awp_loop (fun i : Nat => ⟨[(5, .one (.ptr 0 0)), (59, .one (.v (.sl (clR cs)))), (60, iV cs.length), (61, iV i)], G, wHp (l1 ++ (cs.take i).flatMap cliB)⟩) (fun i => i ≤ cs.length) (fun i => cs.length - i) 0 (weak_auto ?_) (Nat.zero_le _) ?_
      · simp -dsimp [go_sem]
      · intro i hi
        by_cases hilt : i < cs.length
        · obtain ⟨x, hx⟩ : ∃ p, cs[i]? = some p := ⟨_, List.getElem?_eq_getElem hilt⟩
          have hr : (clR cs)[i]? = some x.row := by simp [hx]
          have hsc := hcs x (List.mem_of_getElem? hx)
          have hfi := hcl i
          have htl := textB_le hsc.text
          obtain ⟨y0, g0⟩ : ∃ y, l1 ++ (cs.take i).flatMap cliB = y := ⟨_, rfl⟩
          have g0n : y0.length ≤ 20000 := by rw [← g0, List.length_append]; omega
          have b1 := wnumber_c (G := G) y0 x.id (by omega) hsc.id
          obtain ⟨y1, g1⟩ : ∃ y, y0 ++ numB x.id = y := ⟨_, rfl⟩
          have g1n : y1.length ≤ 20008 := by rw [← g1, List.length_append, numB_len]; omega
          have b2 := wnumber_c (G := G) y1 x.seq (by omega) hsc.seq
          obtain ⟨y2, g2⟩ : ∃ y, y1 ++ numB x.seq = y := ⟨_, rfl⟩
          have g2n : y2.length ≤ 20016 := by rw [← g2, List.length_append, numB_len]; omega
          have b3 := wnumber_c (G := G) y2 x.time (by omega) hsc.time
          obtain ⟨y3, g3⟩ : ∃ y, y2 ++ numB x.time = y := ⟨_, rfl⟩
          have g3n : y3.length ≤ 20024 := by rw [← g3, List.length_append, numB_len]; omega
          have b4 := wsmall_c (G := G) y3 x.reply.code (by omega)
          obtain ⟨y4, g4⟩ : ∃ y, y3 ++ [smallB x.reply.code] = y := ⟨_, rfl⟩
          have g4n : y4.length ≤ 20025 := by rw [← g4]; simp; omega
          have b5 := wtext_c (G := G) y4 x.reply.text (by omega) (by have := hsc.text; omega)
          obtain ⟨y5, g5⟩ : ∃ y, y4 ++ textB x.reply.text = y := ⟨_, rfl⟩
          have g5n : y5.length ≤ 20300 := by rw [← g5, List.length_append]; omega
          have b6 := wnumber_c (G := G) y5 x.reply.n (by omega) hsc.n
          obtain ⟨y6, g6⟩ : ∃ y, y5 ++ numB x.reply.n = y := ⟨_, rfl⟩
          have g6n : y6.length ≤ 20308 := by rw [← g6, List.length_append, numB_len]; omega
          have b7 := wtexts_c (G := G) y6 x.reply.list (by omega) hsc.list.1 hsc.list.2
          have e1 : y6 ++ manyB textB x.reply.list = l1 ++ (cs.take (i + 1)).flatMap cliB := by rw [flat_succ hx, ← g6, ← g5, ← g4, ← g3, ← g2, ← g1, ← g0]; simp [cliB]
          obtain ⟨b, hb⟩ : ∃ b, l1 ++ (cs.take (i + 1)).flatMap cliB = b := ⟨_, rfl⟩
          rw [g1] at b1
          rw [g2] at b2
          rw [g3] at b3
          rw [g4] at b4
          rw [g5] at b5
          rw [g6] at b6
          rw [e1, hb] at b7
          rw [g0]
          clear g1 g2 g3 g4 g5 g6 e1 g0
          have q1 : decide (i < cs.length) = true := by simpa using hilt
          have w1 : IntKind.i64.wrap ((i : Int) + 1) = (i : Int) + 1 := IntWalk.i64_in _ (by omega)
          clear c1 c2
          obtain ⟨id, seq, time, ⟨rc, rt, rn, rl⟩⟩ := x
          simp only [Cli.row] at hr
          simp only at b1 b2 b3 b4 b5 b6 b7
          unfold wHp at b1 b2 b3 b4 b5 b6 b7 ⊢
          repeat' (first | (with_reducible first | refine Cn (fun h => ?_) fun h => ?_ | refine And.intro ?_ ?_ | refine wR ?_ | exact wr _ _ | refine wa ?_ | apply awp_join | refine qg b1 ?_ | refine qgd b1 ?_ | refine qg b2 ?_ | refine qgd b2 ?_ | refine qg b3 ?_ | refine qgd b3 ?_ | refine qg b4 ?_ | refine qgd b4 ?_ | refine qg b5 ?_ | refine qgd b5 ?_ | refine qg b6 ?_ | refine qgd b6 ?_ | refine qg b7 ?_ | refine qgd b7 ?_) | (with_reducible refine CallZ.z ?_) | simp -dsimp [go_sem, hr, q1, w1])
          all_goals first
            | omega
            | (refine Again.auto (i + 1) ?_ hilt ?_
               · simp -dsimp [go_sem, hb]
               · show cs.length - (i + 1) < cs.length - i; omega)
            | trace_state
        · have hie : i = cs.length := by omega
          subst hie
          rw [List.take_length]
          generalize l1 ++ cs.flatMap cliB = a
          unfold wHp
          repeat' (first | (with_reducible first | refine Cn (fun h => ?_) fun h => ?_ | refine And.intro ?_ ?_ | refine wR ?_ | exact wr _ _ | refine wa ?_ | apply awp_join) | (with_reducible refine CallZ.z ?_) | simp -dsimp [go_sem])
          all_goals trace_state
end Go.Proofs.Ytpdcfljbabpakaa

/- Bytes: what the reader of numbers and texts answers. -/
set_option linter.unusedVariables false
set_option linter.unusedSimpArgs false
set_option maxRecDepth 100000
set_option maxHeartbeats 8000000
namespace Go.Proofs.Ytpdcfljbabpakaa
open Go Go.RowKit Go.Proofs.AE
variable {G : Nat → AV}
abbrev rHp (r : Rd) : Hp := [some (.box 69 [.v (.sl (bR r.rest)), .v (.lit (.bool r.short))])]
theorem bR_take (l : List UInt8) (n : Nat) : (bR l).take n = bR (l.take n) := by simp [bR, List.map_take]
theorem bR_drop (l : List UInt8) (n : Nat) : (bR l).drop n = bR (l.drop n) := by simp [bR, List.map_drop]
theorem take_c (r : Rd) (n : Int) (hn : 0 ≤ n) : DetCall Try.prog G 36 1 (rHp r) [.one (.ptr 0 0), iV n] (.one (.v (.sl (bR (takeR r n.toNat).1)))) (rHp (takeR r n.toNat).2) := by
  refine gcallc mixed Try.func36 ac_wire_reader_take ?_
  have h1 := bR_len r.rest
  have h2 := bR_ul r.rest
  have h3 := bR_take r.rest n.toNat
  have h4 := bR_drop r.rest n.toNat
  unfold rHp
  by_cases hs : r.short = true
  · have ht : takeR r n.toNat = ([], ⟨r.rest, true⟩) := by unfold takeR; rw [if_pos (.inl hs)]
    rw [ht, hs]
    repeat' (first | (with_reducible first | refine Cn (fun h => ?_) fun h => ?_ | refine And.intro ?_ ?_ | refine wR ?_ | exact wr _ _ | refine wa ?_ | apply awp_join) | (with_reducible refine CallZ.z ?_) | simp -dsimp [go_sem, bR])
  · have hs' : r.short = false := by simpa using hs
    rw [hs']
    by_cases hl : (r.rest.length : Int) < n
    · have ht : takeR r n.toNat = ([], ⟨r.rest, true⟩) := by unfold takeR; rw [if_pos (.inr (by omega))]
      rw [ht]
      repeat' (first | (with_reducible first | refine Cn (fun h => ?_) fun h => ?_ | refine And.intro ?_ ?_ | refine wR ?_ | exact wr _ _ | refine wa ?_ | apply awp_join) | (with_reducible refine CallZ.z ?_) | simp -dsimp [go_sem, h1, hl])
      all_goals simp [bR]
    · have ht : takeR r n.toNat = (r.rest.take n.toNat, ⟨r.rest.drop n.toNat, false⟩) := by unfold takeR; rw [if_neg (by simp [hs']; omega)]
      rw [ht]
      have h5 : (bR r.rest).take r.rest.length = bR r.rest := by rw [bR_take, List.take_length]
      repeat' (first | (with_reducible first | refine Cn (fun h => ?_) fun h => ?_ | refine And.intro ?_ ?_ | refine wR ?_ | exact wr _ _ | refine wa ?_ | apply awp_join) | (with_reducible refine CallZ.z ?_) | simp -dsimp [go_sem, h1, hl, h2, h3, h4, h5])
      all_goals first | omega | skip
theorem shl_or (u : Nat) (c : UInt8) (hu : u < 18446744073709551616) : bitsV .or .u64 (IntKind.u64.wrap ((u : Int) * 256)) (c.toNat : Int) = ((u : Int) * 256 + c.toNat) % 18446744073709551616 := by
  have hc := c.toNat_lt
  have w64 : ∀ n : Nat, n < 18446744073709551616 → IntKind.u64.wrap (n : Int) = n := by
    intro n hn
    simp [IntKind.wrap, IntKind.bits, IntKind.signed]
    omega
  have h1 : IntKind.u64.wrap ((u : Int) * 256) = ((u * 256 % 18446744073709551616 : Nat) : Int) := by
    simp [IntKind.wrap, IntKind.bits, IntKind.signed]
  rw [h1]
  obtain ⟨v, hv⟩ : ∃ v, u * 256 % 18446744073709551616 = v * 256 := ⟨u * 256 % 18446744073709551616 / 256, by omega⟩
  have hv2 : v * 256 < 18446744073709551616 := by omega
  rw [hv, show ((u : Int) * 256 + c.toNat) % 18446744073709551616 = ((v * 256 + c.toNat : Nat) : Int) by omega]
  unfold bitsV
  simp only [IntKind.bits]
  have e1 : (BitVec.ofInt 64 ((v * 256 : Nat) : Int)) = BitVec.ofNat 64 (v * 256) := rfl
  have e2 : (BitVec.ofInt 64 (c.toNat : Int)) = BitVec.ofNat 64 c.toNat := rfl
  rw [e1, e2]
  change IntKind.u64.wrap (((BitVec.ofNat 64 (v * 256) ||| BitVec.ofNat 64 c.toNat : BitVec 64).toNat : Nat) : Int) = _
  simp only [BitVec.toNat_or, BitVec.toNat_ofNat]
  rw [Nat.mod_eq_of_lt (by omega), Nat.mod_eq_of_lt (by omega)]
  have e3 : v * 256 ||| c.toNat = v * 256 + c.toNat := by
    have := Nat.shiftLeft_add_eq_or_of_lt (i := 8) (b := c.toNat) (by omega) v
    rw [Nat.shiftLeft_eq] at this
    exact this.symm
  rw [e3, w64 _ (by omega)]
theorem wrap_back (u : Nat) : IntKind.i64.wrap (IntKind.u64.wrap ((u : Int) - 4611686018427387904)) = IntKind.i64.wrap ((u : Int) - 4611686018427387904) := by
  simp [IntKind.wrap, IntKind.bits, IntKind.signed]
theorem rnumber_c (r : Rd) : DetCall Try.prog G 15 1 (rHp r) [.one (.ptr 0 0)] (iV (numR r).1) (rHp (numR r).2) := by
  refine gcallc mixed Try.func15 ac_wire_reader_number ?_
  have ht := take_c (G := G) r 8 (by omega)
  have hl := takeR_len r 8
  unfold numR
  simp only [show (8 : Int).toNat = 8 from rfl] at ht
  generalize hq : takeR r 8 = q at *
  obtain ⟨b, r'⟩ := q
  simp only at ht hl ⊢
  have h1 := bR_len b
  unfold rHp
  repeat' (first | (with_reducible first | refine Cn (fun h => ?_) fun h => ?_ | refine And.intro ?_ ?_ | refine wR ?_ | exact wr _ _ | refine wa ?_ | apply awp_join | refine qg ht ?_ | refine qgd ht ?_) | (with_reducible refine CallZ.z ?_) | simp -dsimp [go_sem, h1])
  refine awp_loop (fun i : Nat => ⟨[(3, .one (.v (.lit (.int .u64 (uOf (b.take i)))))), (7, .one (.v (.sl (bR b)))), (8, iV b.length), (9, iV i)], G, rHp r'⟩) (fun i => i ≤ b.length) (fun i => b.length - i) 0 (weak_auto ?_) (Nat.zero_le _) ?_
  · simp -dsimp [go_sem]
    rfl
  · intro i hi
    unfold rHp
    simp -dsimp [go_sem]
    refine Cnd.intro (fun h => ?_) (fun h => ?_)
    · have hlt : i < b.length := by simpa using h
      have hgi : (bR b)[i]? = some [.lit (.int .u8 (b[i].toNat : Int))] := by simp [bR, hlt]
      have e1 : IntKind.i64.wrap ((i : Int) + 1) = i + 1 := IntWalk.i64_in _ (by omega)
      have e2 := shl_or (uOf (b.take i)) b[i] (uOf_lt _)
      have e3 : IntKind.u64.wrap (b[i].toNat : Int) = b[i].toNat := by
        have := b[i].toNat_lt
        simp [IntKind.wrap, IntKind.bits, IntKind.signed]
        omega
      have e4 : uOf (b.take (i + 1)) = (uOf (b.take i) * 256 + b[i].toNat) % 18446744073709551616 := by rw [List.take_succ_eq_append_getElem hlt, uOf_snoc]
      repeat' (first | (with_reducible first | refine Cn (fun h => ?_) fun h => ?_ | refine And.intro ?_ ?_ | refine wR ?_ | exact wr _ _ | refine wa ?_ | apply awp_join) | (with_reducible refine CallZ.z ?_) | simp -dsimp [go_sem, hgi, e1, e2, e3])
      all_goals first | omega | (with_reducible refine Again.auto (i + 1) ?_ ?_ ?_) | skip
      · simp -dsimp [go_sem, e4, e2]
      · exact hlt
      · show b.length - (i + 1) < b.length - i
        omega
    · have hij : i = b.length := by simp at h; omega
      subst hij
      have e5 : b.take b.length = b := List.take_length
      have e6 : IntKind.i64.wrap (IntKind.u64.wrap ((uOf b : Int) - 4611686018427387904)) = numOf b := wrap_back _
      rw [e5]
      repeat' (first | (with_reducible first | refine Cn (fun h => ?_) fun h => ?_ | refine And.intro ?_ ?_ | refine wR ?_ | exact wr _ _ | refine wa ?_ | apply awp_join) | (with_reducible refine CallZ.z ?_) | simp -dsimp [go_sem, e6])
theorem rsmall_c (r : Rd) : DetCall Try.prog G 21 1 (rHp r) [.one (.ptr 0 0)] (iV (smallR r).1) (rHp (smallR r).2) := by
  refine gcallc mixed Try.func21 ac_wire_reader_small ?_
  have ht := take_c (G := G) r 1 (by omega)
  unfold smallR
  simp only [show (1 : Int).toNat = 1 from rfl] at ht
  generalize hq : takeR r 1 = q at *
  obtain ⟨b, r'⟩ := q
  simp only at ht ⊢
  have h1 := bR_len b
  unfold rHp
  repeat' (first | (with_reducible first | refine Cn (fun h => ?_) fun h => ?_ | refine And.intro ?_ ?_ | refine wR ?_ | exact wr _ _ | refine wa ?_ | apply awp_join | refine qg ht ?_ | refine qgd ht ?_) | (with_reducible refine CallZ.z ?_) | simp -dsimp [go_sem, h1])
  refine awp_loop (fun _ : Unit => ⟨[(6, .one (.v (.sl (bR b)))), (7, iV b.length), (8, iV 0)], G, rHp r'⟩) (fun _ => True) (fun _ => 0) () (weak_auto ?_) trivial ?_
  · simp -dsimp [go_sem]
  · intro _ _
    unfold rHp
    cases b with
    | nil => repeat' (first | (with_reducible first | refine Cn (fun h => ?_) fun h => ?_ | refine And.intro ?_ ?_ | refine wR ?_ | exact wr _ _ | refine wa ?_ | apply awp_join) | (with_reducible refine CallZ.z ?_) | simp -dsimp [go_sem])
    | cons c b =>
      have hgi : (bR (c :: b))[0]? = some [.lit (.int .u8 (c.toNat : Int))] := by simp [bR]
      have e3 : IntKind.i64.wrap (c.toNat : Int) = c.toNat := by
        have := c.toNat_lt
        exact IntWalk.i64_in _ (by omega)
      repeat' (first | (with_reducible first | refine Cn (fun h => ?_) fun h => ?_ | refine And.intro ?_ ?_ | refine wR ?_ | exact wr _ _ | refine wa ?_ | apply awp_join) | (with_reducible refine CallZ.z ?_) | simp -dsimp [go_sem, hgi, e3])
theorem rtext_c (r : Rd) : DetCall Try.prog G 18 1 (rHp r) [.one (.ptr 0 0)] (sV (txtR r).1) (rHp (txtR r).2) := by
  refine gcallc mixed Try.func18 ac_wire_reader_text ?_
  have h1 := bR_bytes
  unfold txtR rHp
  repeat' (first | (with_reducible first | refine Cn (fun h => ?_) fun h => ?_ | refine And.intro ?_ ?_ | refine wR ?_ | exact wr _ _ | refine wa ?_ | apply awp_join | refine qg (rsmall_c _) ?_ | refine qgd (rsmall_c _) ?_ | refine qg (take_c _ _ (Int.natCast_nonneg _)) ?_ | refine qgd (take_c _ _ (Int.natCast_nonneg _)) ?_) | (with_reducible refine CallZ.z ?_) | simp -dsimp [go_sem, h1])
theorem rend_c (r : Rd) (ok : Bool) : DetCall Try.prog G 23 1 (rHp r) [.one (.ptr 0 0), bV ok] (iV (if r.short then 9 else if ok = false ∨ 0 < r.rest.length then 8 else 0)) (rHp r) := by
  refine gcallc mixed Try.func23 ac_wire_reader_end ?_
  have h1 := bR_len r.rest
  unfold rHp
  cases hs : r.short <;> cases ok
  all_goals
    repeat' (first | (with_reducible first | refine Cn (fun h => ?_) fun h => ?_ | refine And.intro ?_ ?_ | refine wR ?_ | exact wr _ _ | refine wa ?_ | apply awp_join) | (with_reducible refine CallZ.z ?_) | simp -dsimp [go_sem, h1])
  all_goals first | (simp_all; done) | (intro hh; simp_all)
end Go.Proofs.Ytpdcfljbabpakaa

/- Machines out of bytes: what the reader answers. -/
set_option linter.unusedVariables false
set_option linter.unusedSimpArgs false
set_option maxRecDepth 100000
set_option maxHeartbeats 8000000
namespace Go.Proofs.Ytpdcfljbabpakaa
open Go Go.RowKit Go.Proofs.AE
variable {G : Nat → AV}
theorem eachN_len {α : Type} (f : Rd → α × Rd) : ∀ (n : Nat) (r : Rd), (eachN f n r).1.length ≤ n
  | 0, r => Nat.le_refl _
  | n + 1, r => by
    unfold eachN
    split
    · simp
    · have := eachN_len f n (f r).2
      simp only [List.length_cons]; omega
theorem smallR_lt (r : Rd) : (smallR r).1 < 256 := by
  unfold smallR
  split
  · rename_i c _ _
    have := c.toNat_lt
    exact this
  · simp
theorem eachR_len {α : Type} (f : Rd → α × Rd) (r : Rd) : (eachR f r).1.length ≤ 255 := by
  unfold eachR
  have h1 := eachN_len f (smallR r).1 (smallR r).2
  have h2 := smallR_lt r
  omega
/-- On the way: what is read, and what is still to be read. -/
structure OnWay {α : Type} (f : Rd → α × Rd) (r0 : Rd) (n : Nat) (r : Rd) (l : List α) : Prop where
  eq : eachR f r0 = (l ++ (eachN f n r).1, (eachN f n r).2)
  le : l.length + n ≤ 255
theorem OnWay.first {α : Type} (f : Rd → α × Rd) (r0 : Rd) : OnWay f r0 (smallR r0).1 (smallR r0).2 [] := ⟨rfl, by have := smallR_lt r0; simp; omega⟩
theorem OnWay.next {α : Type} {f : Rd → α × Rd} {r0 r : Rd} {n : Nat} {l : List α} (h : OnWay f r0 (n + 1) r l) (hs : r.short = false) : OnWay f r0 n (f r).2 (l ++ [(f r).1]) := by
  refine ⟨?_, by have := h.le; simp; omega⟩
  have e : eachN f (n + 1) r = ((f r).1 :: (eachN f n (f r).2).1, (eachN f n (f r).2).2) := by
    show (if r.short = true then _ else _) = _
    rw [if_neg (by rw [hs]; simp)]
  rw [h.eq, e]
  simp
theorem OnWay.stop {α : Type} {f : Rd → α × Rd} {r0 r : Rd} {n : Nat} {l : List α} (h : OnWay f r0 n r l) (hs : n = 0 ∨ r.short = true) : eachR f r0 = (l, r) := by
  rw [h.eq]
  rcases hs with rfl | hs
  · simp [eachN]
  · cases n with
    | zero => simp [eachN]
    | succ n => unfold eachN; rw [if_pos hs]; simp
abbrev tHp (r : Rd) (l : List ByteArray) : Hp := [some (.box 69 [.v (.sl (bR r.rest)), .v (.lit (.bool r.short))]), some (.box 66 [.ptr 0 0]), some (.box 74 [.ar 3]), some (.arr 9 1 (strRows l))]
theorem strRows_snoc (l : List ByteArray) (t : ByteArray) : strRows (l ++ [t]) = strRows l ++ [[.lit (.string t)]] := by simp [strRows]
theorem strRows_ul (l : List ByteArray) : UL 1 (strRows l) := by
  intro r hr
  obtain ⟨y, _, rfl⟩ := List.mem_map.1 hr
  rfl
theorem txStep_c (r : Rd) (l : List ByteArray) (hl : l.length ≤ 1000) : DetCall Try.prog G 39 3 (tHp r l) [.one (.ptr 2 0), .one (.ptr 1 0)] (.tup []) (tHp (txtR r).2 (l ++ [(txtR r).1])) := by
  have ht := rtext_c (G := G) r
  have h1 : (strRows l).length = l.length := by simp [strRows]
  have h2 := strRows_ul l
  generalize txtR r = q at *
  obtain ⟨t, r2⟩ := q
  simp only at ht
  have h3 := strRows_snoc l t
  unfold tHp
  rw [h3]
  unfold rHp at ht
  refine gcallc mixed Try.func39 ac_wire_reader_texts_1 ?_
  repeat' (first | (with_reducible first | refine Cn (fun h => ?_) fun h => ?_ | refine And.intro ?_ ?_ | refine wR ?_ | exact wr _ _ | refine wa ?_ | apply awp_join | refine qg ht ?_ | refine qgd ht ?_) | (with_reducible refine CallZ.z ?_) | simp -dsimp [go_sem, h1, h2])
  all_goals first | omega | (simp [UL]; done) | trace_state
theorem txEach_c  (r0 : Rd) : DetCall Try.prog G 16 3 (tHp  r0 []) [.one (.ptr 0 0), .fn 39 [] [.ptr 2 0, .ptr 1 0]] (.tup []) (tHp  (eachR txtR r0).2 (eachR txtR r0).1) := by
  have hsm := rsmall_c (G := G) r0
  have hle := smallR_lt r0
  have hen := en39
  have hfirst := OnWay.first txtR r0
  generalize smallR r0 = q at *
  obtain ⟨n, r⟩ := q
  simp only at hle hfirst
  refine gcallc mixed Try.func16 ac_wire_reader_each ?_
  unfold tHp
  unfold rHp at hsm
  repeat' (first | (with_reducible first | refine Cn (fun h => ?_) fun h => ?_ | refine And.intro ?_ ?_ | refine wR ?_ | exact wr _ _ | refine wa ?_ | apply awp_join | refine qg hsm ?_ | refine qgd hsm ?_) | (with_reducible refine CallZ.z ?_) | simp -dsimp [go_sem])
  refine awp_loop (fun x : Nat × Rd × List ByteArray => ⟨[(0, .one (.ptr 0 0)), (1, .fn 39 [] [.ptr 2 0, .ptr 1 0]), (4, iV x.1)], G, tHp  x.2.1 x.2.2⟩) (fun x => OnWay txtR r0 x.1 x.2.1 x.2.2) (fun x => x.1) (n, r, []) (weak_auto ?_) hfirst ?_
  · simp -dsimp [go_sem, strRows]
  · rintro ⟨n, r, l⟩ hw
    simp only at hw
    have hwl := hw.le
    unfold tHp
    cases n with
    | zero =>
      rw [hw.stop (.inl rfl)]
      repeat' (first | (with_reducible first | refine Cn (fun h => ?_) fun h => ?_ | refine And.intro ?_ ?_ | refine wR ?_ | exact wr _ _ | refine wa ?_ | apply awp_join) | (with_reducible refine CallZ.z ?_) | simp -dsimp [go_sem])
      all_goals trace_state
    | succ n =>
      have w1 : IntKind.i64.wrap (n : Int) = (n : Int) := IntWalk.i64_in _ (by omega)
      have w2 : ((n + 1 : Nat) : Int) - 1 = (n : Int) := by omega
      have q1 : decide (0 < ((n + 1 : Nat) : Int)) = true := decide_eq_true (by omega)
      have q2 : decide (0 < (n : Int) + 1) = true := decide_eq_true (by omega)
      by_cases hs : r.short = true
      · rw [hw.stop (.inr hs)]
        repeat' (first | (with_reducible first | refine Cn (fun h => ?_) fun h => ?_ | refine And.intro ?_ ?_ | refine wR ?_ | exact wr _ _ | refine wa ?_ | apply awp_join) | (with_reducible refine CallZ.z ?_) | simp -dsimp [go_sem, hs, q1, q2])
        all_goals trace_state
      · have hs : r.short = false := by simpa using hs
        have hst := txStep_c (G := G)  r l (by omega)
        have hnx := hw.next hs
        generalize txtR r = q at *
        obtain ⟨t, r2⟩ := q
        simp only at hst hnx
        clear hsm
        unfold tHp at hst
        rw [hs] at hst
        repeat' (first | (with_reducible first | refine Cn (fun h => ?_) fun h => ?_ | refine And.intro ?_ ?_ | refine wR ?_ | exact wr _ _ | refine wa ?_ | apply awp_join | refine qg hst ?_ | refine qgd hst ?_) | (with_reducible refine CallZ.z ?_) | simp -dsimp [go_sem, hs, q1, q2, w1, w2, hen])
        all_goals first
          | omega
          | (refine Again.auto (n, r2, l ++ [t]) ?_ hnx ?_
             · simp -dsimp [go_sem]
             · show n < n + 1; omega)
          | trace_state
theorem rtexts_c (r : Rd) : DetCall Try.prog G 22 1 (rHp r) [.one (.ptr 0 0)] (.one (.v (.sl (strRows (eachR txtR r).1)))) (rHp (eachR txtR r).2) := by
  have he := txEach_c (G := G) r
  generalize eachR txtR r = q at *
  obtain ⟨l, r2⟩ := q
  simp only at he
  unfold tHp at he
  have h0 : strRows [] = [] := rfl
  rw [h0] at he
  unfold rHp
  refine gcallc mixed Try.func22 ac_wire_reader_texts ?_
  repeat' (first | (with_reducible first | refine Cn (fun h => ?_) fun h => ?_ | refine And.intro ?_ ?_ | refine wR ?_ | exact wr _ _ | refine wa ?_ | apply awp_join | refine qg he ?_ | refine qgd he ?_) | (refine CallZ.l (CallK.thaw 2 0 9 1 rfl rfl (by decide) ?_); simp -dsimp [go_sem]) | (with_reducible refine CallZ.z ?_) | simp -dsimp [go_sem])
  all_goals trace_state
/-! ### values -/
abbrev pHp (k : Int) (t : ByteArray) (c : Int) (r : Rd) (l : List Pr) : Hp := [some (.box 69 [.v (.sl (bR r.rest)), .v (.lit (.bool r.short))]), some (.box 66 [.ptr 0 0]), some (.box 77 [iC k, sC t, iC c, .ar 3, .ar 4, .ar 5]), some (.arr 106 2 (pR l)), some (.arr 9 1 []), some (.arr 108 2 [])]
theorem pR_ul (l : List Pr) : UL 2 (pR l) := by
  intro r hr
  obtain ⟨y, _, rfl⟩ := List.mem_map.1 hr
  rfl
theorem sR_ul (l : List Sc) : UL 2 (sR l) := by
  intro r hr
  obtain ⟨y, _, rfl⟩ := List.mem_map.1 hr
  rfl
theorem prStep_c (k : Int) (t : ByteArray) (c : Int) (r : Rd) (l : List Pr) (hl : l.length ≤ 1000) : DetCall Try.prog G 37 3 (pHp k t c r l) [.one (.ptr 2 0), .one (.ptr 1 0)] (.tup []) (pHp k t c (prR r).2 (l ++ [(prR r).1])) := by
  have e : prR r = (((txtR r).1, (txtR (txtR r).2).1), (txtR (txtR r).2).2) := rfl
  rw [e]
  have h1 := rtext_c (G := G) r
  generalize txtR r = q at *
  obtain ⟨f, r1⟩ := q
  simp only at h1 ⊢
  have h2 := rtext_c (G := G) r1
  generalize txtR r1 = q at *
  obtain ⟨x, r2⟩ := q
  simp only at h2 ⊢
  have h3 : (pR l).length = l.length := by simp
  have h4 := pR_ul l
  have h5 : pR (l ++ [(f, x)]) = pR l ++ [[.lit (.string f), .lit (.string x)]] := by simp
  unfold pHp
  rw [h5]
  unfold rHp at h1 h2
  refine gcallc mixed Try.func37 ac_wire_reader_value_1 ?_
  repeat' (first | (with_reducible first | refine Cn (fun h => ?_) fun h => ?_ | refine And.intro ?_ ?_ | refine wR ?_ | exact wr _ _ | refine wa ?_ | apply awp_join | refine qg h1 ?_ | refine qgd h1 ?_ | refine qg h2 ?_ | refine qgd h2 ?_) | (with_reducible refine CallZ.z ?_) | simp -dsimp [go_sem, h3, h4])
  all_goals first | omega | (simp [UL]; done) | trace_state
theorem prEach_c (k : Int) (t : ByteArray) (c : Int) (r0 : Rd) : DetCall Try.prog G 16 3 (pHp k t c r0 []) [.one (.ptr 0 0), .fn 37 [] [.ptr 2 0, .ptr 1 0]] (.tup []) (pHp k t c (eachR prR r0).2 (eachR prR r0).1) := by
  have hsm := rsmall_c (G := G) r0
  have hle := smallR_lt r0
  have hen := en37
  have hfirst := OnWay.first prR r0
  generalize smallR r0 = q at *
  obtain ⟨n, r⟩ := q
  simp only at hle hfirst
  refine gcallc mixed Try.func16 ac_wire_reader_each ?_
  unfold pHp
  unfold rHp at hsm
  repeat' (first | (with_reducible first | refine Cn (fun h => ?_) fun h => ?_ | refine And.intro ?_ ?_ | refine wR ?_ | exact wr _ _ | refine wa ?_ | apply awp_join | refine qg hsm ?_ | refine qgd hsm ?_) | (with_reducible refine CallZ.z ?_) | simp -dsimp [go_sem])
  refine awp_loop (fun x : Nat × Rd × List Pr => ⟨[(0, .one (.ptr 0 0)), (1, .fn 37 [] [.ptr 2 0, .ptr 1 0]), (4, iV x.1)], G, pHp k t c x.2.1 x.2.2⟩) (fun x => OnWay prR r0 x.1 x.2.1 x.2.2) (fun x => x.1) (n, r, []) (weak_auto ?_) hfirst ?_
  · simp -dsimp [go_sem]
  · rintro ⟨n, r, l⟩ hw
    simp only at hw
    have hwl := hw.le
    unfold pHp
    cases n with
    | zero =>
      rw [hw.stop (.inl rfl)]
      repeat' (first | (with_reducible first | refine Cn (fun h => ?_) fun h => ?_ | refine And.intro ?_ ?_ | refine wR ?_ | exact wr _ _ | refine wa ?_ | apply awp_join) | (with_reducible refine CallZ.z ?_) | simp -dsimp [go_sem])
      all_goals trace_state
    | succ n =>
      have w1 : IntKind.i64.wrap (n : Int) = (n : Int) := IntWalk.i64_in _ (by omega)
      have w2 : ((n + 1 : Nat) : Int) - 1 = (n : Int) := by omega
      have q1 : decide (0 < ((n + 1 : Nat) : Int)) = true := decide_eq_true (by omega)
      have q2 : decide (0 < (n : Int) + 1) = true := decide_eq_true (by omega)
      by_cases hs : r.short = true
      · rw [hw.stop (.inr hs)]
        repeat' (first | (with_reducible first | refine Cn (fun h => ?_) fun h => ?_ | refine And.intro ?_ ?_ | refine wR ?_ | exact wr _ _ | refine wa ?_ | apply awp_join) | (with_reducible refine CallZ.z ?_) | simp -dsimp [go_sem, hs, q1, q2])
        all_goals trace_state
      · have hs : r.short = false := by simpa using hs
        have hst := prStep_c (G := G) k t c r l (by omega)
        have hnx := hw.next hs
        generalize prR r = q at *
        obtain ⟨t, r2⟩ := q
        simp only at hst hnx
        clear hsm
        unfold pHp at hst
        rw [hs] at hst
        repeat' (first | (with_reducible first | refine Cn (fun h => ?_) fun h => ?_ | refine And.intro ?_ ?_ | refine wR ?_ | exact wr _ _ | refine wa ?_ | apply awp_join | refine qg hst ?_ | refine qgd hst ?_) | (with_reducible refine CallZ.z ?_) | simp -dsimp [go_sem, hs, q1, q2, w1, w2, hen])
        all_goals first
          | omega
          | (refine Again.auto (n, r2, l ++ [t]) ?_ hnx ?_
             · simp -dsimp [go_sem]
             · show n < n + 1; omega)
          | trace_state
abbrev sHp (k : Int) (t : ByteArray) (c : Int) (ps : List Pr) (is : List ByteArray) (r : Rd) (l : List Sc) : Hp := [some (.box 69 [.v (.sl (bR r.rest)), .v (.lit (.bool r.short))]), some (.box 66 [.ptr 0 0]), some (.box 77 [iC k, sC t, iC c, .ar 3, .v (.sl (strRows is)), .ar 4]), some (.arr 106 2 (pR ps)), some (.arr 108 2 (sR l))]
theorem scStep_c (k : Int) (t : ByteArray) (c : Int) (ps : List Pr) (is : List ByteArray) (r : Rd) (l : List Sc) (hl : l.length ≤ 1000) : DetCall Try.prog G 38 3 (sHp k t c ps is r l) [.one (.ptr 2 0), .one (.ptr 1 0)] (.tup []) (sHp k t c ps is (scR r).2 (l ++ [(scR r).1])) := by
  have e : scR r = (((txtR r).1, (numR (txtR r).2).1), (numR (txtR r).2).2) := rfl
  rw [e]
  have h1 := rtext_c (G := G) r
  generalize txtR r = q at *
  obtain ⟨f, r1⟩ := q
  simp only at h1 ⊢
  have h2 := rnumber_c (G := G) r1
  generalize numR r1 = q at *
  obtain ⟨x, r2⟩ := q
  simp only at h2 ⊢
  have h3 : (sR l).length = l.length := by simp
  have h4 := sR_ul l
  have h5 : sR (l ++ [(f, x)]) = sR l ++ [[.lit (.string f), .lit (.int .i64 x)]] := by simp
  unfold sHp
  rw [h5]
  unfold rHp at h1 h2
  refine gcallc mixed Try.func38 ac_wire_reader_value_2 ?_
  repeat' (first | (with_reducible first | refine Cn (fun h => ?_) fun h => ?_ | refine And.intro ?_ ?_ | refine wR ?_ | exact wr _ _ | refine wa ?_ | apply awp_join | refine qg h1 ?_ | refine qgd h1 ?_ | refine qg h2 ?_ | refine qgd h2 ?_) | (with_reducible refine CallZ.z ?_) | simp -dsimp [go_sem, h3, h4])
  all_goals first | omega | (simp [UL]; done) | trace_state
theorem scEach_c (k : Int) (t : ByteArray) (c : Int) (ps : List Pr) (is : List ByteArray) (r0 : Rd) : DetCall Try.prog G 16 3 (sHp k t c ps is r0 []) [.one (.ptr 0 0), .fn 38 [] [.ptr 2 0, .ptr 1 0]] (.tup []) (sHp k t c ps is (eachR scR r0).2 (eachR scR r0).1) := by
  have hsm := rsmall_c (G := G) r0
  have hle := smallR_lt r0
  have hen := en38
  have hfirst := OnWay.first scR r0
  generalize smallR r0 = q at *
  obtain ⟨n, r⟩ := q
  simp only at hle hfirst
  refine gcallc mixed Try.func16 ac_wire_reader_each ?_
  unfold sHp
  unfold rHp at hsm
  repeat' (first | (with_reducible first | refine Cn (fun h => ?_) fun h => ?_ | refine And.intro ?_ ?_ | refine wR ?_ | exact wr _ _ | refine wa ?_ | apply awp_join | refine qg hsm ?_ | refine qgd hsm ?_) | (with_reducible refine CallZ.z ?_) | simp -dsimp [go_sem])
  refine awp_loop (fun x : Nat × Rd × List Sc => ⟨[(0, .one (.ptr 0 0)), (1, .fn 38 [] [.ptr 2 0, .ptr 1 0]), (4, iV x.1)], G, sHp k t c ps is x.2.1 x.2.2⟩) (fun x => OnWay scR r0 x.1 x.2.1 x.2.2) (fun x => x.1) (n, r, []) (weak_auto ?_) hfirst ?_
  · simp -dsimp [go_sem]
  · rintro ⟨n, r, l⟩ hw
    simp only at hw
    have hwl := hw.le
    unfold sHp
    cases n with
    | zero =>
      rw [hw.stop (.inl rfl)]
      repeat' (first | (with_reducible first | refine Cn (fun h => ?_) fun h => ?_ | refine And.intro ?_ ?_ | refine wR ?_ | exact wr _ _ | refine wa ?_ | apply awp_join) | (with_reducible refine CallZ.z ?_) | simp -dsimp [go_sem])
      all_goals trace_state
    | succ n =>
      have w1 : IntKind.i64.wrap (n : Int) = (n : Int) := IntWalk.i64_in _ (by omega)
      have w2 : ((n + 1 : Nat) : Int) - 1 = (n : Int) := by omega
      have q1 : decide (0 < ((n + 1 : Nat) : Int)) = true := decide_eq_true (by omega)
      have q2 : decide (0 < (n : Int) + 1) = true := decide_eq_true (by omega)
      by_cases hs : r.short = true
      · rw [hw.stop (.inr hs)]
        repeat' (first | (with_reducible first | refine Cn (fun h => ?_) fun h => ?_ | refine And.intro ?_ ?_ | refine wR ?_ | exact wr _ _ | refine wa ?_ | apply awp_join) | (with_reducible refine CallZ.z ?_) | simp -dsimp [go_sem, hs, q1, q2])
        all_goals trace_state
      · have hs : r.short = false := by simpa using hs
        have hst := scStep_c (G := G) k t c ps is r l (by omega)
        have hnx := hw.next hs
        generalize scR r = q at *
        obtain ⟨t, r2⟩ := q
        simp only at hst hnx
        clear hsm
        unfold sHp at hst
        rw [hs] at hst
        repeat' (first | (with_reducible first | refine Cn (fun h => ?_) fun h => ?_ | refine And.intro ?_ ?_ | refine wR ?_ | exact wr _ _ | refine wa ?_ | apply awp_join | refine qg hst ?_ | refine qgd hst ?_) | (with_reducible refine CallZ.z ?_) | simp -dsimp [go_sem, hs, q1, q2, w1, w2, hen])
        all_goals first
          | omega
          | (refine Again.auto (n, r2, l ++ [t]) ?_ hnx ?_
             · simp -dsimp [go_sem]
             · show n < n + 1; omega)
          | trace_state
theorem valR_eq (r : Rd) : valR r = (⟨((smallR r).1 : Int), (txtR (smallR r).2).1, (numR (txtR (smallR r).2).2).1, (eachR prR (numR (txtR (smallR r).2).2).2).1, (eachR txtR (eachR prR (numR (txtR (smallR r).2).2).2).2).1, (eachR scR (eachR txtR (eachR prR (numR (txtR (smallR r).2).2).2).2).2).1⟩, (eachR scR (eachR txtR (eachR prR (numR (txtR (smallR r).2).2).2).2).2).2) := id rfl
theorem rvalue_c (r : Rd) : DetCall Try.prog G 19 1 (rHp r) [.one (.ptr 0 0)] (.agg (valR r).1.c) (rHp (valR r).2) := by
  rw [valR_eq]
  have h1 := rsmall_c (G := G) r
  generalize smallR r = q at *
  obtain ⟨k, r1⟩ := q
  simp only at h1 ⊢
  have h2 := rtext_c (G := G) r1
  generalize txtR r1 = q at *
  obtain ⟨t, r2⟩ := q
  simp only at h2 ⊢
  have h3 := rnumber_c (G := G) r2
  generalize numR r2 = q at *
  obtain ⟨c, r3⟩ := q
  simp only at h3 ⊢
  have h4 := prEach_c (G := G) k t c r3
  generalize eachR prR r3 = q at *
  obtain ⟨ps, r4⟩ := q
  simp only at h4 ⊢
  have h5 := rtexts_c (G := G) r4
  generalize eachR txtR r4 = q at *
  obtain ⟨is, r5⟩ := q
  simp only at h5 ⊢
  have h6 := scEach_c (G := G) k t c ps is r5
  generalize eachR scR r5 = q at *
  obtain ⟨ss, r6⟩ := q
  simp only at h6 ⊢
  unfold rHp at *
  unfold pHp at h4
  unfold sHp at h6
  simp only [Val.c]
  refine gcallc mixed Try.func19 ac_wire_reader_value ?_
  repeat' (first | (with_reducible first | refine Cn (fun h => ?_) fun h => ?_ | refine And.intro ?_ ?_ | refine wR ?_ | exact wr _ _ | refine wa ?_ | apply awp_join | refine qg h1 ?_ | refine qgd h1 ?_ | refine qg h2 ?_ | refine qgd h2 ?_ | refine qg h3 ?_ | refine qgd h3 ?_ | refine qg h4 ?_ | refine qgd h4 ?_ | refine qg h5 ?_ | refine qgd h5 ?_ | refine qg h6 ?_ | refine qgd h6 ?_ | refine q (simp -dsimp [go_sem]) ?_ | refine qd (simp -dsimp [go_sem]) ?_ | refine qz (simp -dsimp [go_sem]) ?_) | (refine CallZ.l (CallK.thaw 3 3 106 2 rfl rfl (by decide) (CallK.thaw 3 4 9 1 rfl rfl (by decide) (CallK.thaw 3 5 108 2 rfl rfl (by decide) ?_)))) | (with_reducible refine CallZ.z ?_) | simp -dsimp [go_sem])
  all_goals trace_state
end Go.Proofs.Ytpdcfljbabpakaa

/- Machines out of bytes: entries, clients. -/
set_option linter.unusedVariables false
set_option linter.unusedSimpArgs false
set_option maxRecDepth 100000
set_option maxHeartbeats 8000000
namespace Go.Proofs.Ytpdcfljbabpakaa
open Go Go.RowKit Go.Proofs.AE
variable {G : Nat → AV}
/-! ### machines -/
abbrev eHp (now nx : Int) (cs : List Cli) (r : Rd) (l : List Ent) : Hp := [some (.box 69 [.v (.sl (bR r.rest)), .v (.lit (.bool r.short))]), some (.box 66 [.ptr 0 0]), some (.box 28 [iC now, .ar 3, iC nx, .ar 4]), some (.arr 80 8 (eR l)), some (.arr 84 7 (clR cs))]
theorem entR_eq (r : Rd) : entR r = (⟨(txtR r).1, (valR (txtR r).2).1, (numR (valR (txtR r).2).2).1⟩, (numR (valR (txtR r).2).2).2) := id rfl
theorem enStep_c (now nx : Int) (cs : List Cli) (r : Rd) (l : List Ent) (hl : l.length ≤ 1000) : DetCall Try.prog G 17 3 (eHp now nx cs r l) [.one (.ptr 2 0), .one (.ptr 1 0)] (.tup []) (eHp now nx cs (entR r).2 (l ++ [(entR r).1])) := by
  rw [entR_eq]
  have h1 := rtext_c (G := G) r
  generalize txtR r = q at *
  obtain ⟨f, r1⟩ := q
  simp only at h1 ⊢
  have h2 := rvalue_c (G := G) r1
  generalize valR r1 = q at *
  obtain ⟨⟨vk, vt, vn, vp, vi, vs⟩, r2⟩ := q
  simp only [Val.c] at h2 ⊢
  have h3 := rnumber_c (G := G) r2
  generalize numR r2 = q at *
  obtain ⟨x, r3⟩ := q
  simp only at h3 ⊢
  have h4 : (eR l).length = l.length := by simp
  have h5 := ul_e l
  have h6 : eR (l ++ [⟨f, ⟨vk, vt, vn, vp, vi, vs⟩, x⟩]) = eR l ++ [[.lit (.string f), .lit (.int .i64 vk), .lit (.string vt), .lit (.int .i64 vn), .sl (pR vp), .sl (strRows vi), .sl (sR vs), .lit (.int .i64 x)]] := by simp [Ent.row]
  unfold eHp
  rw [h6]
  unfold rHp at h1 h2 h3
  refine gcallc mixed Try.func17 ac_wire_Decode_1 ?_
  repeat' (first | (with_reducible first | refine Cn (fun h => ?_) fun h => ?_ | refine And.intro ?_ ?_ | refine wR ?_ | exact wr _ _ | refine wa ?_ | apply awp_join | refine qg h1 ?_ | refine qgd h1 ?_ | refine qg h2 ?_ | refine qgd h2 ?_ | refine qg h3 ?_ | refine qgd h3 ?_) | (with_reducible refine CallZ.z ?_) | simp -dsimp [go_sem, h4, h5])
  all_goals first | omega | (simp [UL]; done) | trace_state
theorem enEach_c (now nx : Int) (cs : List Cli) (r0 : Rd) : DetCall Try.prog G 16 3 (eHp now nx cs r0 []) [.one (.ptr 0 0), .fn 17 [] [.ptr 2 0, .ptr 1 0]] (.tup []) (eHp now nx cs (eachR entR r0).2 (eachR entR r0).1) := by
  have hsm := rsmall_c (G := G) r0
  have hle := smallR_lt r0
  have hen := en17
  have hfirst := OnWay.first entR r0
  generalize smallR r0 = q at *
  obtain ⟨n, r⟩ := q
  simp only at hle hfirst
  refine gcallc mixed Try.func16 ac_wire_reader_each ?_
  unfold eHp
  unfold rHp at hsm
  repeat' (first | (with_reducible first | refine Cn (fun h => ?_) fun h => ?_ | refine And.intro ?_ ?_ | refine wR ?_ | exact wr _ _ | refine wa ?_ | apply awp_join | refine qg hsm ?_ | refine qgd hsm ?_) | (with_reducible refine CallZ.z ?_) | simp -dsimp [go_sem])
  refine awp_loop (fun x : Nat × Rd × List Ent => ⟨[(0, .one (.ptr 0 0)), (1, .fn 17 [] [.ptr 2 0, .ptr 1 0]), (4, iV x.1)], G, eHp now nx cs x.2.1 x.2.2⟩) (fun x => OnWay entR r0 x.1 x.2.1 x.2.2) (fun x => x.1) (n, r, []) (weak_auto ?_) hfirst ?_
  · simp -dsimp [go_sem]
  · rintro ⟨n, r, l⟩ hw
    simp only at hw
    have hwl := hw.le
    unfold eHp
    cases n with
    | zero =>
      rw [hw.stop (.inl rfl)]
      repeat' (first | (with_reducible first | refine Cn (fun h => ?_) fun h => ?_ | refine And.intro ?_ ?_ | refine wR ?_ | exact wr _ _ | refine wa ?_ | apply awp_join) | (with_reducible refine CallZ.z ?_) | simp -dsimp [go_sem])
      all_goals trace_state
    | succ n =>
      have w1 : IntKind.i64.wrap (n : Int) = (n : Int) := IntWalk.i64_in _ (by omega)
      have w2 : ((n + 1 : Nat) : Int) - 1 = (n : Int) := by omega
      have q1 : decide (0 < ((n + 1 : Nat) : Int)) = true := decide_eq_true (by omega)
      have q2 : decide (0 < (n : Int) + 1) = true := decide_eq_true (by omega)
      by_cases hs : r.short = true
      · rw [hw.stop (.inr hs)]
        repeat' (first | (with_reducible first | refine Cn (fun h => ?_) fun h => ?_ | refine And.intro ?_ ?_ | refine wR ?_ | exact wr _ _ | refine wa ?_ | apply awp_join) | (with_reducible refine CallZ.z ?_) | simp -dsimp [go_sem, hs, q1, q2])
        all_goals trace_state
      · have hs : r.short = false := by simpa using hs
        have hst := enStep_c (G := G) now nx cs r l (by omega)
        have hnx := hw.next hs
        generalize entR r = q at *
        obtain ⟨t, r2⟩ := q
        simp only at hst hnx
        clear hsm
        unfold eHp at hst
        rw [hs] at hst
        repeat' (first | (with_reducible first | refine Cn (fun h => ?_) fun h => ?_ | refine And.intro ?_ ?_ | refine wR ?_ | exact wr _ _ | refine wa ?_ | apply awp_join | refine qg hst ?_ | refine qgd hst ?_) | (with_reducible refine CallZ.z ?_) | simp -dsimp [go_sem, hs, q1, q2, w1, w2, hen])
        all_goals first
          | omega
          | (refine Again.auto (n, r2, l ++ [t]) ?_ hnx ?_
             · simp -dsimp [go_sem]
             · show n < n + 1; omega)
          | trace_state
abbrev cHp (now nx : Int) (es : List Ent) (r : Rd) (l : List Cli) : Hp := [some (.box 69 [.v (.sl (bR r.rest)), .v (.lit (.bool r.short))]), some (.box 66 [.ptr 0 0]), some (.box 28 [iC now, .ar 3, iC nx, .ar 4]), some (.arr 80 8 (eR es)), some (.arr 84 7 (clR l))]
def cliR3 (r : Rd) : (Int × Int × Int) × Rd := (((numR r).1, (numR (numR r).2).1, (numR (numR (numR r).2).2).1), (numR (numR (numR r).2).2).2)
def repR3 (r : Rd) : (Int × ByteArray × Int) × Rd := ((((smallR r).1 : Int), (txtR (smallR r).2).1, (numR (txtR (smallR r).2).2).1), (numR (txtR (smallR r).2).2).2)
theorem cliR_eq (r : Rd) : cliR r = (⟨(cliR3 r).1.1, (cliR3 r).1.2.1, (cliR3 r).1.2.2, ⟨(repR3 (cliR3 r).2).1.1, (repR3 (cliR3 r).2).1.2.1, (repR3 (cliR3 r).2).1.2.2, (eachR txtR (repR3 (cliR3 r).2).2).1⟩⟩, (eachR txtR (repR3 (cliR3 r).2).2).2) := id rfl
theorem cl_ul (l : List Cli) : UL 7 (clR l) := by
  intro r hr
  obtain ⟨y, _, rfl⟩ := List.mem_map.1 hr
  rfl
theorem clStep_c (now nx : Int) (es : List Ent) (r : Rd) (l : List Cli) (hl : l.length ≤ 1000) : DetCall Try.prog G 20 3 (cHp now nx es r l) [.one (.ptr 1 0), .one (.ptr 2 0)] (.tup []) (cHp now nx es (cliR r).2 (l ++ [(cliR r).1])) := by
  rw [cliR_eq]
  unfold cliR3 repR3
  have h1 := rnumber_c (G := G) r
  generalize numR r = q at *
  obtain ⟨id, r1⟩ := q
  simp only at h1 ⊢
  have h2 := rnumber_c (G := G) r1
  generalize numR r1 = q at *
  obtain ⟨seq, r2⟩ := q
  simp only at h2 ⊢
  have h3 := rnumber_c (G := G) r2
  generalize numR r2 = q at *
  obtain ⟨time, r3⟩ := q
  simp only at h3 ⊢
  have h4 := rsmall_c (G := G) r3
  generalize smallR r3 = q at *
  obtain ⟨code, r4⟩ := q
  simp only at h4 ⊢
  have h5 := rtext_c (G := G) r4
  generalize txtR r4 = q at *
  obtain ⟨tx, r5⟩ := q
  simp only at h5 ⊢
  have h6 := rnumber_c (G := G) r5
  generalize numR r5 = q at *
  obtain ⟨n, r6⟩ := q
  simp only at h6 ⊢
  have h7 := rtexts_c (G := G) r6
  generalize eachR txtR r6 = q at *
  obtain ⟨li, r7⟩ := q
  simp only at h7 ⊢
  have k1 : (clR l).length = l.length := by simp
  have k2 := cl_ul l
  have k3 : clR (l ++ [⟨id, seq, time, ⟨(code : Int), tx, n, li⟩⟩]) = clR l ++ [[.lit (.int .i64 id), .lit (.int .i64 seq), .lit (.int .i64 time), .lit (.int .i64 (code : Int)), .lit (.string tx), .lit (.int .i64 n), .sl (strRows li)]] := by simp [Cli.row]
  unfold cHp
  rw [k3]
  unfold rHp at *
  refine gcallc mixed Try.func20 ac_wire_Decode_2 ?_
  repeat' (first | (with_reducible first | refine Cn (fun h => ?_) fun h => ?_ | refine And.intro ?_ ?_ | refine wR ?_ | exact wr _ _ | refine wa ?_ | apply awp_join | refine qg h1 ?_ | refine qgd h1 ?_ | refine qg h2 ?_ | refine qgd h2 ?_ | refine qg h3 ?_ | refine qgd h3 ?_ | refine qg h4 ?_ | refine qgd h4 ?_ | refine qg h5 ?_ | refine qgd h5 ?_ | refine qg h6 ?_ | refine qgd h6 ?_ | refine qg h7 ?_ | refine qgd h7 ?_) | (with_reducible refine CallZ.z ?_) | simp -dsimp [go_sem, k1, k2])
  all_goals first | omega | (simp [UL]; done) | trace_state
theorem clEach_c (now nx : Int) (es : List Ent) (r0 : Rd) : DetCall Try.prog G 16 3 (cHp now nx es r0 []) [.one (.ptr 0 0), .fn 20 [] [.ptr 1 0, .ptr 2 0]] (.tup []) (cHp now nx es (eachR cliR r0).2 (eachR cliR r0).1) := by
  have hsm := rsmall_c (G := G) r0
  have hle := smallR_lt r0
  have hen := en20
  have hfirst := OnWay.first cliR r0
  generalize smallR r0 = q at *
  obtain ⟨n, r⟩ := q
  simp only at hle hfirst
  refine gcallc mixed Try.func16 ac_wire_reader_each ?_
  unfold cHp
  unfold rHp at hsm
  repeat' (first | (with_reducible first | refine Cn (fun h => ?_) fun h => ?_ | refine And.intro ?_ ?_ | refine wR ?_ | exact wr _ _ | refine wa ?_ | apply awp_join | refine qg hsm ?_ | refine qgd hsm ?_) | (with_reducible refine CallZ.z ?_) | simp -dsimp [go_sem])
  refine awp_loop (fun x : Nat × Rd × List Cli => ⟨[(0, .one (.ptr 0 0)), (1, .fn 20 [] [.ptr 1 0, .ptr 2 0]), (4, iV x.1)], G, cHp now nx es x.2.1 x.2.2⟩) (fun x => OnWay cliR r0 x.1 x.2.1 x.2.2) (fun x => x.1) (n, r, []) (weak_auto ?_) hfirst ?_
  · simp -dsimp [go_sem]
  · rintro ⟨n, r, l⟩ hw
    simp only at hw
    have hwl := hw.le
    unfold cHp
    cases n with
    | zero =>
      rw [hw.stop (.inl rfl)]
      repeat' (first | (with_reducible first | refine Cn (fun h => ?_) fun h => ?_ | refine And.intro ?_ ?_ | refine wR ?_ | exact wr _ _ | refine wa ?_ | apply awp_join) | (with_reducible refine CallZ.z ?_) | simp -dsimp [go_sem])
      all_goals trace_state
    | succ n =>
      have w1 : IntKind.i64.wrap (n : Int) = (n : Int) := IntWalk.i64_in _ (by omega)
      have w2 : ((n + 1 : Nat) : Int) - 1 = (n : Int) := by omega
      have q1 : decide (0 < ((n + 1 : Nat) : Int)) = true := decide_eq_true (by omega)
      have q2 : decide (0 < (n : Int) + 1) = true := decide_eq_true (by omega)
      by_cases hs : r.short = true
      · rw [hw.stop (.inr hs)]
        repeat' (first | (with_reducible first | refine Cn (fun h => ?_) fun h => ?_ | refine And.intro ?_ ?_ | refine wR ?_ | exact wr _ _ | refine wa ?_ | apply awp_join) | (with_reducible refine CallZ.z ?_) | simp -dsimp [go_sem, hs, q1, q2])
        all_goals trace_state
      · have hs : r.short = false := by simpa using hs
        have hst := clStep_c (G := G) now nx es r l (by omega)
        have hnx := hw.next hs
        generalize cliR r = q at *
        obtain ⟨t, r2⟩ := q
        simp only at hst hnx
        clear hsm
        unfold cHp at hst
        rw [hs] at hst
        repeat' (first | (with_reducible first | refine Cn (fun h => ?_) fun h => ?_ | refine And.intro ?_ ?_ | refine wR ?_ | exact wr _ _ | refine wa ?_ | apply awp_join | refine qg hst ?_ | refine qgd hst ?_) | (with_reducible refine CallZ.z ?_) | simp -dsimp [go_sem, hs, q1, q2, w1, w2, hen])
        all_goals first
          | omega
          | (refine Again.auto (n, r2, l ++ [t]) ?_ hnx ?_
             · simp -dsimp [go_sem]
             · show n < n + 1; omega)
          | trace_state
end Go.Proofs.Ytpdcfljbabpakaa

/- Machines out of bytes: Decode. -/
set_option linter.unusedVariables false
set_option linter.unusedSimpArgs false
set_option maxRecDepth 100000
set_option maxHeartbeats 8000000
namespace Go.Proofs.Ytpdcfljbabpakaa
open Go Go.RowKit Go.Proofs.AE
variable {G : Nat → AV}
theorem eachN_of {α : Type} {f : Rd → α × Rd} : ∀ (n : Nat) (r : Rd), ∀ a ∈ (eachN f n r).1, ∃ r', a = (f r').1
  | 0, r, a, h => by cases h
  | n + 1, r, a, h => by
    unfold eachN at h
    split at h
    · cases h
    · rcases List.mem_cons.1 h with rfl | h
      · exact ⟨r, rfl⟩
      · exact eachN_of n _ a h
theorem mach_small (r : Rd) : (machR r).1.sto.Small ∧ (machR r).1.clis.length ≤ 1000000 := by
  refine ⟨⟨?_, fun e he => ?_⟩, ?_⟩
  · show (eachR entR (numR r).2).1.length ≤ 1000
    have := eachR_len entR (numR r).2; omega
  · obtain ⟨r', rfl⟩ := eachN_of _ _ e he
    rw [entR_eq]
    show (valR (txtR r').2).1.Small
    rw [valR_eq]
    have h1 := eachR_len prR (numR (txtR (smallR (txtR r').2).2).2).2
    have h2 := eachR_len txtR (eachR prR (numR (txtR (smallR (txtR r').2).2).2).2).2
    have h3 := eachR_len scR (eachR txtR (eachR prR (numR (txtR (smallR (txtR r').2).2).2).2).2).2
    unfold Val.Small
    simp only
    omega
  · have := eachR_len cliR (numR (eachR entR (numR r).2).2).2
    show (eachR cliR (numR (eachR entR (numR r).2).2).2).1.length ≤ 1000000
    omega
theorem cloneB_c (l : List UInt8) (hx : l.length ≤ 1000000) : PCall Try.prog G 14 [.one (.v (.sl (bR l)))] (.one (.v (.sl (bR l)))) := by
  have h1 := bR_ul l
  have h2 := bR_len l
  refine pcallc mixed Try.func14 ac_slices_Clone_byte ?_
  repeat' (first | (with_reducible first | refine Cn (fun h => ?_) fun h => ?_ | refine And.intro ?_ ?_ | refine wR ?_ | exact wr _ _ | refine wa ?_ | apply awp_join | refine q (cases q) ?_ | refine qd (cases q) ?_ | refine qz (cases q) ?_) | (intro q hq) | (with_reducible refine CallZ.z ?_) | simp -dsimp [go_sem, h1, h2])
  all_goals first | omega | exact h1 | trace_state
theorem machR_eq (r : Rd) : machR r = (⟨⟨(numR r).1, (eachR entR (numR r).2).1⟩, (numR (eachR entR (numR r).2).2).1, (eachR cliR (numR (eachR entR (numR r).2).2).2).1⟩, (eachR cliR (numR (eachR entR (numR r).2).2).2).2) := id rfl
theorem endR_eq (r : Rd) : (if r.short then 9 else if true = false ∨ 0 < r.rest.length then 8 else 0 : Int) = endR r := by unfold endR; simp
theorem decode_c (l : List UInt8) : PCall Try.prog G 7 [.one (.v (.sl (bR l)))] (.tup [.agg (decM l).1.c, iV (decM l).2]) := by
  have hlen := bR_len l
  unfold decM
  by_cases h0 : 20000 < l.length
  · rw [if_pos h0]
    have q0 : decide (20000 < (l.length : Int)) = true := decide_eq_true (by omega)
    simp only [zeroM, zeroS, Mach.c, List.map_nil]
    refine pcallc mixed Try.func7 ac_wire_Decode ?_
    repeat' (first | (with_reducible first | refine Cn (fun h => ?_) fun h => ?_ | refine And.intro ?_ ?_ | refine wR ?_ | exact wr _ _ | refine wa ?_ | apply awp_join) | (with_reducible refine CallZ.z ?_) | simp -dsimp [go_sem, hlen, q0])
    all_goals trace_state
  · rw [if_neg h0]
    have q0 : decide (20000 < (l.length : Int)) = false := decide_eq_false (by omega)
    have hcl := cloneB_c (G := G) l (by omega)
    obtain ⟨hs1, hs2⟩ := mach_small ⟨l, false⟩
    have hck := checkM_c (G := G) (machR ⟨l, false⟩).1 hs1 hs2
    clear hs1 hs2
    rw [machR_eq] at hck ⊢
    have h1 := rnumber_c (G := G) ⟨l, false⟩
    generalize numR ⟨l, false⟩ = q at *
    obtain ⟨now, r1⟩ := q
    simp only at h1 hck ⊢
    have h2 := enEach_c (G := G) now 0 [] r1
    generalize eachR entR r1 = q at *
    obtain ⟨es, r2⟩ := q
    simp only at h2 hck ⊢
    have h3 := rnumber_c (G := G) r2
    generalize numR r2 = q at *
    obtain ⟨nx, r3⟩ := q
    simp only at h3 hck ⊢
    have h4 := clEach_c (G := G) now nx es r3
    generalize eachR cliR r3 = q at *
    obtain ⟨cs, r4⟩ := q
    simp only at h4 hck ⊢
    have h5 := rend_c (G := G) r4 true
    rw [endR_eq] at h5
    generalize endR r4 = e at *
    have he0 : eR [] = [] := rfl
    unfold rHp at h1 h3 h5
    unfold eHp at h2
    unfold cHp at h4
    simp only [Mach.c] at hck
    by_cases he : e ≠ 0
    · rw [if_pos he]
      have q1 : (e != 0) = true := by simpa using he
      simp only [zeroM, zeroS, Mach.c, List.map_nil]
      refine pcallc mixed Try.func7 ac_wire_Decode ?_
      repeat' (first | (with_reducible first | refine Cn (fun h => ?_) fun h => ?_ | refine And.intro ?_ ?_ | refine wR ?_ | exact wr _ _ | refine wa ?_ | apply awp_join | refine q hcl ?_ | refine qd hcl ?_ | refine qz hcl ?_ | refine qg h1 ?_ | refine qgd h1 ?_ | refine qg h2 ?_ | refine qgd h2 ?_ | refine qg h3 ?_ | refine qgd h3 ?_ | refine qg h4 ?_ | refine qgd h4 ?_ | refine qg h5 ?_ | refine qgd h5 ?_ | refine q (simp -dsimp [go_sem]) ?_ | refine qd (simp -dsimp [go_sem]) ?_ | refine qz (simp -dsimp [go_sem]) ?_) | (refine CallZ.l (CallK.thaw 3 1 80 8 rfl rfl (by decide) (CallK.thaw 3 3 84 7 rfl rfl (by decide) ?_))) | (with_reducible refine CallZ.z ?_) | simp -dsimp [go_sem, hlen, q0, q1])
      all_goals trace_state
    · rw [if_neg he]
      have q1 : (e != 0) = false := by simpa using he
      generalize checkM (⟨⟨now, es⟩, nx, cs⟩ : Mach) = v at *
      by_cases hv : v ≠ 0
      · rw [if_pos hv]
        have q2 : (v != 0) = true := by simpa using hv
        simp only [zeroM, zeroS, Mach.c, List.map_nil]
        refine pcallc mixed Try.func7 ac_wire_Decode ?_
        repeat' (first | (with_reducible first | refine Cn (fun h => ?_) fun h => ?_ | refine And.intro ?_ ?_ | refine wR ?_ | exact wr _ _ | refine wa ?_ | apply awp_join | refine q hcl ?_ | refine qd hcl ?_ | refine qz hcl ?_ | refine qg h1 ?_ | refine qgd h1 ?_ | refine qg h2 ?_ | refine qgd h2 ?_ | refine qg h3 ?_ | refine qgd h3 ?_ | refine qg h4 ?_ | refine qgd h4 ?_ | refine qg h5 ?_ | refine qgd h5 ?_ | refine q hck ?_ | refine qd hck ?_ | refine qz hck ?_ | refine q (simp -dsimp [go_sem]) ?_ | refine qd (simp -dsimp [go_sem]) ?_ | refine qz (simp -dsimp [go_sem]) ?_) | (refine CallZ.l (CallK.thaw 3 1 80 8 rfl rfl (by decide) (CallK.thaw 3 3 84 7 rfl rfl (by decide) ?_))) | (with_reducible refine CallZ.z ?_) | simp -dsimp [go_sem, hlen, q0, q1, q2])
        all_goals trace_state
      · rw [if_neg hv]
        have q2 : (v != 0) = false := by simpa using hv
        simp only [Mach.c]
        refine pcallc mixed Try.func7 ac_wire_Decode ?_
        repeat' (first | (with_reducible first | refine Cn (fun h => ?_) fun h => ?_ | refine And.intro ?_ ?_ | refine wR ?_ | exact wr _ _ | refine wa ?_ | apply awp_join | refine q hcl ?_ | refine qd hcl ?_ | refine qz hcl ?_ | refine qg h1 ?_ | refine qgd h1 ?_ | refine qg h2 ?_ | refine qgd h2 ?_ | refine qg h3 ?_ | refine qgd h3 ?_ | refine qg h4 ?_ | refine qgd h4 ?_ | refine qg h5 ?_ | refine qgd h5 ?_ | refine q hck ?_ | refine qd hck ?_ | refine qz hck ?_ | refine q (simp -dsimp [go_sem]) ?_ | refine qd (simp -dsimp [go_sem]) ?_ | refine qz (simp -dsimp [go_sem]) ?_) | (refine CallZ.l (CallK.thaw 3 1 80 8 rfl rfl (by decide) (CallK.thaw 3 3 84 7 rfl rfl (by decide) ?_))) | (with_reducible refine CallZ.z ?_) | simp -dsimp [go_sem, hlen, q0, q1, q2])
        all_goals trace_state
end Go.Proofs.Ytpdcfljbabpakaa
