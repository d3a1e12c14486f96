/- Texts joined. -/
import Derived.Test.YtpdcfljbabpakaaGreatDoorSk9
import Derived.Test.YtpdcfljbabpakaaGreatDoorSk8
import Derived.Test.YtpdcfljbabpakaaGreatDoorSk11
import Derived.Test.YtpdcfljbabpakaaGreatDoorRows
import Derived.ProofKit
import Derived.LaidMore
import Derived.OpenShut
set_option linter.unusedVariables false
set_option linter.unusedSimpArgs false
set_option maxRecDepth 100000
set_option maxHeartbeats 8000000
namespace Go.Proofs.YtpdcfljbabpakaaGreatDoor
open Go Go.RowKit Go.Proofs.AE
def Deed.raw (d : Deed) : Raw := ⟨d.kind, d.key, d.field, d.n, d.text⟩
theorem Deed.Ok.raw {d : Deed} (h : d.Ok) : d.raw.Ok := ⟨h.kind, h.key, h.field, h.n⟩
def seqStep (n p : Int) (s : Int) (x : Cli) : Int := if x.id = n then (if x.seq + 1 - p < 1 then 1 else x.seq + 1 - p) else s
def callSeq (l : List Cli) (n p : Int) : Int := l.foldl (seqStep n p) 1
def openC : Cal := ⟨0, 0, ⟨0, ⟨#[]⟩, ⟨#[]⟩, ⟨#[]⟩, 0⟩⟩
def callD (l : List Cli) (d : Deed) : Cal := if pk d.client 7 = 0 then openC else ⟨pk d.client 7, callSeq l (pk d.client 7) ((pk d.off 3).tdiv 2), cmdR d.raw⟩
def stepM (q : Int × Mach) (d : Deed) : Int × Mach :=
  (q.1 + pk d.wait 8, if (DoM q.2 (q.1 + pk d.wait 8) (callD q.2.clis d)).2.2 = 0 then (DoM q.2 (q.1 + pk d.wait 8) (callD q.2.clis d)).1 else q.2)
def foldM (l : List Deed) : Int × Mach := l.foldl stepM (0, newM)
def machV (l : List Deed) : Mach := (foldM (l.take 40)).2
structure Inv (k : Nat) (m : Mach) : Prop where
  ok : OkM m
  next : m.next ≤ 1 + (k : Int)
  seq : ∀ x ∈ m.clis, x.seq ≤ (k : Int)
theorem Inv.mono {k j : Nat} {m : Mach} (h : Inv k m) (hk : k ≤ j) : Inv j m := ⟨h.ok, by have := h.next; omega, fun x hx => by have := h.seq x hx; omega⟩
theorem half_range (n : Int) : 0 ≤ (pk n 3).tdiv 2 ∧ (pk n 3).tdiv 2 ≤ 1 := by
  have hp := pk_range (n := n) (m := 3) (by omega)
  have : pk n 3 = 0 ∨ pk n 3 = 1 ∨ pk n 3 = 2 := by omega
  rcases this with e | e | e <;> rw [e] <;> decide
theorem callSeq_range {n p : Int} (hp : 0 ≤ p) : ∀ (l : List Cli) (s : Int) (k : Int), (∀ x ∈ l, x.seq ≤ k) → 0 ≤ k → 1 ≤ s → s ≤ k + 1 → 1 ≤ l.foldl (seqStep n p) s ∧ l.foldl (seqStep n p) s ≤ k + 1
  | [], s, k, _, _, h1, h2 => ⟨h1, h2⟩
  | x :: l, s, k, hl, hk, h1, h2 => by
    have hx := hl x (List.mem_cons_self ..)
    refine callSeq_range hp l _ k (fun y hy => hl y (List.mem_cons_of_mem _ hy)) hk ?_ ?_ <;> unfold seqStep <;> repeat' split
    all_goals omega
theorem openC_ok : checkCl openC = 0 := by decide
theorem callD_ok {k : Nat} {m : Mach} (h : Inv k m) (hk : k ≤ 1000) {d : Deed} (hd : d.Ok) : checkCl (callD m.clis d) = 0 := by
  unfold callD
  split
  · exact openC_ok
  · rename_i hn
    have hr := pk_range (n := d.client) (m := 7) (by omega)
    obtain ⟨s1, s2⟩ := callSeq_range (n := pk d.client 7) (half_range d.off).1 m.clis 1 k h.seq (by omega) (by omega) (by omega)
    change 1 ≤ callSeq _ _ _ at s1
    change callSeq _ _ _ ≤ _ at s2
    unfold checkCl checkCall
    have c0 : ¬ (decide (pk d.client 7 = 0)) = true := by simpa using hn
    have c1 : okNumber (pk d.client 7) = true := by unfold okNumber; simp; omega
    have c2 : okNumber (callSeq m.clis (pk d.client 7) ((pk d.off 3).tdiv 2)) = true := by unfold okNumber; simp; omega
    simp only
    rw [if_neg c0, if_pos c1, if_pos c2]
    exact cmdR_ok hd.raw
theorem openM_inv {k : Nat} {m : Mach} (h : Inv k m) : Inv (k + 1) (openM m).1 := by
  refine ⟨(open_ok h.ok).1, ?_, ?_⟩
  · unfold openM
    have := h.next
    split
    · show m.next ≤ _; omega
    · show m.next + 1 ≤ _; omega
  · unfold openM
    split
    · exact fun x hx => by have := h.seq x hx; omega
    · intro x hx
      rcases List.mem_append.1 hx with hx | hx
      · have : x ∈ m.clis := by
          split at hx
          · exact (del_sub _ _).subset hx
          · exact hx
        have := h.seq x this
        omega
      · simp only [List.mem_singleton] at hx
        subst hx
        show (0 : Int) ≤ _
        omega
theorem callM_inv {k : Nat} {m : Mach} (h : Inv k m) {t : Int} (h0 : 0 ≤ t) (h1 : t ≤ 1073741824) {c : Cal} (hc : checkCl c = 0) : Inv (k + 1) (callM m t c).1 := by
  have hok := (call_ok h.ok h0 h1 hc).1
  have hs := h.mono (Nat.le_succ k)
  by_cases hz : c.client = 0
  · unfold callM; rw [if_pos hz]; exact openM_inv h
  · refine ⟨hok, ?_, ?_⟩
    · unfold callM
      rw [if_neg hz]
      repeat' split
      all_goals exact hs.next
    · unfold callM
      rw [if_neg hz]
      split
      · exact hs.seq
      · split
        · exact hs.seq
        · rename_i x hx
          split
          · exact hs.seq
          · split
            · exact hs.seq
            · rename_i e2
              have hxs := h.seq x (List.mem_of_getElem? hx)
              intro y hy
              rcases List.mem_or_eq_of_mem_set hy with hy | hy
              · exact hs.seq y hy
              · subst hy
                show c.seq ≤ _
                omega
theorem callM_now {m : Mach} (h : OkM m) {t : Int} (ht : m.sto.now = t) (h1 : t ≤ 1073741824) {c : Cal} (hc : checkCl c = 0) : (callM m t c).1.sto.now = t := by
  have h0 : 0 ≤ t := by rw [← ht]; exact h.sto.now.1
  unfold callM
  by_cases hz : c.client = 0
  · rw [if_pos hz]
    unfold openM
    split <;> exact ht
  · rw [if_neg hz]
    split
    · exact ht
    · split
      · exact ht
      · split
        · exact ht
        · split
          · exact ht
          · show (ApplyS m.sto t c.cmd).1.now = t
            rw [(apply_ok h.sto h0 h1 (call_cmd hc hz).2.2).1]
            show maxI m.sto.now t = t
            rw [ht, maxI_self]
theorem maxI_le2 {a b : Int} (h : a ≤ b) : maxI a b = b := by unfold maxI; split <;> omega
theorem stepM_inv {k : Nat} {q : Int × Mach} {d : Deed} (h : Inv k q.2) (hk : k ≤ 100) (hd : d.Ok) (n0 : 0 ≤ q.1) (n1 : q.1 ≤ 7 * (k : Int)) (n2 : q.2.sto.now ≤ q.1) :
    ∃ m' r, DoM q.2 (q.1 + pk d.wait 8) (callD q.2.clis d) = (m', r, 0) ∧ stepM q d = (q.1 + pk d.wait 8, m') ∧ Inv (k + 1) m' ∧ m'.sto.now = q.1 + pk d.wait 8 := by
  have hp := pk_range (n := d.wait) (m := 8) (by omega)
  have hc := callD_ok h (by omega) hd
  obtain ⟨e, hmid, _, _⟩ := do_ok h.ok (t := q.1 + pk d.wait 8) (by omega) (by omega) hc
  rw [maxI_le2 (by omega)] at e hmid
  have hi : Inv k ⟨⟨q.1 + pk d.wait 8, aliveS (q.1 + pk d.wait 8) q.2.sto⟩, q.2.next, q.2.clis⟩ := ⟨hmid, h.next, h.seq⟩
  refine ⟨_, _, e, ?_, callM_inv hi (by omega) (by omega) hc, callM_now hmid rfl (by show q.1 + pk d.wait 8 ≤ _; omega) hc⟩
  unfold stepM
  rw [e]
  simp
theorem newM_inv : Inv 0 newM := ⟨⟨⟨⟨by decide, by decide⟩, Nat.zero_le _, (fun e h => by cases h), List.Pairwise.nil⟩, by decide, Nat.zero_le _, (fun x h => by cases h), List.Pairwise.nil⟩, by decide, fun x h => by cases h⟩
theorem foldM_inv : ∀ (l : List Deed) (q : Int × Mach) (k : Nat), (∀ d ∈ l, d.Ok) → k + l.length ≤ 100 → Inv k q.2 → 0 ≤ q.1 → q.1 ≤ 7 * (k : Int) → q.2.sto.now ≤ q.1 →
    Inv (k + l.length) (l.foldl stepM q).2 ∧ 0 ≤ (l.foldl stepM q).1 ∧ (l.foldl stepM q).1 ≤ 7 * ((k + l.length : Nat) : Int) ∧ (l.foldl stepM q).2.sto.now ≤ (l.foldl stepM q).1
  | [], q, k, _, _, h, n0, n1, n2 => ⟨h, n0, n1, n2⟩
  | d :: l, q, k, hl, hk, h, n0, n1, n2 => by
    simp only [List.length_cons] at hk
    have hp := pk_range (n := d.wait) (m := 8) (by omega)
    obtain ⟨m', r, _, e, hi, hn⟩ := stepM_inv h (by omega) (hl d (List.mem_cons_self ..)) n0 n1 n2
    rw [List.foldl_cons, e]
    have := foldM_inv l (q.1 + pk d.wait 8, m') (k + 1) (fun y hy => hl y (List.mem_cons_of_mem _ hy)) (by omega) hi (by show 0 ≤ q.1 + pk d.wait 8; omega) (by show q.1 + pk d.wait 8 ≤ _; omega) (by show m'.sto.now ≤ q.1 + pk d.wait 8; omega)
    rw [show k + (d :: l).length = k + 1 + l.length by simp only [List.length_cons]; omega]
    exact this
theorem foldM_succ {l : List Deed} {i : Nat} {d : Deed} (h : l[i]? = some d) : foldM (l.take (i + 1)) = stepM (foldM (l.take i)) d := by
  unfold foldM
  rw [List.take_add_one, h, Option.toList_some, List.foldl_append]
  rfl
theorem machV_inv (l : List Deed) (hl : ∀ d ∈ l, d.Ok) : Inv 40 (machV l) ∧ (machV l).sto.now ≤ 280 := by
  have hlen : (l.take 40).length ≤ 40 := by rw [List.length_take]; omega
  obtain ⟨h1, h2, h3, h4⟩ := foldM_inv (l.take 40) (0, newM) 0 (fun d hd => hl d (List.mem_of_mem_take hd)) (by omega) newM_inv (Int.le_refl _) (by show (0 : Int) ≤ _; omega) (Int.le_refl _)
  refine ⟨h1.mono (by omega), ?_⟩
  unfold machV foldM
  omega
instance : DecidableEq Cli := fun a b => decidable_of_iff (a.id = b.id ∧ a.seq = b.seq ∧ a.time = b.time ∧ a.reply.code = b.reply.code ∧ a.reply.text = b.reply.text ∧ a.reply.n = b.reply.n ∧ a.reply.list = b.reply.list) (by
  obtain ⟨a1, a2, a3, ⟨a4, a5, a6, a7⟩⟩ := a; obtain ⟨b1, b2, b3, ⟨b4, b5, b6, b7⟩⟩ := b; simp)
end Go.Proofs.YtpdcfljbabpakaaGreatDoor
set_option linter.unusedVariables false
set_option linter.unusedSimpArgs false
set_option maxRecDepth 100000
set_option maxHeartbeats 8000000
namespace Go.Proofs.YtpdcfljbabpakaaGreatDoor
open Go Go.RowKit Go.Proofs.AE
variable {G : Nat → AV}
def Deed.c (d : Deed) : List C := [iC d.client, iC d.off, iC d.wait, iC d.kind, iC d.key, iC d.field, iC d.n, sC d.text]
theorem callSeq_drop {l : List Cli} {i : Nat} {x : Cli} (n p s : Int) (h : l[i]? = some x) : (l.drop i).foldl (seqStep n p) s = (l.drop (i + 1)).foldl (seqStep n p) (seqStep n p s x) := by
  have hl := (List.getElem?_eq_some_iff.1 h).1
  have hx := (List.getElem?_eq_some_iff.1 h).2
  rw [List.drop_eq_getElem_cons hl, hx, List.foldl_cons]
theorem callK_c (m : Mach) (d : Deed) (hd : d.Ok) (hl : m.clis.length ≤ 1000) (hs : ∀ x ∈ m.clis, 0 ≤ x.seq ∧ x.seq ≤ 1048576) : PCall Tryz.prog G 48 [.agg m.c, .agg d.c] (.agg (callD m.clis d).c) := by
  have hpk := picked_c (G := G) d.client 7 hd.client (by omega)
  have hpo := picked_c (G := G) d.off 3 hd.off (by omega)
  have hcm := commandR_c (G := G) d.raw hd.raw
  have hpr := pk_range (n := d.client) (m := 7) (by omega)
  have hhr := half_range d.off
  have hor := pk_range (n := d.off) (m := 3) (by omega)
  unfold callD
  generalize cmdR d.raw = cc at *
  obtain ⟨client, off, wait, kind, key, field, n, text⟩ := d
  obtain ⟨⟨now, ents⟩, next, l⟩ := m
  obtain ⟨ck, ckey, cf, ct, cn⟩ := cc
  simp only at hpk hpo hcm hpr hhr hor hl hs
  simp only [Deed.raw, Deed.c, Mach.c, Cal.c, Cmd.c] at hpk hpo hcm ⊢
  clear hd
  generalize pk client 7 = pc at *
  obtain ⟨po, hpoe⟩ : ∃ po, pk off 3 = po := ⟨_, rfl⟩
  rw [hpoe] at hpo hhr hor ⊢
  clear hpoe
  by_cases h0 : pc = 0
  · subst h0
    rw [if_pos rfl]
    simp only [openC]
    refine pcallc mixed Tryz.func48 ac_rostrumkeep_call ?_
    repeat' (first | (with_reducible first | refine Cn (fun h => ?_) fun h => ?_ | refine And.intro ?_ ?_ | refine wR ?_ | exact wr _ _ | refine wa ?_ | apply awp_join | refine q hpk ?_ | refine qd hpk ?_ | refine qz hpk ?_) | (with_reducible refine CallZ.z ?_) | simp -dsimp [go_sem])
    all_goals trace_state
  · rw [if_neg h0]
    have q0 : (pc == 0) = false := by simpa using h0
    obtain ⟨h, hhe⟩ : ∃ h, po.tdiv 2 = h := ⟨_, rfl⟩
    rw [hhe] at hhr ⊢
    refine pcallc mixed Tryz.func48 ac_rostrumkeep_call ?_
    repeat' (first | (with_reducible first | refine Cn (fun h => ?_) fun h => ?_ | refine And.intro ?_ ?_ | refine wR ?_ | exact wr _ _ | refine wa ?_ | apply awp_join | refine q hpk ?_ | refine qd hpk ?_ | refine qz hpk ?_ | refine q hcm ?_ | refine qd hcm ?_ | refine qz hcm ?_) | (with_reducible refine CallZ.z ?_) | simp -dsimp [go_sem, q0])
    refine awp_loop (fun q : Nat × Int => ⟨[(2, .one (.ptr 0 0)), (3, .one (.ptr 1 0)), (4, .one (.ptr 2 0)), (5, iV pc), (6, .one (.ptr 3 0)), (7, iV q.1)], G, [some (.box 28 [iC now, .v (.sl (eR ents)), iC next, .v (.sl (clR l))]), some (.box 81 [iC client, iC off, iC wait, iC kind, iC key, iC field, iC n, sC text]), some (.box 39 [iC 0, iC 0, iC 0, sC ⟨#[]⟩, sC ⟨#[]⟩, sC ⟨#[]⟩, iC 0]), some (.box 39 [iC pc, iC q.2, iC ck, sC ckey, sC cf, sC ct, iC cn])]⟩) (fun q => q.1 ≤ l.length ∧ callSeq l pc h = (l.drop q.1).foldl (seqStep pc h) q.2) (fun q => l.length - q.1) (0, 1) (weak_auto ?_) ⟨Nat.zero_le _, rfl⟩ ?_
    · simp -dsimp [go_sem]
    · rintro ⟨i, s⟩ ⟨b1, b2⟩
      simp only at b1 b2
      by_cases hil : i < l.length
      · obtain ⟨x, hx⟩ : ∃ x, l[i]? = some x := ⟨_, List.getElem?_eq_getElem hil⟩
        have e4 : IntKind.i64.wrap ((i : Int) + 1) = (i : Int) + 1 := IntWalk.i64_in _ (by omega)
        have q2 : decide (i < l.length) = true := by simpa using hil
        rw [callSeq_drop pc h s hx] at b2
        have hxs := hs x (List.mem_of_getElem? hx)
        obtain ⟨xi, xs, xt, ⟨xc, xx, xn, xl⟩⟩ := x
        simp only [seqStep] at b2
        simp only at hxs
        by_cases hc : xi = pc
        · rw [if_pos hc] at b2
          have q3 : (xi == pc) = true := by simpa using hc
          have w1 : IntKind.i64.wrap (xs + 1) = xs + 1 := IntWalk.i64_in _ (by omega)
          have w2 : IntKind.i64.wrap (xs + 1 - h) = xs + 1 - h := IntWalk.i64_in _ (by omega)
          have w3 : IntKind.i64.wrap (po.tdiv 2) = h := by rw [hhe]; exact IntWalk.i64_in _ (by omega)
          have w4 : IntKind.i64.wrap (po / 2) = h := by rw [← hhe, Int.tdiv_eq_ediv_of_nonneg (by omega)]; exact IntWalk.i64_in _ (by omega)
          repeat' (first | (with_reducible first | refine Cn (fun h => ?_) fun h => ?_ | refine And.intro ?_ ?_ | refine wR ?_ | exact wr _ _ | refine weak_autoC ?_ | apply awp_join | refine q hpo ?_ | refine qd hpo ?_ | refine qz hpo ?_) | (with_reducible refine CallZ.z ?_) | simp -dsimp [go_sem, hx, Cli.row, e4, q2, q3, w1, w2, w3, w4, clean_nil, clean_cons, clean_yes, clean_no])
          all_goals first
            | omega
            | (refine Again.auto (i + 1, if xs + 1 - h < 1 then 1 else xs + 1 - h) ?_ ⟨hil, b2⟩ ?_
               · simp -dsimp [go_sem]
               · show l.length - (i + 1) < l.length - i; omega)
            | trace_state
        · rw [if_neg hc] at b2
          have q3 : (xi == pc) = false := by simpa using hc
          repeat' (first | (with_reducible first | refine Cn (fun h => ?_) fun h => ?_ | refine And.intro ?_ ?_ | refine wR ?_ | exact wr _ _ | refine wa ?_ | apply awp_join | refine q hpo ?_ | refine qd hpo ?_ | refine qz hpo ?_) | (with_reducible refine CallZ.z ?_) | simp -dsimp [go_sem, hx, Cli.row, e4, q2, q3])
          all_goals first
            | omega
            | (refine Again.auto (i + 1, s) ?_ ⟨hil, b2⟩ ?_
               · simp -dsimp [go_sem]
               · show l.length - (i + 1) < l.length - i; omega)
            | trace_state
      · have q2 : decide (i < l.length) = false := by simpa using hil
        have hn2 : l.drop i = [] := List.drop_eq_nil_of_le (by omega)
        rw [hn2] at b2
        rw [b2]
        simp only [List.foldl_nil]
        repeat' (first | (with_reducible first | refine Cn (fun h => ?_) fun h => ?_ | refine And.intro ?_ ?_ | refine wR ?_ | exact wr _ _ | refine wa ?_ | apply awp_join) | (with_reducible refine CallZ.z ?_) | simp -dsimp [go_sem, q2])
        all_goals trace_state
instance : DecidableEq Mach := fun a b => decidable_of_iff (a.sto = b.sto ∧ a.next = b.next ∧ a.clis = b.clis) (by obtain ⟨a1, a2, a3⟩ := a; obtain ⟨b1, b2, b3⟩ := b; simp)
theorem newM_c : PCall Tryz.prog G 46 [] (.agg newM.c) := by
  simp only [newM, zeroS, Mach.c, List.map_nil]
  refine pcallc mixed Tryz.func46 ac_client_New ?_
  repeat' (first | (with_reducible first | refine Cn (fun h => ?_) fun h => ?_ | refine And.intro ?_ ?_ | refine wR ?_ | exact wr _ _ | refine wa ?_ | apply awp_join) | (with_reducible refine CallZ.z ?_) | simp -dsimp [go_sem])
theorem Inv.dom {k : Nat} {m : Mach} (h : Inv k m) : m.sto.Small ∧ m.clis.length ≤ 1000000 ∧ m.clis.length ≤ 1000 ∧ ∀ x ∈ m.clis, 0 ≤ x.seq ∧ x.seq ≤ 1048576 :=
  ⟨h.ok.sto.small, by have := h.ok.len; omega, by have := h.ok.len; omega, fun x hx => (h.ok.all x hx).seq⟩
theorem machineK_c (hG : Noth G) (l : List Deed) (hl : ∀ d ∈ l, d.Ok) (hn : (l.length : Int) ≤ 9223372036854775807) : PCall Tryz.prog G 24 [.one (.v (.sl (l.map Deed.row)))] (.agg (machV l).c) := by
  have hnew := newM_c (G := G)
  simp only [newM, zeroS, Mach.c, List.map_nil] at hnew
  refine pcallc mixed Tryz.func24 ac_rostrumkeep_Machine ?_
  repeat' (first | (with_reducible first | refine Cn (fun h => ?_) fun h => ?_ | refine And.intro ?_ ?_ | refine wR ?_ | exact wr _ _ | refine wa ?_ | apply awp_join | refine q hnew ?_ | refine qd hnew ?_ | refine qz hnew ?_) | (with_reducible refine CallZ.z ?_) | simp -dsimp [go_sem])
  refine awp_loop (fun i : Nat => ⟨[(0, .one (.v (.sl (l.map Deed.row)))), (2, .one (.ptr 0 0)), (3, .one (.ptr 1 0)), (4, iV (foldM (l.take i)).1), (5, iV i)], G, [some (.box 28 [iC 0, .nil, iC 0, .nil]), some (.box 28 (foldM (l.take i)).2.c)]⟩) (fun i => i ≤ l.length ∧ i ≤ 40) (fun i => 40 - i) 0 (weak_auto ?_) ⟨Nat.zero_le _, by omega⟩ ?_
  · simp -dsimp [go_sem, foldM, newM, zeroS, Mach.c]
  · rintro i ⟨hi, hi2⟩
    have ht : (l.take i).length ≤ 40 := by rw [List.length_take]; omega
    obtain ⟨g1, g2, g3, g4⟩ := foldM_inv (l.take i) (0, newM) 0 (fun d hd => hl d (List.mem_of_mem_take hd)) (by omega) newM_inv (Int.le_refl _) (by show (0 : Int) ≤ _; omega) (Int.le_refl _)
    change Inv _ (foldM (l.take i)).2 at g1
    change 0 ≤ (foldM (l.take i)).1 at g2
    change (foldM (l.take i)).1 ≤ _ at g3
    change (foldM (l.take i)).2.sto.now ≤ (foldM (l.take i)).1 at g4
    have g1 := g1.mono (j := 40) (by omega)
    have g3 : (foldM (l.take i)).1 ≤ 280 := by omega
    have w1 : IntKind.i64.wrap ((i : Int) + 1) = (i : Int) + 1 := IntWalk.i64_in _ (by omega)
    by_cases hlt : i < l.length ∧ i < 40
    · obtain ⟨d, hx⟩ : ∃ d, l[i]? = some d := ⟨_, List.getElem?_eq_getElem hlt.1⟩
      have hok := hl d (List.mem_of_getElem? hx)
      have hp := pk_range (n := d.wait) (m := 8) (by omega)
      have hpk := picked_c (G := G) d.wait 8 hok.wait (by omega)
      have hsu := foldM_succ hx
      generalize foldM (l.take i) = q at *
      obtain ⟨now, m⟩ := q
      simp only at g1 g2 g3 g4
      obtain ⟨f1, f2, f3, f4⟩ := g1.dom
      obtain ⟨m', r, e1, e2, _, _⟩ := stepM_inv (q := (now, m)) (d := d) g1 (by omega) hok g2 (by show now ≤ _; omega) g4
      simp only at e1 e2
      have hck := callK_c (G := G) m d hok f3 f4
      have hdo := doM_c hG m (now + pk d.wait 8) (callD m.clis d) f1 f2
      rw [e1] at hdo
      rw [e2] at hsu
      have w2 : IntKind.i64.wrap (now + pk d.wait 8) = now + pk d.wait 8 := IntWalk.i64_in _ (by omega)
      have q1 : decide (i < l.length) = true := by simp; omega
      have q2 : decide ((i : Int) < 40) = true := by simp; omega
      generalize callD m.clis d = c at *
      generalize pk d.wait 8 = p at *
      obtain ⟨d1, d2, d3, d4, d5, d6, d7, d8⟩ := d
      obtain ⟨⟨mn, me⟩, mx, ml⟩ := m
      obtain ⟨⟨mn', me'⟩, mx', ml'⟩ := m'
      obtain ⟨cid, cseq, ⟨ck, ckey, cf, ct, cn⟩⟩ := c
      obtain ⟨rc, rt, rn, rl⟩ := r
      simp only [DmA, Mach.c, Cal.c, Cmd.c, Rep.c, Deed.c] at hdo hck hpk ⊢
      repeat' (first | (with_reducible first | refine Cn (fun h => ?_) fun h => ?_ | refine And.intro ?_ ?_ | refine wR ?_ | exact wr _ _ | refine weak_autoC ?_ | apply awp_join | refine q hpk ?_ | refine qd hpk ?_ | refine qz hpk ?_ | refine q hck ?_ | refine qd hck ?_ | refine qz hck ?_ | refine q hdo ?_ | refine qd hdo ?_ | refine qz hdo ?_) | (with_reducible refine CallZ.z ?_) | simp -dsimp [go_sem, hx, Deed.row, w1, w2, q1, q2, clean_nil, clean_cons, clean_yes, clean_no])
      all_goals first
        | omega
        | (refine Again.auto (i + 1) ?_ ⟨hlt.1, hlt.2⟩ ?_
           · simp -dsimp [go_sem, hsu, Mach.c]
           · show 40 - (i + 1) < 40 - i; omega)
        | trace_state
    · have hend : machV l = (foldM (l.take i)).2 := by
        unfold machV
        have ht : l.take 40 = l.take i := by
          by_cases h : i < l.length
          · rw [show i = 40 by omega]
          · rw [List.take_of_length_le (by omega), List.take_of_length_le (by omega)]
        rw [ht]
      rw [hend]
      generalize foldM (l.take i) = q at *
      obtain ⟨now, ⟨mn, me⟩, mx, ml⟩ := q
      simp only [Mach.c]
      by_cases h : i < l.length
      · have q1 : decide (i < l.length) = true := by simpa using h
        have q2 : decide ((i : Int) < 40) = false := by simp; omega
        repeat' (first | (with_reducible first | refine Cn (fun h => ?_) fun h => ?_ | refine And.intro ?_ ?_ | refine wR ?_ | exact wr _ _ | refine wa ?_ | apply awp_join) | (with_reducible refine CallZ.z ?_) | simp -dsimp [go_sem, q1, q2])
      · have q1 : decide (i < l.length) = false := by simpa using h
        repeat' (first | (with_reducible first | refine Cn (fun h => ?_) fun h => ?_ | refine And.intro ?_ ?_ | refine wR ?_ | exact wr _ _ | refine wa ?_ | apply awp_join) | (with_reducible refine CallZ.z ?_) | simp -dsimp [go_sem, q1])
end Go.Proofs.YtpdcfljbabpakaaGreatDoor
set_option linter.unusedVariables false
set_option linter.unusedSimpArgs false
set_option maxRecDepth 100000
set_option maxHeartbeats 8000000
namespace Go.Proofs.YtpdcfljbabpakaaGreatDoor
open Go Go.RowKit Go.Proofs.AE
variable {G : Nat → AV}
def repEq (a b : Rep) : Bool := a.code == b.code && decide (a.text = b.text) && a.n == b.n && decide (a.list = b.list)
theorem repEq_iff {a b : Rep} : repEq a b = true ↔ a = b := by
  obtain ⟨a1, a2, a3, a4⟩ := a; obtain ⟨b1, b2, b3, b4⟩ := b
  unfold repEq
  simp [and_assoc]
theorem repEq_self (a : Rep) : repEq a a = true := repEq_iff.2 rfl
theorem sameR_c (a b : Rep) (hl : a.list.length ≤ 1000) : PCall Tryz.prog G 65 [.agg a.c, .agg b.c] (bV (repEq a b)) := sameReply_c a b hl
theorem sameMachine_c (a b : Mach) (ha : a.sto.Small) (hr : ∀ x ∈ a.clis, x.reply.list.length ≤ 1000) (hl : a.clis.length ≤ 1000000) : PCall Tryz.prog G 27 [.agg a.c, .agg b.c] (bV (decide (a = b))) := by
  have hst := sameStore_c (G := G) a.sto b.sto ha
  obtain ⟨S, n, l⟩ := a
  obtain ⟨S', n', l'⟩ := b
  simp only at hr hl hst
  by_cases hk : n = n' ∧ S = S' ∧ l.length = l'.length
  · obtain ⟨rfl, rfl, hll⟩ := hk
    have hd : decide (Mach.mk S n l = Mach.mk S n l') = decide (l = l') := by simp
    rw [hd]
    rw [decide_eq_true (rfl : S = S)] at hst
    have q0 : ((l.length : Int) == l'.length) = true := by rw [beq_iff_eq]; omega
    obtain ⟨Sn, Se⟩ := S
    simp only [Mach.c, Sto.c] at hst ⊢
    refine pcallc mixed Tryz.func27 ac_rostrumkeep_sameMachine ?_
    repeat' (first | (with_reducible first | refine Cn (fun h => ?_) fun h => ?_ | refine And.intro ?_ ?_ | refine wR ?_ | exact wr _ _ | refine wa ?_ | apply awp_join | refine q hst ?_ | refine qd hst ?_ | refine qz hst ?_) | (with_reducible refine CallZ.z ?_) | simp -dsimp [go_sem, q0, hll])
    refine awp_loop (fun i : Nat => ⟨[(2, .one (.ptr 0 0)), (3, .one (.ptr 1 0)), (5, iV i)], G, [some (.box 28 [iC Sn, .v (.sl (eR Se)), iC n, .v (.sl (clR l))]), some (.box 28 [iC Sn, .v (.sl (eR Se)), iC n, .v (.sl (clR l'))])]⟩) (fun i => i ≤ l.length ∧ l.take i = l'.take i) (fun i => l.length - i) 0 (weak_auto ?_) ⟨Nat.zero_le _, rfl⟩ ?_
    · simp -dsimp [go_sem]
    · rintro i ⟨hi, hx⟩
      by_cases hlt : i < l.length
      · obtain ⟨x, hxa⟩ : ∃ x, l[i]? = some x := ⟨_, List.getElem?_eq_getElem hlt⟩
        obtain ⟨y, hyb⟩ : ∃ y, l'[i]? = some y := ⟨_, List.getElem?_eq_getElem (by omega)⟩
        have e4 : IntKind.i64.wrap ((i : Int) + 1) = (i : Int) + 1 := IntWalk.i64_in _ (by omega)
        have q1 : decide (i < l.length) = true := by simpa using hlt
        have hsr := sameR_c (G := G) x.reply y.reply (hr x (List.mem_of_getElem? hxa))
        by_cases hxy : x = y
        · subst hxy
          have hag := take_same hx hxa hyb rfl
          rw [repEq_self] at hsr
          obtain ⟨xi, xs, xt, ⟨xc, xx, xn, xl⟩⟩ := x
          simp only [Rep.c] at hsr
          repeat' (first | (with_reducible first | refine Cn (fun h => ?_) fun h => ?_ | refine And.intro ?_ ?_ | refine wR ?_ | exact wr _ _ | refine wa ?_ | apply awp_join | refine q hsr ?_ | refine qd hsr ?_ | refine qz hsr ?_) | (with_reducible refine CallZ.z ?_) | simp -dsimp [go_sem, hxa, hyb, Cli.row, e4, q1])
          all_goals first
            | omega
            | (refine Again.auto (i + 1) ?_ ⟨hlt, hag⟩ ?_
               · simp -dsimp [go_sem]
               · show l.length - (i + 1) < l.length - i; omega)
            | trace_state
        · have hne : ¬ l = l' := fun e => by subst e; rw [hxa] at hyb; exact hxy (Option.some.inj hyb)
          have hd : decide (l = l') = false := by simpa using hne
          rw [hd]
          obtain ⟨bb, hbb⟩ : ∃ bb, repEq x.reply y.reply = bb := ⟨_, rfl⟩
          have hor : (x.id == y.id) = false ∨ (x.seq == y.seq) = false ∨ (x.time == y.time) = false ∨ bb = false := by
            by_cases h1 : x.id = y.id
            · by_cases h2 : x.seq = y.seq
              · by_cases h3 : x.time = y.time
                · refine .inr (.inr (.inr ?_))
                  rw [← hbb]
                  cases hb : repEq x.reply y.reply with
                  | false => rfl
                  | true =>
                    have h4 := repEq_iff.1 hb
                    exfalso; apply hxy; obtain ⟨x1, x2, x3, x4⟩ := x; obtain ⟨y1, y2, y3, y4⟩ := y; simp at h1 h2 h3 h4; subst h1; subst h2; subst h3; subst h4; rfl
                · exact .inr (.inr (.inl (by simpa using h3)))
              · exact .inr (.inl (by simpa using h2))
            · exact .inl (by simpa using h1)
          rw [hbb] at hsr
          obtain ⟨xi, xs, xt, ⟨xc, xx, xn, xl⟩⟩ := x
          obtain ⟨yi, ys, yt, ⟨yc, yx, yn, yl⟩⟩ := y
          simp only at hor
          simp only [Rep.c] at hsr
          rcases hor with h | h | h | h
          · repeat' (first | (with_reducible first | refine Cn (fun h => ?_) fun h => ?_ | refine And.intro ?_ ?_ | refine wR ?_ | exact wr _ _ | refine wa ?_ | apply awp_join | refine q hsr ?_ | refine qd hsr ?_ | refine qz hsr ?_) | (with_reducible refine CallZ.z ?_) | simp -dsimp [go_sem, hxa, hyb, Cli.row, e4, q1, h])
            all_goals first | omega | simp_all
          · repeat' (first | (with_reducible first | refine Cn (fun h => ?_) fun h => ?_ | refine And.intro ?_ ?_ | refine wR ?_ | exact wr _ _ | refine wa ?_ | apply awp_join | refine q hsr ?_ | refine qd hsr ?_ | refine qz hsr ?_) | (with_reducible refine CallZ.z ?_) | simp -dsimp [go_sem, hxa, hyb, Cli.row, e4, q1, h])
            all_goals first | omega | simp_all
          · repeat' (first | (with_reducible first | refine Cn (fun h => ?_) fun h => ?_ | refine And.intro ?_ ?_ | refine wR ?_ | exact wr _ _ | refine wa ?_ | apply awp_join | refine q hsr ?_ | refine qd hsr ?_ | refine qz hsr ?_) | (with_reducible refine CallZ.z ?_) | simp -dsimp [go_sem, hxa, hyb, Cli.row, e4, q1, h])
            all_goals first | omega | simp_all
          · subst h
            repeat' (first | (with_reducible first | refine Cn (fun h => ?_) fun h => ?_ | refine And.intro ?_ ?_ | refine wR ?_ | exact wr _ _ | refine wa ?_ | apply awp_join | refine q hsr ?_ | refine qd hsr ?_ | refine qz hsr ?_) | (with_reducible refine CallZ.z ?_) | simp -dsimp [go_sem, hxa, hyb, Cli.row, e4, q1])
            all_goals omega
      · have q1 : decide (i < l.length) = false := by simpa using hlt
        have hab : l = l' := by
          rw [List.take_of_length_le (by omega), List.take_of_length_le (by omega)] at hx
          exact hx
        have hd : decide (l = l') = true := by simpa using hab
        rw [hd]
        repeat' (first | (with_reducible first | refine Cn (fun h => ?_) fun h => ?_ | refine And.intro ?_ ?_ | refine wR ?_ | exact wr _ _ | refine wa ?_ | apply awp_join) | (with_reducible refine CallZ.z ?_) | simp -dsimp [go_sem, q1])
  · have hd : decide (Mach.mk S n l = Mach.mk S' n' l') = false := by
      simp only [decide_eq_false_iff_not]
      intro h
      cases h
      exact hk ⟨rfl, rfl, rfl⟩
    rw [hd]
    obtain ⟨bs, hbs⟩ : ∃ bs, decide (S = S') = bs := ⟨_, rfl⟩
    rw [hbs] at hst
    have hor : (n == n') = false ∨ (n = n' ∧ bs = false) ∨ (n = n' ∧ bs = true ∧ ((l.length : Int) == l'.length) = false) := by
      by_cases h1 : n = n'
      · by_cases h2 : S = S'
        · refine .inr (.inr ⟨h1, by rw [← hbs]; simpa using h2, ?_⟩)
          rw [beq_eq_false_iff_ne]; intro h3; exact hk ⟨h1, h2, by omega⟩
        · exact .inr (.inl ⟨h1, by rw [← hbs]; simpa using h2⟩)
      · exact .inl (by simpa using h1)
    clear hbs hk
    obtain ⟨Sn, Se⟩ := S
    obtain ⟨Sn', Se'⟩ := S'
    simp only [Mach.c, Sto.c] at hst ⊢
    rcases hor with h | ⟨rfl, rfl⟩ | ⟨rfl, rfl, h⟩
    · refine pcallc mixed Tryz.func27 ac_rostrumkeep_sameMachine ?_
      repeat' (first | (with_reducible first | refine Cn (fun h => ?_) fun h => ?_ | refine And.intro ?_ ?_ | refine wR ?_ | exact wr _ _ | refine wa ?_ | apply awp_join | refine q hst ?_ | refine qd hst ?_ | refine qz hst ?_) | (with_reducible refine CallZ.z ?_) | simp -dsimp [go_sem, h])
      all_goals (exfalso; simp at *; omega)
    · refine pcallc mixed Tryz.func27 ac_rostrumkeep_sameMachine ?_
      repeat' (first | (with_reducible first | refine Cn (fun h => ?_) fun h => ?_ | refine And.intro ?_ ?_ | refine wR ?_ | exact wr _ _ | refine wa ?_ | apply awp_join | refine q hst ?_ | refine qd hst ?_ | refine qz hst ?_) | (with_reducible refine CallZ.z ?_) | simp -dsimp [go_sem])
      all_goals (exfalso; simp at *; omega)
    · refine pcallc mixed Tryz.func27 ac_rostrumkeep_sameMachine ?_
      repeat' (first | (with_reducible first | refine Cn (fun h => ?_) fun h => ?_ | refine And.intro ?_ ?_ | refine wR ?_ | exact wr _ _ | refine wa ?_ | apply awp_join | refine q hst ?_ | refine qd hst ?_ | refine qz hst ?_) | (with_reducible refine CallZ.z ?_) | simp -dsimp [go_sem, h])
      all_goals (exfalso; simp at *; omega)
theorem OkM.dom {m : Mach} (h : OkM m) : m.sto.Small ∧ m.clis.length ≤ 1000000 ∧ ∀ x ∈ m.clis, x.reply.list.length ≤ 1000 := ⟨h.sto.small, by have := h.len; omega, fun x hx => by have := (checkR_iff.1 (h.all x hx).reply).len; omega⟩
end Go.Proofs.YtpdcfljbabpakaaGreatDoor
set_option linter.unusedVariables false
set_option linter.unusedSimpArgs false
set_option maxRecDepth 100000
set_option maxHeartbeats 8000000
namespace Go.Proofs.YtpdcfljbabpakaaGreatDoor
open Go Go.RowKit Go.Proofs.AE
abbrev ac_rostrumkeep_SnapBad := CC.of Tryz.f3 []
abbrev ac_rostrumkeep_RestFits := CC.of Tryz.f4 [(10, [([0, 1, 2, 3, 4, 5, 6, 7, 8, 9, 10, 11], [])])]
abbrev ac_rostrumkeep_MachineBack := CC.of Tryz.f5 []
abbrev ac_rostrumkeep_MachineTorn := CC.of Tryz.f6 []
variable {G : Nat → AV}
theorem take_min {α : Type} (l : List α) (n : Nat) : l.take (min l.length n) = l.take n := by
  by_cases h : l.length ≤ n
  · rw [Nat.min_eq_left h, List.take_length, List.take_of_length_le h]
  · rw [Nat.min_eq_right (by omega)]
theorem rows_deeds (l : List Deed) : UL 8 (l.map Deed.row) := by
  intro r hr
  obtain ⟨y, _, rfl⟩ := List.mem_map.1 hr
  rfl
def snapM (l : List Deed) : Mach := machV (l.take 8)
theorem snapM_ok {l : List Deed} (hd : ∀ d ∈ l, d.Ok) : OkM (snapM l) := (machV_inv _ fun d h => hd d (List.mem_of_mem_take h)).1.ok
theorem snap_c (hG : Noth G) (l : List Deed) (i t : Int) (hd : ∀ d ∈ l, d.Ok) (hn : (l.length : Int) ≤ 9223372036854775807) (hi : i64 i) (ht : i64 t) :
    PCall Tryz.prog G 15 [.one (.v (.sl (l.map Deed.row))), iV i, iV t] (.agg ([iC (1 + pk i 40), iC (1 + pk t 5)] ++ (snapM l).c)) := by
  obtain ⟨M, hM⟩ : ∃ M : Nat, (if (8 : Int) < (l.length : Int) then (8 : Int) else (l.length : Int)) = M := by
    split
    · exact ⟨8, rfl⟩
    · exact ⟨l.length, rfl⟩
  have hM2 : M = min l.length 8 := by split at hM <;> omega
  have hmk := machineK_c hG (l.take M) (fun d h => hd d (List.mem_of_mem_take h)) (by rw [List.length_take]; omega)
  rw [hM2, take_min] at hmk
  change PCall _ _ _ _ (.agg (snapM l).c) at hmk
  have hM3 : (l.take 8).map Deed.row = (l.map Deed.row).take M := by rw [hM2, ← List.map_take, take_min]
  rw [hM3] at hmk
  have p1 := pk_range (n := i) (m := 40) (by omega)
  have p2 := pk_range (n := t) (m := 5) (by omega)
  have k1 := picked_c (G := G) i 40 hi (by omega)
  have k2 := picked_c (G := G) t 5 ht (by omega)
  have w1 : IntKind.i64.wrap (1 + pk i 40) = 1 + pk i 40 := IntWalk.i64_in _ (by omega)
  have w2 : IntKind.i64.wrap (1 + pk t 5) = 1 + pk t 5 := IntWalk.i64_in _ (by omega)
  have hul := rows_deeds l
  have hll : (l.map Deed.row).length = l.length := by simp
  generalize snapM l = m at *
  obtain ⟨⟨now, es⟩, next, cs⟩ := m
  simp only [Mach.c, List.cons_append, List.nil_append] at *
  refine pcallc mixed Tryz.func15 ac_rostrumkeep_snap ?_
  repeat' (first | (with_reducible first | refine Cn (fun h => ?_) fun h => ?_ | refine And.intro ?_ ?_ | refine wR ?_ | exact wr _ _ | refine wa ?_ | apply awp_join | refine q k1 ?_ | refine qd k1 ?_ | refine qz k1 ?_ | refine q k2 ?_ | refine qd k2 ?_ | refine qz k2 ?_ | refine q hmk ?_ | refine qd hmk ?_ | refine qz hmk ?_) | (with_reducible refine CallZ.z ?_) | simp -dsimp [go_sem, w1, w2, hM, hul, hll])
  all_goals first | omega | trace_state
theorem pk340 : pk 3 40 = 3 := by decide
theorem pk35 : pk 3 5 = 3 := by decide
theorem snapBad_c (hG : Noth G) (l : List Deed) (w : Int) (hd : ∀ d ∈ l, d.Ok) (hn : (l.length : Int) ≤ 9223372036854775807) (hw : i64 w) : PCall Tryz.prog G 3 [.one (.v (.sl (l.map Deed.row))), iV w] (bV true) := by
  have hsn := snap_c hG l 3 3 hd hn (by unfold i64; omega) (by unfold i64; omega)
  rw [pk340, pk35] at hsn
  have hok := snapM_ok hd
  have hm0 := checkM_iff.2 hok
  have hdm := hok.dom
  obtain ⟨d1, d2, _⟩ := hdm
  have e0 : checkSnap (1 + 3) (1 + 3) (snapM l) = 0 := by unfold checkSnap; rw [if_neg (by decide), hm0]
  have e1 : checkSnap 0 (1 + 3) (snapM l) = 2 := by unfold checkSnap; rw [if_pos (by decide)]
  have e2 : checkSnap (1 + 3) 1048577 (snapM l) = 2 := by unfold checkSnap; rw [if_pos (by decide)]
  have e3 : checkSnap (1 + 3) (1 + 3) { snapM l with next := 0 } = 13 := by
    unfold checkSnap; rw [if_neg (by decide)]; unfold checkM; rw [if_pos (.inr (.inl (by show (0 : Int) < 1; omega)))]
  have c0 := checkSnap_c (G := G) (1 + 3) (1 + 3) (snapM l) d1 d2
  have c1 := checkSnap_c (G := G) 0 (1 + 3) (snapM l) d1 d2
  have c2 := checkSnap_c (G := G) (1 + 3) 1048577 (snapM l) d1 d2
  have c3 := checkSnap_c (G := G) (1 + 3) (1 + 3) { snapM l with next := 0 } d1 d2
  have r1 := checkRc_c (G := G) (loadRc 0 (1 + 3) (snapM l)) d1 d2
  have r2 := checkRc_c (G := G) (loadRc (1 + 3) 1048577 (snapM l)) d1 d2
  have r3 := checkRc_c (G := G) (loadRc (1 + 3) (1 + 3) { snapM l with next := 0 }) d1 d2
  have er : ∀ i t m, checkRc (loadRc i t m) = checkSnap i t m := fun i t m => rfl
  rw [er, e1] at r1
  rw [er, e2] at r2
  rw [er, e3] at r3
  rw [e0] at c0
  rw [e1] at c1
  rw [e2] at c2
  rw [e3] at c3
  have hp := pk_range (n := w) (m := 3) (by omega)
  have k1 := picked_c (G := G) w 3 hw (by omega)
  clear e0 e1 e2 e3 er hok hm0 d1 d2
  generalize snapM l = m at *
  obtain ⟨⟨now, es⟩, next, cs⟩ := m
  simp only [loadRc, Rcd.c, zeroItem, Mach.c, List.cons_append, List.nil_append] at *
  have s4 : (1 : Int) + 3 = 4 := rfl
  rw [s4] at *
  have hk : pk w 3 = 0 ∨ pk w 3 = 1 ∨ pk w 3 = 2 := by omega
  rcases hk with hk | hk | hk
  all_goals
    rw [hk] at k1
    refine pcallc mixed Tryz.func3 ac_rostrumkeep_SnapBad ?_
    repeat' (first | (with_reducible first | refine Cn (fun h => ?_) fun h => ?_ | refine And.intro ?_ ?_ | refine wR ?_ | exact wr _ _ | refine wa ?_ | apply awp_join | refine q hsn ?_ | refine qd hsn ?_ | refine qz hsn ?_ | refine q k1 ?_ | refine qd k1 ?_ | refine qz k1 ?_ | refine q c0 ?_ | refine qd c0 ?_ | refine qz c0 ?_ | refine q c1 ?_ | refine qd c1 ?_ | refine qz c1 ?_ | refine q c2 ?_ | refine qd c2 ?_ | refine qz c2 ?_ | refine q c3 ?_ | refine qd c3 ?_ | refine qz c3 ?_ | refine q r1 ?_ | refine qd r1 ?_ | refine qz r1 ?_ | refine q r2 ?_ | refine qd r2 ?_ | refine qz r2 ?_ | refine q r3 ?_ | refine qd r3 ?_ | refine qz r3 ?_) | (with_reducible refine CallZ.z ?_) | simp -dsimp [go_sem])
  all_goals trace_state
theorem machineBack_c (hG : Noth G) (l : List Deed) (t : Int) (hd : ∀ d ∈ l, d.Ok) (hn : (l.length : Int) ≤ 9223372036854775807) (ht : 0 ≤ t ∧ t < 256) : PCall Tryz.prog G 5 [.one (.v (.sl (l.map Deed.row))), .one (.v (.lit (.int .u8 t)))] (bV true) := by
  have hmk := machineK_c hG l hd hn
  have hok := (machV_inv l hd).1.ok
  have hen := encode_c (G := G) (machV l) hok
  have hlen := machB_len hok
  have hpos := machB_pos (machV l)
  have d1 := decode_c (G := G) (machB (machV l))
  rw [decM_back hok (by omega)] at d1
  have d2 := decode_c (G := G) (machB (machV l) ++ [UInt8.ofNat t.toNat])
  rw [decM_more hok _ (by omega)] at d2
  have hb8 : bR [UInt8.ofNat t.toNat] = [[.lit (.int .u8 t)]] := by
    simp only [bR, List.map_cons, List.map_nil, UInt8.toNat_ofNat']
    rw [show ((t.toNat % 2 ^ 8 : Nat) : Int) = t by omega]
  rw [bR_app, hb8] at d2
  obtain ⟨f1, f2, f3⟩ := hok.dom
  have hsm := sameMachine_c (G := G) (machV l) (machV l) f1 f3 f2
  have hde : decide (machV l = machV l) = true := by simp
  rw [hde] at hsm
  have hul := bR_ul (machB (machV l))
  have hbl := bR_len (machB (machV l))
  clear f1 f2 f3 hok
  generalize machB (machV l) = b at *
  generalize machV l = m at *
  obtain ⟨⟨now, es⟩, next, cs⟩ := m
  simp only [zeroM, zeroS, Mach.c, List.map_nil] at *
  have q1 : decide (0 < b.length) = true := decide_eq_true hpos
  generalize bR b = rows at *
  refine pcallc mixed Tryz.func5 ac_rostrumkeep_MachineBack ?_
  repeat' (first | (with_reducible first | refine Cn (fun h => ?_) fun h => ?_ | refine And.intro ?_ ?_ | refine wR ?_ | exact wr _ _ | refine wa ?_ | apply awp_join | refine q hmk ?_ | refine qd hmk ?_ | refine qz hmk ?_ | refine q hen ?_ | refine qd hen ?_ | refine qz hen ?_ | refine q d1 ?_ | refine qd d1 ?_ | refine qz d1 ?_ | refine q d2 ?_ | refine qd d2 ?_ | refine qz d2 ?_ | refine q hsm ?_ | refine qd hsm ?_ | refine qz hsm ?_) | (with_reducible refine CallZ.z ?_) | simp -dsimp [go_sem, hul, hbl, q1])
  all_goals first | omega | (simp [UL]; done) | trace_state
theorem machineTorn_c (hG : Noth G) (l : List Deed) (a : Int) (hd : ∀ d ∈ l, d.Ok) (hn : (l.length : Int) ≤ 9223372036854775807) (ha : i64 a) : PCall Tryz.prog G 6 [.one (.v (.sl (l.map Deed.row))), iV a] (bV true) := by
  have hmk := machineK_c hG l hd hn
  have hok := (machV_inv l hd).1.ok
  have hen := encode_c (G := G) (machV l) hok
  have hlen := machB_len hok
  have hpos := machB_pos (machV l)
  have hp := pk_range (n := a) (m := ((machB (machV l)).length : Int)) (by omega)
  have k1 := picked_c (G := G) a ((machB (machV l)).length : Int) ha (by omega)
  obtain ⟨k, hk⟩ : ∃ k : Nat, pk a ((machB (machV l)).length : Int) = k := ⟨(pk a ((machB (machV l)).length : Int)).toNat, by omega⟩
  rw [hk] at k1 hp
  have d1 := decode_c (G := G) ((machB (machV l)).take k)
  rw [decM_torn hok (by omega) (by omega), ← bR_take] at d1
  have hul := bR_ul (machB (machV l))
  have hbl := bR_len (machB (machV l))
  clear hok
  generalize machB (machV l) = b at *
  generalize machV l = m at *
  obtain ⟨⟨now, es⟩, next, cs⟩ := m
  simp only [zeroM, zeroS, Mach.c, List.map_nil] at *
  have q1 : decide ((b.length : Int) < 1) = false := decide_eq_false (by omega)
  have q2 : (if (b.length : Int) < 1 then (1 : Int) else (b.length : Int)) = (b.length : Int) := if_neg (by omega)
  generalize bR b = rows at *
  refine pcallc mixed Tryz.func6 ac_rostrumkeep_MachineTorn ?_
  repeat' (first | (with_reducible first | refine Cn (fun h => ?_) fun h => ?_ | refine And.intro ?_ ?_ | refine wR ?_ | exact wr _ _ | refine wa ?_ | apply awp_join | refine q hmk ?_ | refine qd hmk ?_ | refine qz hmk ?_ | refine q hen ?_ | refine qd hen ?_ | refine qz hen ?_ | refine q k1 ?_ | refine qd k1 ?_ | refine qz k1 ?_ | refine q d1 ?_ | refine qd d1 ?_ | refine qz d1 ?_) | (with_reducible refine CallZ.z ?_) | simp -dsimp [go_sem, hul, hbl, q1, q2])
  all_goals first | omega | trace_state
theorem restX_c (g : Lg) (i t : Int) (m : Mach) (hg : g.check = 0) (hs : checkSnap i t m = 0) (h1 : m.sto.Small) (h2 : m.clis.length ≤ 1000000) : PCall Tryz.prog G 20 [.agg g.c, .agg ([iC i, iC t] ++ m.c)] (.tup [.agg (restD g i t).c, iV 0]) := by
  have hi : 1 ≤ i ∧ i ≤ 1048576 := by
    unfold checkSnap at hs
    split at hs
    · cases hs
    · rename_i h; simp only [not_or, Bool.not_eq_false] at h; have := h.1; unfold okNumber at this; simp at this; omega
  have hl := (checkLog_iff.1 hg).1
  have c1 := checkLog_c (G := G) g.base g.bt g.items (by omega)
  rw [show checkLog g.base g.bt g.items = 0 from hg] at c1
  have c2 := checkSnap_c (G := G) i t m h1 h2
  rw [hs] at c2
  have c3 := rest_c (G := G) g i t m hg hi
  clear hg hs
  generalize restD g i t = q at *
  obtain ⟨qb, qt, qi⟩ := q
  obtain ⟨gb, gt, gi⟩ := g
  obtain ⟨⟨now, es⟩, next, cs⟩ := m
  simp only [Lg.c, logC, Mach.c, List.cons_append, List.nil_append] at *
  refine pcallc mixed Tryz.func20 ac_tape_Rest ?_
  repeat' (first | (with_reducible first | refine Cn (fun h => ?_) fun h => ?_ | refine And.intro ?_ ?_ | refine wR ?_ | exact wr _ _ | refine wa ?_ | apply awp_join | refine q c1 ?_ | refine qd c1 ?_ | refine qz c1 ?_ | refine q c2 ?_ | refine qd c2 ?_ | refine qz c2 ?_ | refine q c3 ?_ | refine qd c3 ?_ | refine qz c3 ?_) | (with_reducible refine CallZ.z ?_) | simp -dsimp [go_sem])
  all_goals trace_state
theorem restBad_c (g : Lg) (hg : g.check = 0) : PCall Tryz.prog G 20 [.agg g.c, .agg [iC 0, iC 0, iC 0, .v (.sl []), iC 0, .v (.sl [])]] (.tup [.agg zeroLg.c, iV 2]) := by
  have hl := (checkLog_iff.1 hg).1
  have c1 := checkLog_c (G := G) g.base g.bt g.items (by omega)
  rw [show checkLog g.base g.bt g.items = 0 from hg] at c1
  have c2 := checkSnap_c (G := G) 0 0 zeroM zeroM_small.1 zeroM_small.2
  have e : checkSnap 0 0 zeroM = 2 := by decide
  rw [e] at c2
  clear hg
  obtain ⟨gb, gt, gi⟩ := g
  simp only [zeroLg, zeroM, zeroS, Lg.c, logC, Mach.c, List.cons_append, List.nil_append, List.map_nil] at *
  refine pcallc mixed Tryz.func20 ac_tape_Rest ?_
  repeat' (first | (with_reducible first | refine Cn (fun h => ?_) fun h => ?_ | refine And.intro ?_ ?_ | refine wR ?_ | exact wr _ _ | refine wa ?_ | apply awp_join | refine q c1 ?_ | refine qd c1 ?_ | refine qz c1 ?_ | refine q c2 ?_ | refine qd c2 ?_ | refine qz c2 ?_) | (with_reducible refine CallZ.z ?_) | simp -dsimp [go_sem])
  all_goals trace_state
theorem restFits_c (hG : Noth G) (l : List Deed) (b a t : Int) (ds : List Deed) (hl : (l.length : Int) ≤ 9223372036854775807) (hd : ∀ d ∈ l, d.Ok) (hb : i64 b) (ha : i64 a) (ht : i64 t) (hl2 : (ds.length : Int) ≤ 9223372036854775807) (hd2 : ∀ d ∈ ds, d.Ok) :
    PCall Tryz.prog G 4 [.one (.v (.sl (l.map Deed.row))), iV b, iV a, iV t, .one (.v (.sl (ds.map Deed.row)))] (bV true) := by
  have hlog := log_c (G := G) l b hl hd hb
  have hmo := made_ok l b hd
  have hsn := snap_c hG ds a t hd2 hl2 ha ht
  have hok := snapM_ok hd2
  obtain ⟨d1, d2, _⟩ := hok.dom
  have p1 := pk_range (n := a) (m := 40) (by omega)
  have p2 := pk_range (n := t) (m := 5) (by omega)
  have hcs : checkSnap (1 + pk a 40) (1 + pk t 5) (snapM ds) = 0 := by
    unfold checkSnap
    rw [if_neg ?_, checkM_iff.2 hok]
    simp only [not_or, Bool.not_eq_false]
    constructor <;> (unfold okNumber; simp; omega)
  change PCall _ _ _ _ (.agg (logC (pk b 12) (logBT b) (logItems l b))) at hlog
  generalize pk b 12 = B at *
  generalize logBT b = T at *
  generalize logItems l b = X at *
  obtain ⟨I, hIe⟩ : ∃ I, 1 + pk a 40 = I := ⟨_, rfl⟩
  obtain ⟨U, hUe⟩ : ∃ U, 1 + pk t 5 = U := ⟨_, rfl⟩
  rw [hIe, hUe] at hsn hcs
  have hI : 1 ≤ I ∧ I ≤ 1048576 := by omega
  have hU : 1 ≤ U ∧ U ≤ 1048576 := by omega
  clear p1 p2 hIe hUe
  have c1 := restX_c (G := G) ⟨B, T, X⟩ I U (snapM ds) hmo hcs d1 d2
  have c2 := restBad_c (G := G) ⟨B, T, X⟩ hmo
  have c3 := termGood_c (G := G) B T X I hmo ⟨by omega, hI.2⟩
  have hro := restD_ok (g := ⟨B, T, X⟩) hmo hI hU
  clear hcs hok d1 d2
  generalize snapM ds = m at *
  obtain ⟨⟨now, es⟩, next, cs⟩ := m
  have hXl := (checkLog_iff.1 hmo).1.2.2.2.2.1
  have hxl : (X.map Item.row).length = X.length := by simp
  have hxu := ul_rows X
  by_cases hc : termErr B X.length I = 0 ∧ termAt B T X I = U
  · have hr : restD ⟨B, T, X⟩ I U = ⟨I, U, X.drop (I - B).toNat⟩ := by unfold restD; rw [if_pos hc]
    have hrg := termErr_range hc.1
    rw [hr] at c1 hro
    unfold Lg.check at hro
    simp only at hro
    have c4 := checkLog_c (G := G) I U (X.drop (I - B).toNat) (by simp; omega)
    rw [hro] at c4
    have c5 := sameItems_c (G := G) (X.drop (I - B).toNat) (X.drop (I - B).toNat) (by simp; omega)
    have hde : decide (X.drop (I - B).toNat = X.drop (I - B).toNat) = true := by simp
    rw [hde] at c5
    rw [hc.1, hc.2] at c3
    have w1 : IntKind.i64.wrap (I - B) = I - B := IntWalk.i64_in _ (by omega)
    have ht1 : ((X.map Item.row).drop (I - B).toNat).take (X.length - (I - B).toNat) = (X.map Item.row).drop (I - B).toNat := List.take_of_length_le (by simp)
    have ht2 : (X.map Item.row).take X.length = X.map Item.row := List.take_of_length_le (by simp)
    simp only [Lg.c, logC, rowsV, zeroLg, Mach.c, List.map_nil, List.map_drop, List.cons_append, List.nil_append] at *
    refine pcallc mixed Tryz.func4 ac_rostrumkeep_RestFits ?_
    repeat' (first | (with_reducible first | refine Cn (fun h => ?_) fun h => ?_ | refine And.intro ?_ ?_ | refine wR ?_ | exact wr _ _ | refine wa ?_ | apply awp_join | refine q hlog ?_ | refine qd hlog ?_ | refine qz hlog ?_ | refine q hsn ?_ | refine qd hsn ?_ | refine qz hsn ?_ | refine q c1 ?_ | refine qd c1 ?_ | refine qz c1 ?_ | refine q c2 ?_ | refine qd c2 ?_ | refine qz c2 ?_ | refine q c3 ?_ | refine qd c3 ?_ | refine qz c3 ?_ | refine q c4 ?_ | refine qd c4 ?_ | refine qz c4 ?_ | refine q c5 ?_ | refine qd c5 ?_ | refine qz c5 ?_) | (with_reducible refine CallZ.z ?_) | simp -dsimp [go_sem, w1, hxl, hxu, ht1, ht2])
    all_goals first | omega | trace_state
  · have hr : restD ⟨B, T, X⟩ I U = ⟨I, U, []⟩ := by unfold restD; rw [if_neg hc]
    rw [hr] at c1 hro
    unfold Lg.check at hro
    simp only at hro
    have c4 := checkLog_c (G := G) I U [] (by simp)
    rw [hro] at c4
    generalize termErr B X.length I = E at *
    generalize termAt B T X I = W at *
    simp only [Lg.c, logC, rowsV, zeroLg, Mach.c, List.map_nil, List.cons_append, List.nil_append] at *
    by_cases h0 : E = 0
    · have h1 : ¬ W = U := fun h => hc ⟨h0, h⟩
      have q1 : (W != U) = true := by simpa using h1
      subst h0
      refine pcallc mixed Tryz.func4 ac_rostrumkeep_RestFits ?_
      repeat' (first | (with_reducible first | refine Cn (fun h => ?_) fun h => ?_ | refine And.intro ?_ ?_ | refine wR ?_ | exact wr _ _ | refine wa ?_ | apply awp_join | refine q hlog ?_ | refine qd hlog ?_ | refine qz hlog ?_ | refine q hsn ?_ | refine qd hsn ?_ | refine qz hsn ?_ | refine q c1 ?_ | refine qd c1 ?_ | refine qz c1 ?_ | refine q c2 ?_ | refine qd c2 ?_ | refine qz c2 ?_ | refine q c3 ?_ | refine qd c3 ?_ | refine qz c3 ?_ | refine q c4 ?_ | refine qd c4 ?_ | refine qz c4 ?_) | (with_reducible refine CallZ.z ?_) | simp -dsimp [go_sem, q1])
      all_goals trace_state
    · have q0 : (E != 0) = true := by simpa using h0
      refine pcallc mixed Tryz.func4 ac_rostrumkeep_RestFits ?_
      repeat' (first | (with_reducible first | refine Cn (fun h => ?_) fun h => ?_ | refine And.intro ?_ ?_ | refine wR ?_ | exact wr _ _ | refine wa ?_ | apply awp_join | refine q hlog ?_ | refine qd hlog ?_ | refine qz hlog ?_ | refine q hsn ?_ | refine qd hsn ?_ | refine qz hsn ?_ | refine q c1 ?_ | refine qd c1 ?_ | refine qz c1 ?_ | refine q c2 ?_ | refine qd c2 ?_ | refine qz c2 ?_ | refine q c3 ?_ | refine qd c3 ?_ | refine qz c3 ?_ | refine q c4 ?_ | refine qd c4 ?_ | refine qz c4 ?_) | (with_reducible refine CallZ.z ?_) | simp -dsimp [go_sem, q0])
      all_goals trace_state
end Go.Proofs.YtpdcfljbabpakaaGreatDoor
set_option linter.unusedVariables false
set_option linter.unusedSimpArgs false
set_option maxRecDepth 100000
set_option maxHeartbeats 8000000
namespace Go.Proofs.YtpdcfljbabpakaaGreatDoor
open Go Go.ChangeShapes Go.WideShapes Go.ChangeAt Go.RowKit Go.Proofs.AE
abbrev laidV {H : Type} : List (String × DataW H) := [("rostrum/client.nothing", Rows.laid_rostrum_client_nothing)]
theorem gNoth : Tryz.prog.globalNamed "rostrum/client.nothing" = some 0 := by kernel_rfl
theorem tNoth : (Tryz.prog.globals[0]?).map (·.type) = some 37 := by kernel_rfl
theorem door_met (os : Os) (args : Array Value) : laidMetH Tryz.prog laidV ((World.doorLaid Tryz.prog 14 os).forCall (fun _ _ => 0) ⟨#[], args, []⟩).memory :=
  laidMetH_of_parts3 (fuel := 8) (laidMet_of_run' 8 (by kernel_rfl) (by kernel_rfl)) (by kernel_rfl) (by kernel_rfl)
def gN : Nat → AV := fun g => if g = 0 then .one (.vptr [.lit (.int .i64 22), .lit (.string ⟨#[]⟩), .lit (.string ⟨#[]⟩), .lit (.string ⟨#[]⟩), .lit (.int .i64 0)]) else .any
theorem gN_noth : Noth gN := rfl
theorem noth_cells {W : World} (h : laidMetH Tryz.prog laidV W) : W.cell? ⟨0, 0, none⟩ = some (.int .i64 22) ∧ W.cell? ⟨0, 1, none⟩ = some (.string ⟨#[]⟩) ∧ W.cell? ⟨0, 2, none⟩ = some (.string ⟨#[]⟩) ∧ W.cell? ⟨0, 3, none⟩ = some (.string ⟨#[]⟩) ∧ W.cell? ⟨0, 4, none⟩ = some (.int .i64 0) := by
  rw [MakeChecks.laidMetH_plain _ _ _ (by kernel_rfl)] at h
  obtain ⟨ps, ⟨g0, t0, cs0, f0, p0, q0, hg0, ht0, hv0, hd0, _, _⟩, _⟩ := h
  obtain rfl := Option.some.inj (gNoth.symm.trans hg0)
  obtain rfl := Option.some.inj (tNoth.symm.trans ht0)
  have hc := fun j => World.var?_cell hg0 hv0 j
  obtain ⟨xs, m, h1, h2, h3, h4, h5⟩ := DataW.trod_struct Tryz.underlying37 hd0
  have c3 : Tryz.prog.cellsOf 3 = 1 := by kernel_rfl
  have c9 : Tryz.prog.cellsOf 9 = 1 := by kernel_rfl
  have c41 : Tryz.prog.cellsOf 37 = 5 := by kernel_rfl
  rw [c41] at h3
  simp only [Prod.mk.injEq] at h2
  have h2 := h2.1
  unfold Rows.laid_rostrum_client_nothing at h2
  obtain ⟨l⟩ := cs0
  simp only at h3 h5
  have h4 : xs.length = 5 := h4
  clear hd0
  match l, h3, xs, h4 with
  | [y0, y1, y2, y3, y4], _, [x0, x1, x2, x3, x4], _ =>
    simp only [DataW.agg.injEq, List.map_cons, List.map_nil, List.cons.injEq, and_true] at h2
    obtain ⟨e0, e1, e2, e3, e4⟩ := h2
    have a0 : DataW.trod (fun _ => ()) Tryz.prog W 0 (fun _ => true) false m 3 [y0] = some x0 := by
      have h := h5 0 _ rfl
      change DataW.trod _ _ _ _ _ _ _ 3 (List.take (Tryz.prog.cellsOf 3) (y0 :: _)) = _ at h
      rw [c3] at h
      exact h
    have a1 : DataW.trod (fun _ => ()) Tryz.prog W 0 (fun _ => true) false m 9 [y1] = some x1 := by
      have h := h5 1 _ rfl
      change DataW.trod _ _ _ _ _ _ _ 9 (List.take (Tryz.prog.cellsOf 9) (y1 :: _)) = _ at h
      rw [c9] at h
      exact h
    have a2 : DataW.trod (fun _ => ()) Tryz.prog W 0 (fun _ => true) false m 9 [y2] = some x2 := by
      have h := h5 2 _ rfl
      change DataW.trod _ _ _ _ _ _ _ 9 (List.take (Tryz.prog.cellsOf 9) (y2 :: _)) = _ at h
      rw [c9] at h
      exact h
    have a3 : DataW.trod (fun _ => ()) Tryz.prog W 0 (fun _ => true) false m 9 [y3] = some x3 := by
      have h := h5 3 _ rfl
      change DataW.trod _ _ _ _ _ _ _ 9 (List.take (Tryz.prog.cellsOf 9) (y3 :: _)) = _ at h
      rw [c9] at h
      exact h
    have a4 : DataW.trod (fun _ => ()) Tryz.prog W 0 (fun _ => true) false m 3 [y4] = some x4 := by
      have h := h5 4 _ rfl
      change DataW.trod _ _ _ _ _ _ _ 3 (List.take (Tryz.prog.cellsOf 3) (y4 :: _)) = _ at h
      rw [c3] at h
      exact h
    obtain ⟨n0, b0, r0, _⟩ := DataW.trod_int Tryz.underlying3 (x := x0) a0
    obtain ⟨s1, b1, r1, _⟩ := DataW.trod_string Tryz.underlying9 (x := x1) a1
    obtain ⟨s2, b2, r2, _⟩ := DataW.trod_string Tryz.underlying9 (x := x2) a2
    obtain ⟨s3, b3, r3, _⟩ := DataW.trod_string Tryz.underlying9 (x := x3) a3
    obtain ⟨n4, b4, r4, _⟩ := DataW.trod_int Tryz.underlying3 (x := x4) a4
    have emp : ∀ s : ByteArray, s.data.toList = [] → s = ⟨#[]⟩ := fun s h => ba_ext h
    subst r0; subst r1; subst r2; subst r3; subst r4
    simp only [DataW.lit.injEq, Lit.int.injEq, Lit.string.injEq] at e0 e1 e2 e3 e4
    have e1 := emp s1 e1.symm
    have e2 := emp s2 e2.symm
    have e3 := emp s3 e3.symm
    have k0 : (22 : Int) = n0 := by simpa using e0
    have k4 : (0 : Int) = n4 := by simpa using e4
    simp at b0 b1 b2 b3 b4
    subst b0; subst b1; subst b2; subst b3; subst b4; subst e1; subst e2; subst e3; subst k0; subst k4
    refine ⟨?_, ?_, ?_, ?_, ?_⟩ <;> (rw [hc]; rfl)
theorem gN_rel {W : World} (h : laidMetH Tryz.prog laidV W) (hb : 0 < W.heap.size) : GRel W (fun b => b < W.heap.size) gN := by
  intro g ν
  obtain ⟨h0, h1, h2, h3, h4⟩ := noth_cells h
  unfold gN
  by_cases hg : g = 0
  · subst hg
    rw [if_pos rfl]
    refine .one (.vptr 0 0 (fun j => if j = 0 then .int .i64 22 else if j = 4 then .int .i64 0 else .string ⟨#[]⟩) hb ?_ ?_)
    · intro j v hj
      match j, hj with
      | 0, _ => exact h0
      | 1, _ => exact h1
      | 2, _ => exact h2
      | 3, _ => exact h3
      | 4, _ => exact h4
    · intro j v hj
      match j, hj with
      | 0, hj => cases hj; exact .lit _ rfl
      | 1, hj => cases hj; exact .lit _ rfl
      | 2, hj => cases hj; exact .lit _ rfl
      | 3, hj => cases hj; exact .lit _ rfl
      | 4, hj => cases hj; exact .lit _ rfl
  · rw [if_neg hg]
    exact .any
theorem heap_pos {W : World} (h : laidMetH Tryz.prog laidV W) : 0 < W.heap.size := by
  have h0 := (noth_cells h).1
  unfold World.cell? at h0
  split at h0
  · rename_i hx
    exact (Array.getElem?_eq_some_iff.1 hx).1
  · cases h0
end Go.Proofs.YtpdcfljbabpakaaGreatDoor
set_option linter.unusedVariables false
set_option linter.unusedSimpArgs false
set_option maxRecDepth 100000
set_option maxHeartbeats 8000000
namespace Go.Proofs.YtpdcfljbabpakaaGreatDoor
open Go Go.RowKit Go.Proofs.AE
theorem wf_u8 {n : Int} (h : (Lit.int .u8 n).wf = true) : 0 ≤ n ∧ n < 256 := by
  rw [Lit.wf] at h
  simp only [Bool.and_eq_true, decide_eq_true_eq] at h
  simp [IntKind.min, IntKind.max, IntKind.bits, IntKind.signed] at h
  omega
end Go.Proofs.YtpdcfljbabpakaaGreatDoor
set_option linter.unusedVariables false
set_option linter.unusedSimpArgs false
set_option maxRecDepth 100000
set_option maxHeartbeats 8000000
namespace Go.Proofs.YtpdcfljbabpakaaGreatDoor
open Go Go.RowKit Go.Proofs.AE
abbrev ac_rostrumkeep_FoldLoad := CC.of Tryz.f9 [(8, [([0, 1, 2, 3, 4, 5, 6, 7, 8, 9, 10, 11, 12, 13, 14, 15], [(4, 12), (4, 14), (6, 12), (6, 14), (9, 14), (10, 14)]), ([0, 1, 2, 3, 4, 5, 6, 7, 8, 9, 10, 11, 14, 12, 13, 15], [(4, 12), (4, 13), (6, 12), (6, 13), (9, 12), (10, 12)])]), (21, [([0, 1, 2, 3, 4, 5, 6, 7], [])])]
variable {G : Nat → AV}
theorem itemsGo_bnd : ∀ (l : List Deed) (term time : Int) (b : Int), term + l.length ≤ b → ∀ y ∈ itemsGo l term time, y.term ≤ b
  | [], _, _, _, _, y, hy => by cases hy
  | d :: l, term, time, b, hb, y, hy => by
    obtain ⟨s1, s2, s3, s4⟩ := step_range d
    simp only [List.length_cons] at hb
    simp only [itemsGo] at hy
    rcases List.mem_cons.1 hy with rfl | hy
    · rw [(itemOf_head d _ _).1]; push_cast at hb; omega
    · exact itemsGo_bnd l _ _ b (by push_cast at hb; omega) y hy
theorem items_bnd (l : List Deed) : ∀ y ∈ itemsOf l 1, y.term ≤ 31 := by
  intro y hy
  unfold itemsOf at hy
  exact itemsGo_bnd _ 1 0 31 (by rw [List.length_take]; omega) y hy
theorem fold_load {x : List Item} (h : checkLog 0 0 x = 0) {k t : Int} (hk : 1 ≤ k ∧ k ≤ 1048576) (ht : 1 ≤ t ∧ t ≤ 1048576) {m : Mach} (hm : OkM m) :
    foldD (linesR x ++ [loadRc k t m]) = ({ newD with sidx := k, sterm := t, mach := m, log := restD ⟨0, 0, x⟩ k t }, 0) ∧
    (1 < k → foldD (linesR x ++ [loadRc k t m] ++ [loadRc (k - 1) t m]) = ({ newD with sidx := k, sterm := t, mach := m, log := restD ⟨0, 0, x⟩ k t }, 0)) := by
  have e1 : foldGo newD (linesR x ++ [loadRc k t m]) = ({ newD with sidx := k, sterm := t, mach := m, log := restD ⟨0, 0, x⟩ k t }, 0) := by
    rw [foldGo_app _ _ _ (by rw [fold_lines x h]), fold_lines x h, foldGo_one, load_step hk ht hm]
    simp only
    rw [if_pos (show newD.sidx < k by show (0 : Int) < k; omega)]
  refine ⟨e1, fun h1 => ?_⟩
  show foldGo newD _ = _
  rw [foldGo_app _ _ _ (by rw [e1]), e1, foldGo_one, load_step (i := k - 1) (by omega) ht hm]
  simp only
  rw [if_neg (by omega)]
theorem loadRow (i t : Int) (m : Mach) : (loadRc i t m).row = [iL 3, iL 0, iL 0, iL 0, iL 0, iL 0, .lit (.bool false), iL 0, iL 0, iL 0, sL ⟨#[]⟩, sL ⟨#[]⟩, sL ⟨#[]⟩, iL 0, iL i, iL t, iL m.sto.now, .sl (eR m.sto.ents), iL m.next, .sl (clR m.clis)] := rfl
theorem foldLoad_c (hG : Noth G) (l : List Deed) (a : Int) (o : Bool) (ds : List Deed) (hl : (l.length : Int) ≤ 9223372036854775807) (hd : ∀ d ∈ l, d.Ok) (ha : i64 a) (hl2 : (ds.length : Int) ≤ 9223372036854775807) (hd2 : ∀ d ∈ ds, d.Ok) :
    PCall Tryz.prog G 9 [.one (.v (.sl (l.map Deed.row))), iV a, bV o, .one (.v (.sl (ds.map Deed.row)))] (bV true) := by
  obtain ⟨M, hM⟩ : ∃ M : Nat, (if (29 : Int) < (l.length : Int) then (29 : Int) else (l.length : Int)) = M := by
    split
    · exact ⟨29, rfl⟩
    · exact ⟨l.length, rfl⟩
  have hM2 : M ≤ 29 ∧ M ≤ l.length := by split at hM <;> omega
  obtain ⟨M8, hM8⟩ : ∃ M : Nat, (if (8 : Int) < (ds.length : Int) then (8 : Int) else (ds.length : Int)) = M := by
    split
    · exact ⟨8, rfl⟩
    · exact ⟨ds.length, rfl⟩
  have hM82 : M8 = min ds.length 8 := by split at hM8 <;> omega
  have hmk := machineK_c hG (ds.take M8) (fun d h => hd2 d (List.mem_of_mem_take h)) (by rw [List.length_take]; omega)
  rw [hM82, take_min] at hmk
  change PCall _ _ _ _ (.agg (snapM ds).c) at hmk
  have hM83 : (ds.take 8).map Deed.row = (ds.map Deed.row).take M8 := by rw [hM82, ← List.map_take, take_min]
  rw [hM83] at hmk
  have hmok := snapM_ok hd2
  have hulds := rows_deeds ds
  have hllds : (ds.map Deed.row).length = ds.length := by simp
  obtain ⟨l', hl'⟩ : ∃ l', l.take M ++ [dz] = l' := ⟨_, rfl⟩
  have hlen : l'.length = M + 1 := by rw [← hl']; simp; omega
  have hd' : ∀ d ∈ l', d.Ok := by
    intro d h
    rw [← hl'] at h
    rcases List.mem_append.1 h with h | h
    · exact hd d (List.mem_of_mem_take h)
    · simp at h; subst h; exact dz_ok
  have hrows2 : (List.map Deed.row l).take M ++ [dzRow] = l'.map Deed.row := by
    rw [← hl', List.map_append, List.map_take]; rfl
  have hit := items_c (G := G) l' 1 (by omega) hd' (by omega)
  have hlog := items_log l' hd'
  have hbn := items_bnd l'
  have hxlen : (itemsOf l' 1).length = M + 1 := by unfold itemsOf; rw [itemsGo_length, List.length_take, hlen]; omega
  obtain ⟨hlen2, _⟩ := log0_iff.1 hlog
  generalize itemsOf l' 1 = xs at *
  have hul8 : UL 8 ((List.map Deed.row l).take M) := ul_take (deeds_ul l)
  have hul9 := deeds_ul l
  have hulz : UL 8 [dzRow] := deeds_ul [dz]
  have hdl : ((List.map Deed.row l).take M).length = M := by simp; omega
  have hdl2 : (List.map Deed.row l).length = l.length := by simp
  have hxl : (xs.map Item.row).length = xs.length := by simp
  have hk := pk_range (n := a) (m := (xs.length : Int)) (by omega)
  have hpk := picked_c (G := G) a (xs.length : Int) ha (by omega)
  obtain ⟨k, hk'⟩ : ∃ k : Nat, pk a (xs.length : Int) = k := ⟨(pk a (xs.length : Int)).toNat, by omega⟩
  rw [hk'] at hk hpk
  have hkl : k < xs.length := by omega
  obtain ⟨y, hy⟩ : ∃ y, xs[k]? = some y := ⟨_, List.getElem?_eq_getElem hkl⟩
  have hyr : (xs.map Item.row)[k]? = some y.row := by rw [List.getElem?_map, hy]; rfl
  have hyb : 1 ≤ y.term ∧ y.term ≤ 31 := ⟨(item_ok (chk_all (log0_iff.1 hlog).2 y (List.mem_of_getElem? hy)).1).1, hbn y (List.mem_of_getElem? hy)⟩
  have hta : termAt 0 0 xs ((k : Int) + 1) = y.term := by
    unfold termAt
    rw [if_neg (by omega), if_neg (by omega), if_neg (by omega), show (((k : Int) + 1) - 0 - 1).toNat = k by omega, hy]
  have hte : termErr 0 xs.length ((k : Int) + 1) = 0 := termErr_ok ⟨by omega, by omega⟩
  rw [← hrows2] at hit
  refine pcallc mixed Tryz.func9 ac_rostrumkeep_FoldLoad ?_
  repeat' (first | (with_reducible first | refine Cn (fun h => ?_) fun h => ?_ | refine And.intro ?_ ?_ | refine wR ?_ | exact wr _ _ | refine wa ?_ | apply awp_join | refine q hit ?_ | refine qd hit ?_ | refine qz hit ?_) | (with_reducible refine CallZ.z ?_) | simp -dsimp [go_sem, hM, hul8, hul9, hulz, hdl, hdl2, hxl])
  all_goals first | omega | skip
  refine awp_loop (fun i : Nat => ⟨[(1, iV a), (2, bV o), (3, .one (.v (.sl (ds.map Deed.row)))), (8, bV false), (9, rowsV xs), (10, .one (.ar 0)), (11, iV i)], G, [some (.arr 43 20 (lnR xs i))]⟩) (fun i => i ≤ xs.length) (fun i => xs.length - i) 0 (Weak.trans (weak_nil 10 43 20 ?_ (by omega)) (weak_auto ?_)) (Nat.zero_le _) ?_
  · simp -dsimp [go_sem]
  · simp -dsimp [go_sem, lnR_zero]
  · intro i hi
    by_cases hil : i < xs.length
    · obtain ⟨y, hx⟩ : ∃ y, xs[i]? = some y := ⟨_, List.getElem?_eq_getElem hil⟩
      have hr : (xs.map Item.row)[i]? = some y.row := by simp [hx]
      have q2 : decide (i < xs.length) = true := decide_eq_true hil
      have w1 : IntKind.i64.wrap ((i : Int) + 1) = (i : Int) + 1 := IntWalk.i64_in _ (by omega)
      have hsu := lnR_succ hx
      rw [lineRow] at hsu
      have hul := lnR_ul xs i
      have hrl := lnR_len hi
      clear hit hpk hmk
      obtain ⟨xt, xm, xn, xc, xss, xk, xa, xb, xd, xx⟩ := y
      simp only [Item.row] at hr
      simp only at hsu
      repeat' (first | (with_reducible first | refine Cn (fun h => ?_) fun h => ?_ | refine And.intro ?_ ?_ | refine wR ?_ | exact wr _ _ | refine wa ?_ | apply awp_join) | (with_reducible refine CallZ.z ?_) | simp -dsimp [go_sem, hr, q2, w1, hul, hrl, hxl])
      all_goals first
        | omega
        | (simp [UL]; done)
        | (refine Again.auto (i + 1) ?_ hil ?_
           · simp -dsimp [go_sem, hsu]
           · show xs.length - (i + 1) < xs.length - i; omega)
        | trace_state
    · have hie : i = xs.length := by omega
      subst hie
      have q2 : decide (xs.length < xs.length) = false := decide_eq_false (by omega)
      have w1 : IntKind.i64.wrap (1 + (k : Int)) = 1 + (k : Int) := IntWalk.i64_in _ (by omega)
      have w2 : IntKind.i64.wrap (1 + (k : Int) - 1) = (k : Int) := by rw [IntWalk.i64_in _ (by omega)]; omega
      have w3 : IntKind.i64.wrap (k : Int) = (k : Int) := IntWalk.i64_in _ (by omega)
      have w4 : IntKind.i64.wrap (y.term + 100) = y.term + 100 := IntWalk.i64_in _ (by omega)
      obtain ⟨T, hT⟩ : ∃ T, (if o then y.term + 100 else y.term) = T := ⟨_, rfl⟩
      have hTb : 1 ≤ T ∧ T ≤ 1048576 := by split at hT <;> omega
      obtain ⟨f1, f2⟩ := fold_load hlog (k := 1 + (k : Int)) (t := T) ⟨by omega, by omega⟩ hTb hmok
      obtain ⟨R, hR⟩ : ∃ R, restD ⟨0, 0, xs⟩ (1 + (k : Int)) T = ⟨1 + (k : Int), T, R⟩ ∧ R = if o then [] else xs.drop (k + 1) := by
        unfold restD
        simp only
        have e : (1 + (k : Int)) = (k : Int) + 1 := by omega
        rw [e, hta, hte]
        cases o with
        | true =>
          simp only [if_true] at hT ⊢
          rw [if_neg (by omega)]
          exact ⟨_, rfl, rfl⟩
        | false =>
          simp only [Bool.false_eq_true, if_false] at hT ⊢
          rw [if_pos ⟨trivial, hT⟩]
          exact ⟨_, rfl, rfl⟩
      obtain ⟨hR1, hR2⟩ := hR
      rw [hR1] at f1 f2
      obtain ⟨dm1, dm2, dm3⟩ := hmok.dom
      have hsmR : ∀ i t, (loadRc i t (snapM ds)).Small := fun i t => ⟨dm1, dm2⟩
      have c1 := fold_c (G := G) (linesR xs ++ [loadRc (1 + (k : Int)) T (snapM ds)]) (app_small (linesR_small xs) (fun r hr => by simp at hr; subst hr; exact hsmR _ _)) (by simp [linesR_len]; omega)
      have c2 := fold_c (G := G) (linesR xs ++ [loadRc (1 + (k : Int)) T (snapM ds)] ++ [loadRc (1 + (k : Int) - 1) T (snapM ds)]) (app_small (app_small (linesR_small xs) (fun r hr => by simp at hr; subst hr; exact hsmR _ _)) (fun r hr => by simp at hr; subst hr; exact hsmR _ _)) (by simp [linesR_len]; omega)
      have hsm := sameMachine_c (G := G) (snapM ds) (snapM ds) dm1 dm3 dm2
      have hde : decide (snapM ds = snapM ds) = true := by simp
      rw [hde] at hsm
      have e2 : lnR xs xs.length = (linesR xs).map Rcd.row := by unfold lnR; rw [List.take_length]
      have hul := lnR_ul xs xs.length
      have hrl := lnR_len (Nat.le_refl xs.length)
      have hXu := ul_rows xs
      have hsa := sameItems_c (G := G) (xs.drop (k + 1)) (xs.drop (k + 1)) (by simp; omega)
      have hsd : decide (xs.drop (k + 1) = xs.drop (k + 1)) = true := by simp
      rw [hsd] at hsa
      have ht2 : (xs.map Item.row).take xs.length = xs.map Item.row := List.take_of_length_le (by simp)
      have ht1 : ((xs.map Item.row).drop (k + 1)).take (xs.length - (k + 1)) = (xs.map Item.row).drop (k + 1) := List.take_of_length_le (by simp)
      have hkn : (1 + (k : Int)).toNat = k + 1 := by omega
      have hk11 : (1 + (k : Int) - 1) = (k : Int) := by omega
      rw [f1] at c1
      rw [hk11] at c2 f2
      clear hit hul8 hul9 hulz hdl hdl2 hrows2 dm1 dm2 dm3 hsmR hmok hlog hR1 f1
      generalize snapM ds = m at *
      obtain ⟨⟨mn, me⟩, mx, mc⟩ := m
      obtain ⟨yt, ym, yn, yc, ys, yk, ya, yb, yd, yx⟩ := y
      simp only [Item.row] at hyr
      simp only at w4 hyb hT
      simp only [List.map_append, List.map_cons, List.map_nil, loadRow, newD, Dsk.c, newM, zeroS, zeroLg, Lg.c, logC, Mach.c, List.cons_append, List.nil_append, ← e2] at c1
      by_cases hk1 : 0 < k
      · rw [f2 (by omega)] at c2
        simp only [List.map_append, List.map_cons, List.map_nil, loadRow, newD, Dsk.c, newM, zeroS, zeroLg, Lg.c, logC, Mach.c, List.cons_append, List.nil_append, List.append_assoc, ← e2] at c2
        have q5 : decide (1 < 1 + (k : Int)) = true := decide_eq_true (by omega)
        simp only [Mach.c, rowsV, List.map_drop] at hmk hsm hsa
        generalize lnR xs xs.length = L at *
        cases o with
        | true =>
          simp only [if_true] at hT hR2
          subst hT; subst hR2
          simp only [List.map_nil] at c2
          repeat' (first | (with_reducible first | refine Cn (fun h => ?_) fun h => ?_ | refine And.intro ?_ ?_ | refine wR ?_ | exact wr _ _ | refine weak_autoC ?_ | apply awp_join | refine q hpk ?_ | refine qd hpk ?_ | refine qz hpk ?_ | refine q hmk ?_ | refine qd hmk ?_ | refine qz hmk ?_ | refine q c2 ?_ | refine qd c2 ?_ | refine qz c2 ?_ | refine q hsm ?_ | refine qd hsm ?_ | refine qz hsm ?_) | (with_reducible refine CallZ.z ?_) | simp -dsimp [go_sem, hM8, hulds, hllds, q2, q5, w1, w2, w3, w4, hxl, hyr, hul, hrl, clean_nil, clean_cons, clean_yes, clean_no])
          all_goals first | omega | (simp [UL]; done) | trace_state
        | false =>
          simp only [Bool.false_eq_true, if_false] at hT hR2
          subst hT; subst hR2
          simp only [List.map_drop] at c2
          repeat' (first | (with_reducible first | refine Cn (fun h => ?_) fun h => ?_ | refine And.intro ?_ ?_ | refine wR ?_ | exact wr _ _ | refine weak_autoC ?_ | apply awp_join | refine q hpk ?_ | refine qd hpk ?_ | refine qz hpk ?_ | refine q hmk ?_ | refine qd hmk ?_ | refine qz hmk ?_ | refine q c2 ?_ | refine qd c2 ?_ | refine qz c2 ?_ | refine q hsm ?_ | refine qd hsm ?_ | refine qz hsm ?_ | refine q hsa ?_ | refine qd hsa ?_ | refine qz hsa ?_) | (with_reducible refine CallZ.z ?_) | simp -dsimp [go_sem, hM8, hulds, hllds, q2, q5, w1, w2, w3, hxl, hyr, hul, hrl, ht1, ht2, hkn, hXu, clean_nil, clean_cons, clean_yes, clean_no])
          all_goals first | omega | (simp [UL]; done) | trace_state
      · have q5 : decide (1 < 1 + (k : Int)) = false := decide_eq_false (by omega)
        clear c2 f2
        simp only [Mach.c, rowsV, List.map_drop] at hmk hsm hsa
        generalize lnR xs xs.length = L at *
        cases o with
        | true =>
          simp only [if_true] at hT hR2
          subst hT; subst hR2
          simp only [List.map_nil] at c1
          repeat' (first | (with_reducible first | refine Cn (fun h => ?_) fun h => ?_ | refine And.intro ?_ ?_ | refine wR ?_ | exact wr _ _ | refine weak_autoC ?_ | apply awp_join | refine q hpk ?_ | refine qd hpk ?_ | refine qz hpk ?_ | refine q hmk ?_ | refine qd hmk ?_ | refine qz hmk ?_ | refine q c1 ?_ | refine qd c1 ?_ | refine qz c1 ?_ | refine q hsm ?_ | refine qd hsm ?_ | refine qz hsm ?_) | (with_reducible refine CallZ.z ?_) | simp -dsimp [go_sem, hM8, hulds, hllds, q2, q5, w1, w2, w3, w4, hxl, hyr, hul, hrl, clean_nil, clean_cons, clean_yes, clean_no])
          all_goals first | omega | (simp [UL]; done) | trace_state
        | false =>
          simp only [Bool.false_eq_true, if_false] at hT hR2
          subst hT; subst hR2
          simp only [List.map_drop] at c1
          repeat' (first | (with_reducible first | refine Cn (fun h => ?_) fun h => ?_ | refine And.intro ?_ ?_ | refine wR ?_ | exact wr _ _ | refine weak_autoC ?_ | apply awp_join | refine q hpk ?_ | refine qd hpk ?_ | refine qz hpk ?_ | refine q hmk ?_ | refine qd hmk ?_ | refine qz hmk ?_ | refine q c1 ?_ | refine qd c1 ?_ | refine qz c1 ?_ | refine q hsm ?_ | refine qd hsm ?_ | refine qz hsm ?_ | refine q hsa ?_ | refine qd hsa ?_ | refine qz hsa ?_) | (with_reducible refine CallZ.z ?_) | simp -dsimp [go_sem, hM8, hulds, hllds, q2, q5, w1, w2, w3, hxl, hyr, hul, hrl, ht1, ht2, hkn, hXu, clean_nil, clean_cons, clean_yes, clean_no])
          all_goals first | omega | (simp [UL]; done) | trace_state
end Go.Proofs.YtpdcfljbabpakaaGreatDoor
