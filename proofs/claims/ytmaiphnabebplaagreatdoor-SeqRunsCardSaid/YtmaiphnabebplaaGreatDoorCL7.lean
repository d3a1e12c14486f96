/- What the keep's helpers for machines answer. -/
import Derived.Test.YtmaiphnabebplaaGreatDoorCL4
import Derived.Test.YtmaiphnabebplaaGreatDoorCL9
set_option linter.unusedVariables false
set_option linter.unusedSimpArgs false
set_option maxRecDepth 100000
set_option maxHeartbeats 8000000
namespace Go.Proofs.YtmaiphnabebplaaGreatDoor
open Go Go.RowKit Go.Proofs.AE
variable {G : Nat → AV}
def Deed.c (d : Deed) : List C := [iC d.client, iC d.off, iC d.wait, iC d.kind, iC d.key, iC d.field, iC d.n, sC d.text]
theorem callSeq_drop {l : List Cli} {i : Nat} {x : Cli} (n p s : Int) (h : l[i]? = some x) : (l.drop i).foldl (seqStep n p) s = (l.drop (i + 1)).foldl (seqStep n p) (seqStep n p s x) := by
  have hl := (List.getElem?_eq_some_iff.1 h).1
  have hx := (List.getElem?_eq_some_iff.1 h).2
  rw [List.drop_eq_getElem_cons hl, hx, List.foldl_cons]
theorem callK_c (m : Mach) (d : Deed) (hd : d.Ok) (hl : m.clis.length ≤ 1000) (hs : ∀ x ∈ m.clis, 0 ≤ x.seq ∧ x.seq ≤ 1048576) : PCall Tryz.prog G 13 [.agg m.c, .agg d.c] (.agg (callD m.clis d).c) := by
  have hpk := picked_c (G := G) d.client 7 hd.client (by omega)
  have hpo := picked_c (G := G) d.off 3 hd.off (by omega)
  have hcm := commandR_c (G := G) d.raw hd.raw
  have hpr := pk_range (n := d.client) (m := 7) (by omega)
  have hhr := half_range d.off
  have hor := pk_range (n := d.off) (m := 3) (by omega)
  unfold callD
  generalize cmdR d.raw = cc at *
  obtain ⟨client, off, wait, kind, key, field, n, text⟩ := d
  obtain ⟨⟨now, ents⟩, next, l⟩ := m
  obtain ⟨ck, ckey, cf, ct, cn⟩ := cc
  simp only at hpk hpo hcm hpr hhr hor hl hs
  simp only [Deed.raw, Deed.c, Mach.c, Cal.c, Cmd.c] at hpk hpo hcm ⊢
  clear hd
  generalize pk client 7 = pc at *
  obtain ⟨po, hpoe⟩ : ∃ po, pk off 3 = po := ⟨_, rfl⟩
  rw [hpoe] at hpo hhr hor ⊢
  clear hpoe
  by_cases h0 : pc = 0
  · subst h0
    rw [if_pos rfl]
    simp only [openC]
    refine pcallc mixed Tryz.func13 ac_rostrumkeep_call ?_
    repeat' (first | (with_reducible first | refine Cn (fun h => ?_) fun h => ?_ | refine And.intro ?_ ?_ | refine wR ?_ | exact wr _ _ | refine wa ?_ | apply awp_join | refine q hpk ?_ | refine qd hpk ?_ | refine qz hpk ?_) | (with_reducible refine CallZ.z ?_) | simp -dsimp [go_sem])
    all_goals trace_state
  · rw [if_neg h0]
    have q0 : (pc == 0) = false := by simpa using h0
    obtain ⟨h, hhe⟩ : ∃ h, po.tdiv 2 = h := ⟨_, rfl⟩
    rw [hhe] at hhr ⊢
    refine pcallc mixed Tryz.func13 ac_rostrumkeep_call ?_
    repeat' (first | (with_reducible first | refine Cn (fun h => ?_) fun h => ?_ | refine And.intro ?_ ?_ | refine wR ?_ | exact wr _ _ | refine wa ?_ | apply awp_join | refine q hpk ?_ | refine qd hpk ?_ | refine qz hpk ?_ | refine q hcm ?_ | refine qd hcm ?_ | refine qz hcm ?_) | (with_reducible refine CallZ.z ?_) | simp -dsimp [go_sem, q0])
    refine awp_loop (fun q : Nat × Int => ⟨[(2, .one (.ptr 0 0)), (3, .one (.ptr 1 0)), (4, .one (.ptr 2 0)), (5, iV pc), (6, .one (.ptr 3 0)), (7, iV q.1)], G, [some (.box 32 [iC now, .v (.sl (eR ents)), iC next, .v (.sl (clR l))]), some (.box 26 [iC client, iC off, iC wait, iC kind, iC key, iC field, iC n, sC text]), some (.box 43 [iC 0, iC 0, iC 0, sC ⟨#[]⟩, sC ⟨#[]⟩, sC ⟨#[]⟩, iC 0]), some (.box 43 [iC pc, iC q.2, iC ck, sC ckey, sC cf, sC ct, iC cn])]⟩) (fun q => q.1 ≤ l.length ∧ callSeq l pc h = (l.drop q.1).foldl (seqStep pc h) q.2) (fun q => l.length - q.1) (0, 1) (weak_auto ?_) ⟨Nat.zero_le _, rfl⟩ ?_
    · simp -dsimp [go_sem]
    · rintro ⟨i, s⟩ ⟨b1, b2⟩
      simp only at b1 b2
      by_cases hil : i < l.length
      · obtain ⟨x, hx⟩ : ∃ x, l[i]? = some x := ⟨_, List.getElem?_eq_getElem hil⟩
        have e4 : IntKind.i64.wrap ((i : Int) + 1) = (i : Int) + 1 := IntWalk.i64_in _ (by omega)
        have q2 : decide (i < l.length) = true := by simpa using hil
        rw [callSeq_drop pc h s hx] at b2
        have hxs := hs x (List.mem_of_getElem? hx)
        obtain ⟨xi, xs, xt, ⟨xc, xx, xn, xl⟩⟩ := x
        simp only [seqStep] at b2
        simp only at hxs
        by_cases hc : xi = pc
        · rw [if_pos hc] at b2
          have q3 : (xi == pc) = true := by simpa using hc
          have w1 : IntKind.i64.wrap (xs + 1) = xs + 1 := IntWalk.i64_in _ (by omega)
          have w2 : IntKind.i64.wrap (xs + 1 - h) = xs + 1 - h := IntWalk.i64_in _ (by omega)
          have w3 : IntKind.i64.wrap (po.tdiv 2) = h := by rw [hhe]; exact IntWalk.i64_in _ (by omega)
          have w4 : IntKind.i64.wrap (po / 2) = h := by rw [← hhe, Int.tdiv_eq_ediv_of_nonneg (by omega)]; exact IntWalk.i64_in _ (by omega)
          repeat' (first | (with_reducible first | refine Cn (fun h => ?_) fun h => ?_ | refine And.intro ?_ ?_ | refine wR ?_ | exact wr _ _ | refine weak_autoC ?_ | apply awp_join | refine q hpo ?_ | refine qd hpo ?_ | refine qz hpo ?_) | (with_reducible refine CallZ.z ?_) | simp -dsimp [go_sem, hx, Cli.row, e4, q2, q3, w1, w2, w3, w4, clean_nil, clean_cons, clean_yes, clean_no])
          all_goals first
            | omega
            | (refine Again.auto (i + 1, if xs + 1 - h < 1 then 1 else xs + 1 - h) ?_ ⟨hil, b2⟩ ?_
               · simp -dsimp [go_sem]
               · show l.length - (i + 1) < l.length - i; omega)
            | trace_state
        · rw [if_neg hc] at b2
          have q3 : (xi == pc) = false := by simpa using hc
          repeat' (first | (with_reducible first | refine Cn (fun h => ?_) fun h => ?_ | refine And.intro ?_ ?_ | refine wR ?_ | exact wr _ _ | refine wa ?_ | apply awp_join | refine q hpo ?_ | refine qd hpo ?_ | refine qz hpo ?_) | (with_reducible refine CallZ.z ?_) | simp -dsimp [go_sem, hx, Cli.row, e4, q2, q3])
          all_goals first
            | omega
            | (refine Again.auto (i + 1, s) ?_ ⟨hil, b2⟩ ?_
               · simp -dsimp [go_sem]
               · show l.length - (i + 1) < l.length - i; omega)
            | trace_state
      · have q2 : decide (i < l.length) = false := by simpa using hil
        have hn2 : l.drop i = [] := List.drop_eq_nil_of_le (by omega)
        rw [hn2] at b2
        rw [b2]
        simp only [List.foldl_nil]
        repeat' (first | (with_reducible first | refine Cn (fun h => ?_) fun h => ?_ | refine And.intro ?_ ?_ | refine wR ?_ | exact wr _ _ | refine wa ?_ | apply awp_join) | (with_reducible refine CallZ.z ?_) | simp -dsimp [go_sem, q2])
        all_goals trace_state
instance : DecidableEq Mach := fun a b => decidable_of_iff (a.sto = b.sto ∧ a.next = b.next ∧ a.clis = b.clis) (by obtain ⟨a1, a2, a3⟩ := a; obtain ⟨b1, b2, b3⟩ := b; simp)
theorem newM_c : PCall Tryz.prog G 23 [] (.agg newM.c) := by
  simp only [newM, zeroS, Mach.c, List.map_nil]
  refine pcallc mixed Tryz.func23 ac_client_New ?_
  repeat' (first | (with_reducible first | refine Cn (fun h => ?_) fun h => ?_ | refine And.intro ?_ ?_ | refine wR ?_ | exact wr _ _ | refine wa ?_ | apply awp_join) | (with_reducible refine CallZ.z ?_) | simp -dsimp [go_sem])
theorem Inv.dom {k : Nat} {m : Mach} (h : Inv k m) : m.sto.Small ∧ m.clis.length ≤ 1000000 ∧ m.clis.length ≤ 1000 ∧ ∀ x ∈ m.clis, 0 ≤ x.seq ∧ x.seq ≤ 1048576 :=
  ⟨h.ok.sto.small, by have := h.ok.len; omega, by have := h.ok.len; omega, fun x hx => (h.ok.all x hx).seq⟩
theorem machineK_c (hG : Noth G) (l : List Deed) (hl : ∀ d ∈ l, d.Ok) (hn : (l.length : Int) ≤ 9223372036854775807) : PCall Tryz.prog G 11 [.one (.v (.sl (l.map Deed.row)))] (.agg (machV l).c) := by
  have hnew := newM_c (G := G)
  simp only [newM, zeroS, Mach.c, List.map_nil] at hnew
  refine pcallc mixed Tryz.func11 ac_rostrumkeep_Machine ?_
  repeat' (first | (with_reducible first | refine Cn (fun h => ?_) fun h => ?_ | refine And.intro ?_ ?_ | refine wR ?_ | exact wr _ _ | refine wa ?_ | apply awp_join | refine q hnew ?_ | refine qd hnew ?_ | refine qz hnew ?_) | (with_reducible refine CallZ.z ?_) | simp -dsimp [go_sem])
  refine awp_loop (fun i : Nat => ⟨[(0, .one (.v (.sl (l.map Deed.row)))), (2, .one (.ptr 0 0)), (3, .one (.ptr 1 0)), (4, iV (foldM (l.take i)).1), (5, iV i)], G, [some (.box 32 [iC 0, .nil, iC 0, .nil]), some (.box 32 (foldM (l.take i)).2.c)]⟩) (fun i => i ≤ l.length ∧ i ≤ 40) (fun i => 40 - i) 0 (weak_auto ?_) ⟨Nat.zero_le _, by omega⟩ ?_
  · simp -dsimp [go_sem, foldM, newM, zeroS, Mach.c]
  · rintro i ⟨hi, hi2⟩
    have ht : (l.take i).length ≤ 40 := by rw [List.length_take]; omega
    obtain ⟨g1, g2, g3, g4⟩ := foldM_inv (l.take i) (0, newM) 0 (fun d hd => hl d (List.mem_of_mem_take hd)) (by omega) newM_inv (Int.le_refl _) (by show (0 : Int) ≤ _; omega) (Int.le_refl _)
    change Inv _ (foldM (l.take i)).2 at g1
    change 0 ≤ (foldM (l.take i)).1 at g2
    change (foldM (l.take i)).1 ≤ _ at g3
    change (foldM (l.take i)).2.sto.now ≤ (foldM (l.take i)).1 at g4
    have g1 := g1.mono (j := 40) (by omega)
    have g3 : (foldM (l.take i)).1 ≤ 280 := by omega
    have w1 : IntKind.i64.wrap ((i : Int) + 1) = (i : Int) + 1 := IntWalk.i64_in _ (by omega)
    by_cases hlt : i < l.length ∧ i < 40
    · obtain ⟨d, hx⟩ : ∃ d, l[i]? = some d := ⟨_, List.getElem?_eq_getElem hlt.1⟩
      have hok := hl d (List.mem_of_getElem? hx)
      have hp := pk_range (n := d.wait) (m := 8) (by omega)
      have hpk := picked_c (G := G) d.wait 8 hok.wait (by omega)
      have hsu := foldM_succ hx
      generalize foldM (l.take i) = q at *
      obtain ⟨now, m⟩ := q
      simp only at g1 g2 g3 g4
      obtain ⟨f1, f2, f3, f4⟩ := g1.dom
      obtain ⟨m', r, e1, e2, _, _⟩ := stepM_inv (q := (now, m)) (d := d) g1 (by omega) hok g2 (by show now ≤ _; omega) g4
      simp only at e1 e2
      have hck := callK_c (G := G) m d hok f3 f4
      have hdo := doM_c hG m (now + pk d.wait 8) (callD m.clis d) f1 f2
      rw [e1] at hdo
      rw [e2] at hsu
      have w2 : IntKind.i64.wrap (now + pk d.wait 8) = now + pk d.wait 8 := IntWalk.i64_in _ (by omega)
      have q1 : decide (i < l.length) = true := by simp; omega
      have q2 : decide ((i : Int) < 40) = true := by simp; omega
      generalize callD m.clis d = c at *
      generalize pk d.wait 8 = p at *
      obtain ⟨d1, d2, d3, d4, d5, d6, d7, d8⟩ := d
      obtain ⟨⟨mn, me⟩, mx, ml⟩ := m
      obtain ⟨⟨mn', me'⟩, mx', ml'⟩ := m'
      obtain ⟨cid, cseq, ⟨ck, ckey, cf, ct, cn⟩⟩ := c
      obtain ⟨rc, rt, rn, rl⟩ := r
      simp only [DmA, Mach.c, Cal.c, Cmd.c, Rep.c, Deed.c] at hdo hck hpk ⊢
      repeat' (first | (with_reducible first | refine Cn (fun h => ?_) fun h => ?_ | refine And.intro ?_ ?_ | refine wR ?_ | exact wr _ _ | refine weak_autoC ?_ | apply awp_join | refine q hpk ?_ | refine qd hpk ?_ | refine qz hpk ?_ | refine q hck ?_ | refine qd hck ?_ | refine qz hck ?_ | refine q hdo ?_ | refine qd hdo ?_ | refine qz hdo ?_) | (with_reducible refine CallZ.z ?_) | simp -dsimp [go_sem, hx, Deed.row, w1, w2, q1, q2, clean_nil, clean_cons, clean_yes, clean_no])
      all_goals first
        | omega
        | (refine Again.auto (i + 1) ?_ ⟨hlt.1, hlt.2⟩ ?_
           · simp -dsimp [go_sem, hsu, Mach.c]
           · show 40 - (i + 1) < 40 - i; omega)
        | trace_state
    · have hend : machV l = (foldM (l.take i)).2 := by
        unfold machV
        have ht : l.take 40 = l.take i := by
          by_cases h : i < l.length
          · rw [show i = 40 by omega]
          · rw [List.take_of_length_le (by omega), List.take_of_length_le (by omega)]
        rw [ht]
      rw [hend]
      generalize foldM (l.take i) = q at *
      obtain ⟨now, ⟨mn, me⟩, mx, ml⟩ := q
      simp only [Mach.c]
      by_cases h : i < l.length
      · have q1 : decide (i < l.length) = true := by simpa using h
        have q2 : decide ((i : Int) < 40) = false := by simp; omega
        repeat' (first | (with_reducible first | refine Cn (fun h => ?_) fun h => ?_ | refine And.intro ?_ ?_ | refine wR ?_ | exact wr _ _ | refine wa ?_ | apply awp_join) | (with_reducible refine CallZ.z ?_) | simp -dsimp [go_sem, q1, q2])
      · have q1 : decide (i < l.length) = false := by simpa using h
        repeat' (first | (with_reducible first | refine Cn (fun h => ?_) fun h => ?_ | refine And.intro ?_ ?_ | refine wR ?_ | exact wr _ _ | refine wa ?_ | apply awp_join) | (with_reducible refine CallZ.z ?_) | simp -dsimp [go_sem, q1])
theorem openedK_c (hG : Noth G) (l : List Deed) (hl : ∀ d ∈ l, d.Ok) (hn : (l.length : Int) ≤ 9223372036854775807) : PCall Tryz.prog G 16 [.one (.v (.sl (l.map Deed.row)))] (.agg (openedV l).c) := by
  have hmk := machineK_c hG l hl hn
  obtain ⟨hi, _⟩ := machV_inv l hl
  obtain ⟨f1, f2, _, _⟩ := hi.dom
  have hdo := doM_c hG (machV l) (machV l).sto.now openC f1 f2
  rw [do_open hi.ok] at hdo
  unfold openedV
  generalize openM (machV l) = q at *
  generalize machV l = m at *
  obtain ⟨⟨⟨qn, qe⟩, qx, ql⟩, ⟨rc, rt, rn, rl⟩⟩ := q
  obtain ⟨⟨mn, me⟩, mx, ml⟩ := m
  simp only [DmA, Mach.c, Cal.c, Cmd.c, Rep.c, openC] at hdo hmk ⊢
  refine pcallc mixed Tryz.func16 ac_rostrumkeep_opened ?_
  repeat' (first | (with_reducible first | refine Cn (fun h => ?_) fun h => ?_ | refine And.intro ?_ ?_ | refine wR ?_ | exact wr _ _ | refine wa ?_ | apply awp_join | refine q hmk ?_ | refine qd hmk ?_ | refine qz hmk ?_ | refine q hdo ?_ | refine qd hdo ?_ | refine qz hdo ?_) | (with_reducible refine CallZ.z ?_) | simp -dsimp [go_sem])
  all_goals trace_state
end Go.Proofs.YtmaiphnabebplaaGreatDoor
