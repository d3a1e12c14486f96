/- The client layer: Do, whole. -/
import Derived.Test.YtmaiphnabebplaaGreatDoorCL3
set_option linter.unusedVariables false
set_option linter.unusedSimpArgs false
set_option maxRecDepth 100000
set_option maxHeartbeats 8000000
namespace Go.Proofs.YtmaiphnabebplaaGreatDoor
open Go Go.RowKit Go.Proofs.AE
variable {G : Nat → AV}
/-- What the variable 'nothing' holds. -/
def Noth (G : Nat → AV) : Prop := G 0 = .one (.vptr [.lit (.int .i64 22), .lit (.string ⟨#[]⟩), .lit (.string ⟨#[]⟩), .lit (.string ⟨#[]⟩), .lit (.int .i64 0)])
abbrev DmA (q : Mach × Rep × Int) : AV := .tup [.agg q.1.c, .agg q.2.1.c, iV q.2.2]
theorem doMBad_c (m : Mach) (t : Int) (c : Cal) (hs : m.sto.Small) (hl : m.clis.length ≤ 1000000) (h : checkM m ≠ 0 ∨ (t < 0 ∨ 1073741824 < t) ∨ checkCl c ≠ 0) : PCall Tryz.prog G 12 [.agg m.c, iV t, .agg c.c] (DmA (DoM m t c)) := by
  have hcs := checkM_c (G := G) m hs hl
  have hcc := checkCl_c (G := G) c
  unfold DoM
  obtain ⟨e1, he1⟩ : ∃ e, checkM m = e := ⟨_, rfl⟩
  obtain ⟨e2, he2⟩ : ∃ e, checkCl c = e := ⟨_, rfl⟩
  rw [he1] at hcs h ⊢
  rw [he2] at hcc h ⊢
  obtain ⟨⟨now, ents⟩, next, l⟩ := m
  obtain ⟨cid, cseq, ⟨ck, ckey, cf, ct, cn⟩⟩ := c
  simp only [Mach.c, Cal.c] at hcs hcc ⊢
  by_cases a1 : e1 ≠ 0
  · have q1 : (e1 != 0) = true := by simpa using a1
    rw [if_pos a1]
    simp only [DmA, Mach.c, Rep.c, toldR, zeroM, zeroS, List.map_nil]
    refine pcallc mixed Tryz.func12 ac_client_Do ?_
    repeat' (first | (with_reducible first | refine Cn (fun h => ?_) fun h => ?_ | refine And.intro ?_ ?_ | refine wR ?_ | exact wr _ _ | refine wa ?_ | apply awp_join | refine q hcs ?_ | refine qd hcs ?_ | refine qz hcs ?_) | (with_reducible refine CallZ.z ?_) | simp -dsimp [go_sem, q1])
  · have q1 : (e1 != 0) = false := by simpa using a1
    rw [if_neg a1]
    by_cases a2 : t < 0 ∨ 1073741824 < t
    · rw [if_pos a2]
      simp only [DmA, Mach.c, Rep.c, toldR, zeroM, zeroS, List.map_nil]
      by_cases a4 : t < 0
      · have q2 : decide (t < 0) = true := by simpa using a4
        refine pcallc mixed Tryz.func12 ac_client_Do ?_
        repeat' (first | (with_reducible first | refine Cn (fun h => ?_) fun h => ?_ | refine And.intro ?_ ?_ | refine wR ?_ | exact wr _ _ | refine wa ?_ | apply awp_join | refine q hcs ?_ | refine qd hcs ?_ | refine qz hcs ?_) | (with_reducible refine CallZ.z ?_) | simp -dsimp [go_sem, q1, q2])
      · have q2 : decide (t < 0) = false := by simpa using a4
        have q3 : decide (1073741824 < t) = true := by simp; omega
        refine pcallc mixed Tryz.func12 ac_client_Do ?_
        repeat' (first | (with_reducible first | refine Cn (fun h => ?_) fun h => ?_ | refine And.intro ?_ ?_ | refine wR ?_ | exact wr _ _ | refine wa ?_ | apply awp_join | refine q hcs ?_ | refine qd hcs ?_ | refine qz hcs ?_) | (with_reducible refine CallZ.z ?_) | simp -dsimp [go_sem, q1, q2, q3])
    · rw [if_neg a2]
      have a3 : e2 ≠ 0 := (h.resolve_left a1).resolve_left a2
      rw [if_pos a3]
      have q2 : decide (t < 0) = false := by simp; omega
      have q3 : decide (1073741824 < t) = false := by simp; omega
      have q4 : (e2 != 0) = true := by simpa using a3
      simp only [DmA, Mach.c, Rep.c, toldR, zeroM, zeroS, List.map_nil]
      refine pcallc mixed Tryz.func12 ac_client_Do ?_
      repeat' (first | (with_reducible first | refine Cn (fun h => ?_) fun h => ?_ | refine And.intro ?_ ?_ | refine wR ?_ | exact wr _ _ | refine wa ?_ | apply awp_join | refine q hcs ?_ | refine qd hcs ?_ | refine qz hcs ?_ | refine q hcc ?_ | refine qd hcc ?_ | refine qz hcc ?_) | (with_reducible refine CallZ.z ?_) | simp -dsimp [go_sem, q1, q2, q3, q4])
theorem findC_cases (l : List Cli) (id : Int) : (findC l id = -1 ∧ ∀ x ∈ l, x.id ≠ id) ∨ ∃ (j : Nat) (x : Cli), findC l id = (j : Int) ∧ l[j]? = some x ∧ x.id = id := by
  unfold findC
  rcases firstI_cases (fun x : Cli => x.id == id) l 0 with ⟨h1, h2⟩ | ⟨j, x, h1, h2, h3, _⟩
  · exact .inl ⟨h1, fun x hx => by have := h2 x hx; simpa using this⟩
  · exact .inr ⟨j, x, by rw [h1]; simp, h2, by simpa using h3⟩
theorem doMGood_c (hG : Noth G) (m : Mach) (t : Int) (c : Cal) (ok : OkM m) (h0 : 0 ≤ t) (h1 : t ≤ 1073741824) (hc : checkCl c = 0) : PCall Tryz.prog G 12 [.agg m.c, iV t, .agg c.c] (DmA (DoM m t c)) := by
  have hcs := checkM_c (G := G) m ok.sto.small (by have := ok.len; omega)
  rw [checkM_iff.2 ok] at hcs
  have hcc := checkCl_c (G := G) c
  rw [hc] at hcc
  have hlr : ∀ x ∈ m.clis, x.reply.list.length ≤ 1000 := fun x hx => by have := (checkR_iff.1 (ok.all x hx).reply).len; omega
  have how := ownClients_c (G := G) m.clis (by have := ok.len; omega) hlr
  have hap := apply_c (G := G) m.sto t keysC ok.sto.small
  obtain ⟨eA, okA⟩ := apply_ok ok.sto h0 h1 keysC_ok
  obtain ⟨hD, hmid, _, _⟩ := do_ok ok h0 h1 hc
  rw [hD]
  rw [doE_keys] at eA okA
  rw [eA] at hap
  have hlen := ok.len
  clear eA hD okA hcs
  have hcs := checkM_c (G := G) m ok.sto.small (by have := ok.len; omega)
  rw [checkM_iff.2 ok] at hcs
  obtain ⟨M, hM⟩ : ∃ M, (⟨maxI m.sto.now t, aliveS (maxI m.sto.now t) m.sto⟩ : Sto) = M := ⟨_, rfl⟩
  have hsc : (⟨maxI m.sto.now t, aliveS (maxI m.sto.now t) m.sto⟩ : Sto).c = M.c := by rw [hM]
  rw [hM] at hmid ⊢
  unfold ApA at hap
  simp only at hap
  change PCall Tryz.prog G _ _ (.tup [.agg (⟨maxI m.sto.now t, aliveS (maxI m.sto.now t) m.sto⟩ : Sto).c, _, _]) at hap
  rw [hM] at hap
  clear hM hsc
  have q2 : decide (t < 0) = false := by simp; omega
  have q3 : decide (1073741824 < t) = false := by simp; omega
  unfold Noth at hG
  unfold callM
  by_cases a1 : c.client = 0
  · rw [if_pos a1]
    have hop := open_c (G := G) _ hmid
    obtain ⟨q, hq⟩ : ∃ q : Mach × Rep, openM ⟨M, m.next, m.clis⟩ = q := ⟨_, rfl⟩
    rw [hq] at hop ⊢
    obtain ⟨⟨⟨qnow, qents⟩, qnext, qclis⟩, ⟨qc, qt, qn, ql⟩⟩ := q
    obtain ⟨Mn, Me⟩ := M
    obtain ⟨⟨now, ents⟩, next, l⟩ := m
    obtain ⟨cid, cseq, ⟨ck, ckey, cf, ct, cn⟩⟩ := c
    simp only at a1
    subst a1
    clear hq hmid ok hlr
    simp only [Mach.c, Sto.c, Cal.c, Rep.c, Cmd.c, keysC, DmA] at hcs hcc how hap hop ⊢
    refine pcallc mixed Tryz.func12 ac_client_Do ?_
    repeat' (first | (with_reducible first | refine Cn (fun h => ?_) fun h => ?_ | refine And.intro ?_ ?_ | refine wR ?_ | exact wr _ _ | refine wa ?_ | apply awp_join | refine q hcs ?_ | refine qd hcs ?_ | refine qz hcs ?_ | refine q hcc ?_ | refine qd hcc ?_ | refine qz hcc ?_ | refine qg how ?_ | refine qgd how ?_ | refine q hap ?_ | refine qd hap ?_ | refine qz hap ?_ | refine qg hop ?_ | refine qgd hop ?_) | (with_reducible refine CallZ.z ?_) | simp -dsimp [go_sem, q2, q3, hG])
    all_goals trace_state
  · rw [if_neg a1]
    have q4 : (c.client == 0) = false := by simpa using a1
    have hix := indexC_c (G := G) c m.clis (by omega)
    obtain ⟨_, hnum, _⟩ := call_cmd hc a1
    simp only
    rcases findC_cases m.clis c.client with ⟨f1, f2⟩ | ⟨j, x, f1, f2, f3⟩
    · rw [f1] at hix ⊢
      rw [if_pos (by omega)]
      obtain ⟨Mn, Me⟩ := M
      obtain ⟨⟨now, ents⟩, next, l⟩ := m
      obtain ⟨cid, cseq, ⟨ck, ckey, cf, ct, cn⟩⟩ := c
      simp only at q4 hlen
      clear hmid ok hlr f2 f1
      simp only [Mach.c, Sto.c, Cal.c, Rep.c, Cmd.c, keysC, DmA, failR, List.map_nil] at hcs hcc how hap hix ⊢
      refine pcallc mixed Tryz.func12 ac_client_Do ?_
      repeat' (first | (with_reducible first | refine Cn (fun h => ?_) fun h => ?_ | refine And.intro ?_ ?_ | refine wR ?_ | exact wr _ _ | refine wa ?_ | apply awp_join | refine q hcs ?_ | refine qd hcs ?_ | refine qz hcs ?_ | refine q hcc ?_ | refine qd hcc ?_ | refine qz hcc ?_ | refine qg how ?_ | refine qgd how ?_ | refine q hap ?_ | refine qd hap ?_ | refine qz hap ?_ | refine qg hix ?_ | refine qgd hix ?_) | (with_reducible refine CallZ.z ?_) | simp -dsimp [go_sem, q2, q3, q4, hG])
      all_goals trace_state
    · rw [f1] at hix ⊢
      rw [if_neg (by omega)]
      have ho := hmid.all x (List.mem_of_getElem? f2)
      have hj : ((j : Int)).toNat = j := by omega
      have q7 : decide ((j : Int) < 0) = false := by simp
      rw [hj, f2]
      simp only
      have hor := ownReply_c (G := G) x.reply (by have := hlr x (List.mem_of_getElem? f2); omega)
      have hjl := lt_of_getElem? f2
      unfold okNumber at hnum
      simp only [Bool.and_eq_true, decide_eq_true_eq] at hnum
      have hsq := ho.seq
      have w1 : IntKind.i64.wrap (x.seq + 1) = x.seq + 1 := IntWalk.i64_in _ (by omega)
      by_cases b1 : c.seq = x.seq
      · rw [if_pos b1]
        have q5 : (c.seq == x.seq) = true := by simpa using b1
        obtain ⟨Mn, Me⟩ := M
        obtain ⟨⟨now, ents⟩, next, l⟩ := m
        obtain ⟨cid, cseq, ⟨ck, ckey, cf, ct, cn⟩⟩ := c
        obtain ⟨xid, xseq, xtime, ⟨rc, rt, rn, rl⟩⟩ := x
        simp only at q4 hlen f2 hjl q5
        clear hmid ok hlr ho f3 f1
        simp only [Mach.c, Sto.c, Cal.c, Rep.c, Cmd.c, keysC, DmA] at hcs hcc how hap hix hor ⊢
        refine pcallc mixed Tryz.func12 ac_client_Do ?_
        repeat' (first | (with_reducible first | refine Cn (fun h => ?_) fun h => ?_ | refine And.intro ?_ ?_ | refine wR ?_ | exact wr _ _ | refine wa ?_ | apply awp_join | refine q hcs ?_ | refine qd hcs ?_ | refine qz hcs ?_ | refine q hcc ?_ | refine qd hcc ?_ | refine qz hcc ?_ | refine qg how ?_ | refine qgd how ?_ | refine q hap ?_ | refine qd hap ?_ | refine qz hap ?_ | refine qg hix ?_ | refine qgd hix ?_ | refine q hor ?_ | refine qd hor ?_ | refine qz hor ?_) | (with_reducible refine CallZ.z ?_) | simp -dsimp [go_sem, q2, q3, q4, q7, q5, hG, f2, Cli.row])
        all_goals first | omega | trace_state
      · rw [if_neg b1]
        have q5 : (c.seq == x.seq) = false := by simpa using b1
        by_cases b2 : c.seq ≠ x.seq + 1
        · rw [if_pos b2]
          have q6 : (c.seq != x.seq + 1) = true := by simpa using b2
          obtain ⟨Mn, Me⟩ := M
          obtain ⟨⟨now, ents⟩, next, l⟩ := m
          obtain ⟨cid, cseq, ⟨ck, ckey, cf, ct, cn⟩⟩ := c
          obtain ⟨xid, xseq, xtime, ⟨rc, rt, rn, rl⟩⟩ := x
          simp only at q4 hlen f2 hjl q5 q6 w1
          clear hmid ok hlr ho f3 f1
          simp only [Mach.c, Sto.c, Cal.c, Rep.c, Cmd.c, keysC, DmA, failR, List.map_nil] at hcs hcc how hap hix hor ⊢
          refine pcallc mixed Tryz.func12 ac_client_Do ?_
          repeat' (first | (with_reducible first | refine Cn (fun h => ?_) fun h => ?_ | refine And.intro ?_ ?_ | refine wR ?_ | exact wr _ _ | refine wa ?_ | apply awp_join | refine q hcs ?_ | refine qd hcs ?_ | refine qz hcs ?_ | refine q hcc ?_ | refine qd hcc ?_ | refine qz hcc ?_ | refine qg how ?_ | refine qgd how ?_ | refine q hap ?_ | refine qd hap ?_ | refine qz hap ?_ | refine qg hix ?_ | refine qgd hix ?_ | refine q hor ?_ | refine qd hor ?_ | refine qz hor ?_) | (with_reducible refine CallZ.z ?_) | simp -dsimp [go_sem, q2, q3, q4, q7, q5, q6, w1, hG, f2, Cli.row])
          all_goals first | omega | trace_state
        · rw [if_neg b2]
          have b3 : c.seq = x.seq + 1 := Classical.not_not.1 b2
          have q6 : (c.seq != x.seq + 1) = false := by simpa using b3
          have hap2 := apply_c (G := G) M t c.cmd hmid.sto.small
          have hrr := (apply_okR hmid.sto h0 h1 (call_cmd hc a1).2.2).len
          have hor2 := ownReply_c (G := G) (ApplyS M t c.cmd).2.1 (Nat.le_trans hrr (by omega))
          obtain ⟨Q, hQ⟩ : ∃ Q, ApplyS M t c.cmd = Q := ⟨_, rfl⟩
          rw [hQ] at hap2 hor2 hrr ⊢
          have hze : Q.2.2 = 0 := by rw [← hQ, (apply_ok hmid.sto h0 h1 (call_cmd hc a1).2.2).1]
          have hset : ∀ y : Cli, clR (m.clis.set j y) = (clR m.clis).set j y.row := fun y => by simp
          obtain ⟨⟨qn, qe⟩, ⟨qc, qt, qm, ql⟩, e⟩ := Q
          obtain ⟨Mn, Me⟩ := M
          obtain ⟨⟨now, ents⟩, next, l⟩ := m
          obtain ⟨cid, cseq, ⟨ck, ckey, cf, ct, cn⟩⟩ := c
          obtain ⟨xid, xseq, xtime, ⟨rc, rt, rn, rl⟩⟩ := x
          simp only at q4 hlen f2 hjl q5 q6 w1 hze
          subst hze
          have hg1 : ∀ X, ((clR l).set j X)[j]? = some X := fun X => by rw [List.getElem?_set_self (by simpa using hjl)]
          clear hmid ok hlr ho f3 f1 hQ
          simp only [ApA, Mach.c, Sto.c, Cal.c, Rep.c, Cmd.c, hset, Cli.row, keysC, DmA] at hcs hcc how hap hix hor hap2 hor2 ⊢
          refine pcallc mixed Tryz.func12 ac_client_Do ?_
          repeat' (first | (with_reducible first | refine Cn (fun h => ?_) fun h => ?_ | refine And.intro ?_ ?_ | refine wR ?_ | exact wr _ _ | refine wa ?_ | apply awp_join | refine q hcs ?_ | refine qd hcs ?_ | refine qz hcs ?_ | refine q hcc ?_ | refine qd hcc ?_ | refine qz hcc ?_ | refine qg how ?_ | refine qgd how ?_ | refine q hap ?_ | refine qd hap ?_ | refine qz hap ?_ | refine q hap2 ?_ | refine qd hap2 ?_ | refine qz hap2 ?_ | refine qg hix ?_ | refine qgd hix ?_ | refine q hor ?_ | refine qd hor ?_ | refine qz hor ?_ | refine q hor2 ?_ | refine qd hor2 ?_ | refine qz hor2 ?_) | (with_reducible refine CallZ.z ?_) | simp -dsimp [go_sem, q2, q3, q4, q7, q5, q6, w1, hG, f2, hg1, Cli.row])
          all_goals first | omega | trace_state
theorem doM_c (hG : Noth G) (m : Mach) (t : Int) (c : Cal) (hs : m.sto.Small) (hl : m.clis.length ≤ 1000000) : PCall Tryz.prog G 12 [.agg m.c, iV t, .agg c.c] (DmA (DoM m t c)) := by
  by_cases h : checkM m ≠ 0 ∨ (t < 0 ∨ 1073741824 < t) ∨ checkCl c ≠ 0
  · exact doMBad_c m t c hs hl h
  · simp only [not_or, Classical.not_not] at h
    exact doMGood_c hG m t c (checkM_iff.1 h.1) (by omega) (by omega) h.2.2
end Go.Proofs.YtmaiphnabebplaaGreatDoor
