/- The client layer: what checking a machine and copying replies answer. -/
import Derived.Test.YtmaiphnabebplaaGreatDoorG2
import Derived.Test.YtmaiphnabebplaaGreatDoorA15
set_option linter.unusedVariables false
set_option linter.unusedSimpArgs false
set_option maxRecDepth 100000
set_option maxHeartbeats 8000000
namespace Go.Proofs.YtmaiphnabebplaaGreatDoor
open Go Go.RowKit Go.Proofs.AE
variable {G : Nat → AV}
theorem ul_c (l : List Cli) : UL 7 (clR l) := by
  intro r hr
  obtain ⟨y, _, rfl⟩ := List.mem_map.1 hr
  rfl
theorem ul_str (l : List ByteArray) : UL 1 (strRows l) := by
  intro r hr
  obtain ⟨y, _, rfl⟩ := List.mem_map.1 hr
  rfl
theorem checkR_c (r : Rep) : PCall Tryz.prog G 15 [.agg r.c] (iV (checkR r)) := checkReply_c r.code r.text r.n r.list
theorem checkCl_c (c : Cal) : PCall Tryz.prog G 24 [.agg c.c] (iV (checkCl c)) := checkCall_c c.client c.seq c.cmd.kind c.cmd.key c.cmd.field c.cmd.text c.cmd.n
def tstC (next now : Int) (p : Option Cli) (x : Cli) : Bool := decide (x.id < 1) || decide (next ≤ x.id) || (match p with | some p => decide (x.id ≤ p.id) | none => false) || decide (x.seq < 0) || decide (1048576 < x.seq) || decide (x.time < 0) || decide (now < x.time) || (checkR x.reply != 0)
def chkC (next now : Int) : Option Cli → List Cli → Int
  | _, [] => 0
  | p, x :: r => if tstC next now p x = true then 13 else chkC next now (some x) r
theorem tstC_eq (next now : Int) (p : Option Cli) (x : Cli) : tstC next now p x = (badC next now x || (match p with | some p => !decide (cI p x < 0) | none => false)) := by
  unfold tstC badC cI
  cases p with
  | none => simp
  | some p =>
    have : decide (x.id ≤ p.id) = !decide (p.id - x.id < 0) := by
      by_cases h : x.id ≤ p.id
      · have h2 : ¬ p.id - x.id < 0 := by omega
        simp [h, h2]
      · have h2 : p.id - x.id < 0 := by omega
        simp [h, h2]
    simp only [this]
    generalize (!decide (p.id - x.id < 0)) = b
    cases b <;> simp
theorem chkC_eq (next now : Int) : ∀ (l : List Cli) (p : Option Cli), chkC next now p l = if l.any (badC next now) = true then 13 else if rising cI ((match p with | some p => [p] | none => []) ++ l) = true then 0 else 13
  | [], p => by cases p <;> rfl
  | x :: r, p => by
    have ih := chkC_eq next now r (some x)
    unfold chkC
    rw [ih, tstC_eq]
    cases p with
    | none =>
      obtain ⟨b, hb⟩ : ∃ b, badC next now x = b := ⟨_, rfl⟩
      rw [List.any_cons, hb]
      cases b <;> simp
    | some p =>
      have hr : rising cI ([p] ++ x :: r) = (decide (cI p x < 0) && rising cI (x :: r)) := rfl
      obtain ⟨b, hb⟩ : ∃ b, badC next now x = b := ⟨_, rfl⟩
      obtain ⟨d, hd⟩ : ∃ d, decide (cI p x < 0) = d := ⟨_, rfl⟩
      simp only [List.any_cons, hr, hb, hd]
      cases b <;> cases d <;> simp
def prevC (l : List Cli) (i : Nat) : Option Cli := if i = 0 then none else l[i - 1]?
theorem chkC_drop (next now : Int) {l : List Cli} {i : Nat} {x : Cli} (h : l[i]? = some x) : chkC next now (prevC l i) (l.drop i) = if tstC next now (prevC l i) x = true then 13 else chkC next now (prevC l (i + 1)) (l.drop (i + 1)) := by
  have hl := (List.getElem?_eq_some_iff.1 h).1
  have hx := (List.getElem?_eq_some_iff.1 h).2
  rw [List.drop_eq_getElem_cons hl, hx]
  have hp : prevC l (i + 1) = some x := by unfold prevC; simpa using h
  rw [hp]
  rfl
theorem checkM_chk (m : Mach) : checkM m = if checkS m.sto ≠ 0 ∨ m.next < 1 ∨ 1048577 < m.next ∨ 4 < m.clis.length then 13 else chkC m.next m.sto.now none m.clis := by
  unfold checkM
  rw [chkC_eq]
  rfl
theorem checkM_c (m : Mach) (hs : m.sto.Small) (hl : m.clis.length ≤ 1000000) : PCall Tryz.prog G 14 [.agg m.c] (iV (checkM m)) := by
  have hcs := checkS_c (G := G) m.sto hs
  rw [checkM_chk]
  obtain ⟨V, hV⟩ : ∃ V, checkS m.sto = V := ⟨_, rfl⟩
  rw [hV] at hcs ⊢
  obtain ⟨⟨now, ents⟩, next, l⟩ := m
  simp only at hl
  simp only [Mach.c, Sto.c] at hcs ⊢
  by_cases hb : V ≠ 0 ∨ next < 1 ∨ 1048577 < next ∨ 4 < l.length
  · rw [if_pos hb]
    by_cases b0 : V ≠ 0
    · have q0 : (V != 0) = true := by simpa using b0
      refine pcallc mixed Tryz.func14 ac_client_Check ?_
      repeat' (first | (with_reducible first | refine Cn (fun h => ?_) fun h => ?_ | refine And.intro ?_ ?_ | refine wR ?_ | exact wr _ _ | refine wa ?_ | apply awp_join | refine q hcs ?_ | refine qd hcs ?_ | refine qz hcs ?_) | (with_reducible refine CallZ.z ?_) | simp -dsimp [go_sem, q0])
    · have q0 : (V != 0) = false := by simpa using b0
      by_cases b1 : next < 1
      · have q1 : decide (next < 1) = true := by simpa using b1
        refine pcallc mixed Tryz.func14 ac_client_Check ?_
        repeat' (first | (with_reducible first | refine Cn (fun h => ?_) fun h => ?_ | refine And.intro ?_ ?_ | refine wR ?_ | exact wr _ _ | refine wa ?_ | apply awp_join | refine q hcs ?_ | refine qd hcs ?_ | refine qz hcs ?_) | (with_reducible refine CallZ.z ?_) | simp -dsimp [go_sem, q0, q1])
      · have q1 : decide (next < 1) = false := by simpa using b1
        by_cases b2 : 1048577 < next
        · have q2 : decide (1048577 < next) = true := by simpa using b2
          refine pcallc mixed Tryz.func14 ac_client_Check ?_
          repeat' (first | (with_reducible first | refine Cn (fun h => ?_) fun h => ?_ | refine And.intro ?_ ?_ | refine wR ?_ | exact wr _ _ | refine wa ?_ | apply awp_join | refine q hcs ?_ | refine qd hcs ?_ | refine qz hcs ?_) | (with_reducible refine CallZ.z ?_) | simp -dsimp [go_sem, q0, q1, q2])
        · have q2 : decide (1048577 < next) = false := by simpa using b2
          have q3 : decide (4 < (l.length : Int)) = true := by simp; omega
          refine pcallc mixed Tryz.func14 ac_client_Check ?_
          repeat' (first | (with_reducible first | refine Cn (fun h => ?_) fun h => ?_ | refine And.intro ?_ ?_ | refine wR ?_ | exact wr _ _ | refine wa ?_ | apply awp_join | refine q hcs ?_ | refine qd hcs ?_ | refine qz hcs ?_) | (with_reducible refine CallZ.z ?_) | simp -dsimp [go_sem, q0, q1, q2, q3])
  · rw [if_neg hb]
    simp only [not_or, Classical.not_not] at hb
    have q0 : (V != 0) = false := by simpa using hb.1
    have q1 : decide (next < 1) = false := by simp; omega
    have q2 : decide (1048577 < next) = false := by simp; omega
    have q3 : decide (4 < (l.length : Int)) = false := by simp; omega
    refine pcallc mixed Tryz.func14 ac_client_Check ?_
    repeat' (first | (with_reducible first | refine Cn (fun h => ?_) fun h => ?_ | refine And.intro ?_ ?_ | refine wR ?_ | exact wr _ _ | refine wa ?_ | apply awp_join | refine q hcs ?_ | refine qd hcs ?_ | refine qz hcs ?_) | (with_reducible refine CallZ.z ?_) | simp -dsimp [go_sem, q0, q1, q2, q3])
    refine awp_loop (fun i : Nat => ⟨[(1, .one (.ptr 0 0)), (26, .one (.v (.sl (clR l)))), (27, iV l.length), (28, iV i)], G, [some (.box 32 [iC now, .v (.sl (eR ents)), iC next, .v (.sl (clR l))])]⟩) (fun i => i ≤ l.length ∧ chkC next now none l = chkC next now (prevC l i) (l.drop i)) (fun i => l.length - i) 0 (weak_auto ?_) ⟨Nat.zero_le _, rfl⟩ ?_
    · simp -dsimp [go_sem]
    · rintro i ⟨hi, hx⟩
      rw [hx]
      by_cases hlt : i < l.length
      · obtain ⟨x, he⟩ : ∃ x, l[i]? = some x := ⟨_, List.getElem?_eq_getElem hlt⟩
        have e4 : IntKind.i64.wrap ((i : Int) + 1) = (i : Int) + 1 := IntWalk.i64_in _ (by omega)
        have q4 : decide (i < l.length) = true := by simpa using hlt
        have hcr := checkR_c (G := G) x.reply
        rw [chkC_drop next now he]
        obtain ⟨T, hT⟩ : ∃ T, tstC next now (prevC l i) x = T := ⟨_, rfl⟩
        have hT' := hT
        unfold tstC at hT'
        obtain ⟨N, hN⟩ : ∃ N, chkC next now (prevC l (i + 1)) (l.drop (i + 1)) = N := ⟨_, rfl⟩
        rw [hT, hN]
        clear hT
        obtain ⟨R, hR⟩ : ∃ R, checkR x.reply = R := ⟨_, rfl⟩
        rw [hR] at hcr hT'
        obtain ⟨id, seq, time, ⟨rc, rt, rn, rl⟩⟩ := x
        simp only [Rep.c] at hcr
        simp only at hT'
        have hag : i + 1 ≤ l.length ∧ N = chkC next now (prevC l (i + 1)) (l.drop (i + 1)) := ⟨hlt, hN.symm⟩
        by_cases h0 : i = 0
        · have q5 : decide (0 < i) = false := by simp; omega
          have hp : prevC l i = none := by unfold prevC; rw [if_pos h0]
          rw [hp] at hT'
          simp only at hT'
          repeat' (first | (with_reducible first | refine Cn (fun h => ?_) fun h => ?_ | refine And.intro ?_ ?_ | refine wR ?_ | exact wr _ _ | refine wa ?_ | apply awp_join | refine q hcr ?_ | refine qd hcr ?_ | refine qz hcr ?_) | (with_reducible refine CallZ.z ?_) | simp -dsimp [go_sem, he, Cli.row, e4, q4, q5])
          all_goals first
            | omega
            | (have hTt : T = true := by (rw [← hT']; simp [*])
               simp [hTt]; done)
            | (have hTf : T = false := by (rw [← hT']; simp [*])
               rw [hTf]
               refine Again.auto (i + 1) ?_ ?_ ?_
               · simp -dsimp [go_sem]
               · exact hag
               · show l.length - (i + 1) < l.length - i; omega)
            | trace_state
        · have q5 : decide (0 < i) = true := by simp; omega
          obtain ⟨j, hj⟩ : ∃ j, i = j + 1 := ⟨i - 1, by omega⟩
          obtain ⟨p, hpj⟩ : ∃ p, l[j]? = some p := ⟨_, List.getElem?_eq_getElem (by omega)⟩
          have hp : prevC l i = some p := by unfold prevC; rw [if_neg h0, hj]; simpa using hpj
          rw [hp] at hT'
          have e5 : IntKind.i64.wrap ((i : Int) - 1) = (j : Int) := by rw [IntWalk.i64_in _ (by omega)]; omega
          obtain ⟨pid, pseq, ptime, ⟨pc, pt, pn, pl⟩⟩ := p
          simp only at hT'
          repeat' (first | (with_reducible first | refine Cn (fun h => ?_) fun h => ?_ | refine And.intro ?_ ?_ | refine wR ?_ | exact wr _ _ | refine wa ?_ | apply awp_join | refine q hcr ?_ | refine qd hcr ?_ | refine qz hcr ?_) | (with_reducible refine CallZ.z ?_) | simp -dsimp [go_sem, he, hpj, Cli.row, e4, e5, q4, q5])
          all_goals first
            | omega
            | (have hTt : T = true := by (rw [← hT']; simp [*])
               simp [hTt]; done)
            | (have hTf : T = false := by (rw [← hT']; simp [*])
               rw [hTf]
               refine Again.auto (i + 1) ?_ ?_ ?_
               · simp -dsimp [go_sem]
               · exact hag
               · show l.length - (i + 1) < l.length - i; omega)
            | trace_state
      · have hn : l.drop i = [] := List.drop_eq_nil_of_le (by omega)
        have q4 : decide (i < l.length) = false := by simpa using hlt
        rw [hn]
        unfold chkC
        repeat' (first | (with_reducible first | refine Cn (fun h => ?_) fun h => ?_ | refine And.intro ?_ ?_ | refine wR ?_ | exact wr _ _ | refine wa ?_ | apply awp_join) | (with_reducible refine CallZ.z ?_) | simp -dsimp [go_sem, q4])
/-! ### copies -/
theorem ownReply_c (r : Rep) (hr : r.list.length ≤ 1000000) : PCall Tryz.prog G 29 [.agg r.c] (.agg r.c) := by
  obtain ⟨rc, rt, rn, rl⟩ := r
  simp only at hr
  have c1 := clone_string (G := G) (strRows rl) (ul_str rl) (by simpa using hr)
  simp only [Rep.c]
  refine pcallc mixed Tryz.func29 ac_client_ownReply ?_
  repeat' (first | (with_reducible first | refine Cn (fun h => ?_) fun h => ?_ | refine And.intro ?_ ?_ | refine wR ?_ | exact wr _ _ | refine wa ?_ | apply awp_join | refine q c1 ?_ | refine qd c1 ?_ | refine qz c1 ?_) | (with_reducible refine CallZ.z ?_) | simp -dsimp [go_sem])
  all_goals trace_state
def accC (l : List Cli) (i : Nat) : List (List V) := clR (l.take i)
theorem accC_zero (l : List Cli) : accC l 0 = [] := rfl
theorem accC_all (l : List Cli) {i : Nat} (h : l.length ≤ i) : accC l i = clR l := by unfold accC; rw [List.take_of_length_le h]
theorem accC_len (l : List Cli) {i : Nat} (h : i ≤ l.length) : (accC l i).length = i := by unfold accC; simp; omega
theorem accC_succ {l : List Cli} {i : Nat} {x : Cli} (h : l[i]? = some x) : accC l (i + 1) = accC l i ++ [x.row] := by
  unfold accC
  rw [List.take_add_one, h, Option.toList_some]
  simp
theorem ownClients_c (l : List Cli) (hl : l.length ≤ 1000) (hr : ∀ x ∈ l, x.reply.list.length ≤ 1000) : DetCall Tryz.prog G 25 0 [] [.one (.v (.sl (clR l)))] (.one (.ar 0)) [some (.arr 54 7 (clR l))] := by
  refine gcallc mixed Tryz.func25 ac_client_ownClients ?_
  repeat' (first | (with_reducible first | refine Cn (fun h => ?_) fun h => ?_ | refine And.intro ?_ ?_ | refine wR ?_ | exact wr _ _ | refine wa ?_ | apply awp_join) | (with_reducible refine CallZ.z ?_) | simp -dsimp [go_sem])
  refine awp_loop (fun i : Nat => ⟨[(3, .one (.ar 0)), (6, .one (.v (.sl (clR l)))), (7, iV l.length), (8, iV i)], G, [some (.arr 54 7 (accC l i))]⟩) (fun i => i ≤ l.length) (fun i => l.length - i) 0 (Weak.trans (weak_nil 3 54 7 ?_ (by omega)) (weak_auto ?_)) (Nat.zero_le _) ?_
  · simp -dsimp [go_sem]
  · simp -dsimp [go_sem, accC_zero]
  · intro i hi
    by_cases hlt : i < l.length
    · obtain ⟨x, he⟩ : ∃ x, l[i]? = some x := ⟨_, List.getElem?_eq_getElem hlt⟩
      have e4 : IntKind.i64.wrap ((i : Int) + 1) = (i : Int) + 1 := IntWalk.i64_in _ (by omega)
      have q1 : decide (i < l.length) = true := by simpa using hlt
      have hsu := accC_succ he
      have how := ownReply_c (G := G) x.reply (by have := hr x (List.mem_of_getElem? he); omega)
      have hlen := accC_len l hi
      obtain ⟨id, seq, time, ⟨rc, rt, rn, rl⟩⟩ := x
      simp only [Rep.c, Cli.row] at how hsu
      have hul1 : UL 7 [[V.lit (.int .i64 id), V.lit (.int .i64 seq), V.lit (.int .i64 time), V.lit (.int .i64 rc), V.lit (.string rt), V.lit (.int .i64 rn), V.sl (strRows rl)]] := fun r hr => by simp at hr; subst hr; rfl
      repeat' (first | (with_reducible first | refine Cn (fun h => ?_) fun h => ?_ | refine And.intro ?_ ?_ | refine wR ?_ | exact wr _ _ | refine wa ?_ | apply awp_join | refine q how ?_ | refine qd how ?_ | refine qz how ?_) | (with_reducible refine CallZ.z ?_) | simp -dsimp [go_sem, he, Cli.row, e4, q1, hlen])
      all_goals first
        | omega
        | exact hul1
        | (refine Again.auto (i + 1) ?_ ?_ ?_
           · simp -dsimp [go_sem, hsu]
           · exact hlt
           · show l.length - (i + 1) < l.length - i; omega)
        | trace_state
    · have q1 : decide (i < l.length) = false := by simpa using hlt
      have hn := accC_all l (i := i) (by omega)
      rw [hn]
      repeat' (first | (with_reducible first | refine Cn (fun h => ?_) fun h => ?_ | refine And.intro ?_ ?_ | refine wR ?_ | exact wr _ _ | refine wa ?_ | apply awp_join) | (with_reducible refine CallZ.z ?_) | simp -dsimp [go_sem, q1])
      all_goals trace_state
abbrev mHp (now : Int) (ents : List (List V)) (next : Int) (rows : List (List V)) : Hp := [some (.box 32 [iC now, .v (.sl ents), iC next, .ar 1]), some (.arr 54 7 rows)]
theorem oldest_step {all : List Cli} {old i : Nat} {x y : Cli} (h : all[i]? = some x) (hy : all[old]? = some y) : oldest all old i (all.drop i) = oldest all (if x.time < y.time then i else old) (i + 1) (all.drop (i + 1)) := by
  have hl := (List.getElem?_eq_some_iff.1 h).1
  have hx := (List.getElem?_eq_some_iff.1 h).2
  rw [List.drop_eq_getElem_cons hl, hx]
  conv => lhs; unfold oldest
  rw [hy]
theorem open_c (m : Mach) (h : OkM m) : DetCall Tryz.prog G 26 1 (mHp m.sto.now (eR m.sto.ents) m.next (clR m.clis)) [.one (.ptr 0 0)] (.agg (openM m).2.c) (mHp (openM m).1.sto.now (eR (openM m).1.sto.ents) (openM m).1.next (clR (openM m).1.clis)) := by
  have h1 := h.next
  have h2 := h.len
  clear h
  unfold openM
  obtain ⟨⟨now, ents⟩, next, l⟩ := m
  simp only at h1 h2 ⊢
  by_cases hn : 1048576 < next
  · have q0 : decide (1048576 < next) = true := by simpa using hn
    rw [if_pos hn]
    simp only [failR, Rep.c, List.map_nil]
    refine gcallc mixed Tryz.func26 ac_client_open ?_
    repeat' (first | (with_reducible first | refine Cn (fun h => ?_) fun h => ?_ | refine And.intro ?_ ?_ | refine wR ?_ | exact wr _ _ | refine wa ?_ | apply awp_join) | (with_reducible refine CallZ.z ?_) | simp -dsimp [go_sem, q0])
    all_goals trace_state
  · have q0 : decide (1048576 < next) = false := by simpa using hn
    rw [if_neg hn]
    have w1 : IntKind.i64.wrap (next + 1) = next + 1 := IntWalk.i64_in _ (by omega)
    have w2 : IntKind.i64.wrap next = next := IntWalk.i64_in _ (by omega)
    simp only [toldR, Rep.c, List.map_nil]
    by_cases h4 : l.length = 4
    · have q1 : ((l.length : Int) == 4) = true := by rw [beq_iff_eq]; omega
      rw [if_pos h4]
      have hlt := oldest_lt l l 0 0 (by omega) (by omega)
      have hd := delete_api_Client (G := G) (clR l) (oldest l 0 0 l) (by simpa using hlt) (by simp; omega)
      have hmd : delAt (clR l) (oldest l 0 0 l) = clR (delAt l (oldest l 0 0 l)) := by unfold delAt; simp
      rw [hmd] at hd
      have hdl : (clR (delAt l (oldest l 0 0 l))).length = 3 := by rw [List.length_map]; have := delE_len hlt; omega
      obtain ⟨O, hO⟩ : ∃ O, oldest l 0 0 l = O := ⟨_, rfl⟩
      rw [hO] at hd hlt hdl ⊢
      have w3 : IntKind.i64.wrap ((O : Int) + 1) = (O : Int) + 1 := IntWalk.i64_in _ (by omega)
      have hma : clR (delAt l O ++ [⟨next, 0, now, ⟨0, ⟨#[]⟩, 0, []⟩⟩]) = clR (delAt l O) ++ [Cli.row ⟨next, 0, now, ⟨0, ⟨#[]⟩, 0, []⟩⟩] := by simp
      rw [hma]
      obtain ⟨D, hD⟩ : ∃ D, clR (delAt l O) = D := ⟨_, rfl⟩
      rw [hD] at hd hdl ⊢
      refine gcallc mixed Tryz.func26 ac_client_open ?_
      repeat' (first | (with_reducible first | refine Cn (fun h => ?_) fun h => ?_ | refine And.intro ?_ ?_ | refine wR ?_ | exact wr _ _ | refine wa ?_ | apply awp_join) | (with_reducible refine CallZ.z ?_) | simp -dsimp [go_sem, q0, q1])
      refine awp_loop (fun q : Nat × Nat => ⟨[(0, .one (.ptr 0 0)), (2, .one (.ptr 2 0)), (3, iV q.2), (21, .one (.ar 1)), (22, iV l.length), (23, iV q.1)], G, mHp now (eR ents) next (clR l) ++ [some (.box 37 [iC 0, sC ⟨#[]⟩, iC 0, .nil])]⟩) (fun q => q.1 ≤ l.length ∧ q.2 < l.length ∧ O = oldest l q.2 q.1 (l.drop q.1)) (fun q => l.length - q.1) (0, 0) (weak_auto ?_) ⟨Nat.zero_le _, by show 0 < l.length; omega, hO.symm⟩ ?_
      · simp -dsimp [go_sem]
      · rintro ⟨i, old⟩ ⟨b1, b2, b3⟩
        simp only at b1 b2 b3
        by_cases hil : i < l.length
        · obtain ⟨x, hx⟩ : ∃ x, l[i]? = some x := ⟨_, List.getElem?_eq_getElem hil⟩
          obtain ⟨y, hy⟩ : ∃ y, l[old]? = some y := ⟨_, List.getElem?_eq_getElem b2⟩
          have e4 : IntKind.i64.wrap ((i : Int) + 1) = (i : Int) + 1 := IntWalk.i64_in _ (by omega)
          have q2 : decide (i < l.length) = true := by simpa using hil
          rw [oldest_step hx hy] at b3
          obtain ⟨xi, xs, xt, ⟨xc, xx, xn, xl⟩⟩ := x
          obtain ⟨yi, ys, yt, ⟨yc, yx, yn, yl⟩⟩ := y
          simp only at b3
          by_cases hc : xt < yt
          · rw [if_pos hc] at b3
            have q3 : decide (xt < yt) = true := by simpa using hc
            repeat' (first | (with_reducible first | refine Cn (fun h => ?_) fun h => ?_ | refine And.intro ?_ ?_ | refine wR ?_ | exact wr _ _ | refine wa ?_ | apply awp_join) | (with_reducible refine CallZ.z ?_) | simp -dsimp [go_sem, hx, hy, Cli.row, e4, q2, q3])
            all_goals first
              | omega
              | (refine Again.auto (i + 1, i) ?_ ⟨hil, hil, b3⟩ ?_
                 · simp -dsimp [go_sem]
                 · show l.length - (i + 1) < l.length - i; omega)
              | trace_state
          · rw [if_neg hc] at b3
            have q3 : decide (xt < yt) = false := by simpa using hc
            repeat' (first | (with_reducible first | refine Cn (fun h => ?_) fun h => ?_ | refine And.intro ?_ ?_ | refine wR ?_ | exact wr _ _ | refine wa ?_ | apply awp_join) | (with_reducible refine CallZ.z ?_) | simp -dsimp [go_sem, hx, hy, Cli.row, e4, q2, q3])
            all_goals first
              | omega
              | (refine Again.auto (i + 1, old) ?_ ⟨hil, b2, b3⟩ ?_
                 · simp -dsimp [go_sem]
                 · show l.length - (i + 1) < l.length - i; omega)
              | trace_state
        · have q2 : decide (i < l.length) = false := by simpa using hil
          have hn2 : l.drop i = [] := List.drop_eq_nil_of_le (by omega)
          rw [hn2] at b3
          simp only [oldest] at b3
          subst b3
          have hul : UL 7 [Cli.row ⟨next, 0, now, ⟨0, ⟨#[]⟩, 0, []⟩⟩] := fun r hr => by simp at hr; subst hr; rfl
          simp only [Cli.row, List.map_nil] at hul ⊢
          repeat' (first | (with_reducible first | refine Cn (fun h => ?_) fun h => ?_ | refine And.intro ?_ ?_ | refine wR ?_ | exact wr _ _ | refine wa ?_ | apply awp_join | refine qg hd ?_ | refine qgd hd ?_) | (with_reducible refine CallZ.z ?_) | simp -dsimp [go_sem, q2, w1, w2, w3, hdl])
          all_goals first | omega | exact hul | trace_state
    · have q1 : ((l.length : Int) == 4) = false := by rw [beq_eq_false_iff_ne]; omega
      rw [if_neg h4]
      have hma : clR (l ++ [⟨next, 0, now, ⟨0, ⟨#[]⟩, 0, []⟩⟩]) = clR l ++ [Cli.row ⟨next, 0, now, ⟨0, ⟨#[]⟩, 0, []⟩⟩] := by simp
      rw [hma]
      have hul : UL 7 [Cli.row ⟨next, 0, now, ⟨0, ⟨#[]⟩, 0, []⟩⟩] := fun r hr => by simp at hr; subst hr; rfl
      have hdl : (clR l).length = l.length := by simp
      obtain ⟨D, hD⟩ : ∃ D, clR l = D := ⟨_, rfl⟩
      rw [hD] at hdl ⊢
      have q1' : ((D.length : Int) == 4) = false := by rw [hdl]; exact q1
      simp only [Cli.row, List.map_nil] at hul ⊢
      refine gcallc mixed Tryz.func26 ac_client_open ?_
      repeat' (first | (with_reducible first | refine Cn (fun h => ?_) fun h => ?_ | refine And.intro ?_ ?_ | refine wR ?_ | exact wr _ _ | refine wa ?_ | apply awp_join) | (with_reducible refine CallZ.z ?_) | simp -dsimp [go_sem, q0, q1, w1, w2, hdl])
      all_goals first | omega | exact hul | trace_state
def Cli.cs (x : Cli) : List C := x.c
theorem isId_c (c : Cal) (x : Cli) : DetCall Tryz.prog G 28 1 [some (.box 43 c.c)] [.agg x.c, .one (.ptr 0 0)] (bV (x.id == c.client)) [some (.box 43 c.c)] := by
  obtain ⟨client, seq, ⟨k, key, f, t, n⟩⟩ := c
  obtain ⟨id, sq, time, ⟨rc, rt, rn, rl⟩⟩ := x
  simp only [Cal.c, Cli.c]
  refine gcallc mixed Tryz.func28 ac_client_Do_1 ?_
  repeat' (first | (with_reducible first | refine Cn (fun h => ?_) fun h => ?_ | refine And.intro ?_ ?_ | refine wR ?_ | exact wr _ _ | refine wa ?_ | apply awp_join) | (with_reducible refine CallZ.z ?_) | simp -dsimp [go_sem])
  all_goals trace_state
theorem firstI_step {α : Type} (p : α → Bool) {l : List α} {i : Nat} {a : α} (h : l[i]? = some a) : firstI p i (l.drop i) = if p a then (i : Int) else firstI p (i + 1) (l.drop (i + 1)) := by
  have hl := (List.getElem?_eq_some_iff.1 h).1
  have hx := (List.getElem?_eq_some_iff.1 h).2
  rw [List.drop_eq_getElem_cons hl, hx]
  rfl
theorem indexC_c (c : Cal) (l : List Cli) (hl : l.length ≤ 1000) :
    DetCall Tryz.prog G 27 2 [some (.arr 54 7 (clR l)), some (.box 43 c.c)] [.one (.ar 0), .fn 28 [] [.ptr 1 0]] (iV (findC l c.client)) [some (.arr 54 7 (clR l)), some (.box 43 c.c)] := by
  have hen := en28
  unfold findC
  have his := isId_c (G := G) c
  obtain ⟨cid, seq, ⟨k, key, f, t, n⟩⟩ := c
  simp only [Cal.c] at his ⊢
  refine gcallc mixed Tryz.func27 ac_slices_IndexFunc_api_Client ?_
  repeat' (first | (with_reducible first | refine Cn (fun h => ?_) fun h => ?_ | refine And.intro ?_ ?_ | refine wR ?_ | exact wr _ _ | refine wa ?_ | apply awp_join) | (with_reducible refine CallZ.z ?_) | simp -dsimp [go_sem])
  refine awp_loop (fun i : Nat => ⟨[(0, .one (.ar 0)), (1, .fn 28 [] [.ptr 1 0]), (7, iV l.length), (8, iV i)], G, [some (.arr 54 7 (clR l)), some (.box 43 [iC cid, iC seq, iC k, sC key, sC f, sC t, iC n])]⟩) (fun i => i ≤ l.length ∧ firstI (fun x : Cli => x.id == cid) 0 l = firstI (fun x : Cli => x.id == cid) i (l.drop i)) (fun i => l.length - i) 0 (weak_auto ?_) ⟨Nat.zero_le _, rfl⟩ ?_
  · simp -dsimp [go_sem]
  · rintro i ⟨hi, hx⟩
    rw [hx]
    by_cases hlt : i < l.length
    · obtain ⟨x, he⟩ : ∃ x, l[i]? = some x := ⟨_, List.getElem?_eq_getElem hlt⟩
      have e4 : IntKind.i64.wrap ((i : Int) + 1) = (i : Int) + 1 := IntWalk.i64_in _ (by omega)
      have q1 : decide (i < l.length) = true := by simpa using hlt
      have hx1 := his x
      rw [firstI_step _ he]
      obtain ⟨id, sq, time, ⟨rc, rt, rn, rl⟩⟩ := x
      simp only [Cli.c] at hx1 ⊢
      cases hb : (id == cid) with
      | true =>
        rw [hb] at hx1
        simp only [if_true]
        repeat' (first | (with_reducible first | refine Cn (fun h => ?_) fun h => ?_ | refine And.intro ?_ ?_ | refine wR ?_ | exact wr _ _ | refine wa ?_ | apply awp_join | refine qg hx1 ?_ | refine qgd hx1 ?_) | (with_reducible refine CallZ.z ?_) | simp -dsimp [go_sem, he, Cli.row, e4, q1, hen])
        all_goals first | omega | trace_state
      | false =>
        rw [hb] at hx1
        simp only [Bool.false_eq_true, if_false]
        repeat' (first | (with_reducible first | refine Cn (fun h => ?_) fun h => ?_ | refine And.intro ?_ ?_ | refine wR ?_ | exact wr _ _ | refine wa ?_ | apply awp_join | refine qg hx1 ?_ | refine qgd hx1 ?_) | (with_reducible refine CallZ.z ?_) | simp -dsimp [go_sem, he, Cli.row, e4, q1, hen])
        all_goals first
          | omega
          | (refine Again.auto (i + 1) ?_ ⟨hlt, rfl⟩ ?_
             · simp -dsimp [go_sem]
             · show l.length - (i + 1) < l.length - i; omega)
          | trace_state
    · have q1 : decide (i < l.length) = false := by simpa using hlt
      have hn : l.drop i = [] := List.drop_eq_nil_of_le (by omega)
      rw [hn]
      unfold firstI
      repeat' (first | (with_reducible first | refine Cn (fun h => ?_) fun h => ?_ | refine And.intro ?_ ?_ | refine wR ?_ | exact wr _ _ | refine wa ?_ | apply awp_join) | (with_reducible refine CallZ.z ?_) | simp -dsimp [go_sem, q1])
      all_goals trace_state
end Go.Proofs.YtmaiphnabebplaaGreatDoor
