/- Texts joined. -/
import Derived.Test.YtpdcfljbabpakaaGreatDoorSk9
import Derived.Test.YtpdcfljbabpakaaGreatDoorSk10
import Derived.Test.YtpdcfljbabpakaaGreatDoorSk8
import Derived.Test.YtpdcfljbabpakaaGreatDoorRows
import Derived.ProofKit
import Derived.LaidMore
import Derived.OpenShut
set_option linter.unusedVariables false
set_option linter.unusedSimpArgs false
set_option maxRecDepth 100000
set_option maxHeartbeats 8000000
namespace Go.Proofs.YtpdcfljbabpakaaGreatDoor
open Go Go.RowKit Go.Proofs.AE
variable {G : Nat → AV}
theorem ownReply_c (r : Rep) (hr : r.list.length ≤ 1000000) : PCall Tryz.prog G 86 [.agg r.c] (.agg r.c) := by
  obtain ⟨rc, rt, rn, rl⟩ := r
  simp only at hr
  have c1 := clone_string (G := G) (strRows rl) (ul_str rl) (by simpa using hr)
  simp only [Rep.c]
  refine pcallc mixed Tryz.func86 ac_client_ownReply ?_
  repeat' (first | (with_reducible first | refine Cn (fun h => ?_) fun h => ?_ | refine And.intro ?_ ?_ | refine wR ?_ | exact wr _ _ | refine wa ?_ | apply awp_join | refine q c1 ?_ | refine qd c1 ?_ | refine qz c1 ?_) | (with_reducible refine CallZ.z ?_) | simp -dsimp [go_sem])
  all_goals trace_state
def accC (l : List Cli) (i : Nat) : List (List V) := clR (l.take i)
theorem accC_zero (l : List Cli) : accC l 0 = [] := rfl
theorem accC_all (l : List Cli) {i : Nat} (h : l.length ≤ i) : accC l i = clR l := by unfold accC; rw [List.take_of_length_le h]
theorem accC_len (l : List Cli) {i : Nat} (h : i ≤ l.length) : (accC l i).length = i := by unfold accC; simp; omega
theorem accC_succ {l : List Cli} {i : Nat} {x : Cli} (h : l[i]? = some x) : accC l (i + 1) = accC l i ++ [x.row] := by
  unfold accC
  rw [List.take_add_one, h, Option.toList_some]
  simp
theorem ownClients_c (l : List Cli) (hl : l.length ≤ 1000) (hr : ∀ x ∈ l, x.reply.list.length ≤ 1000) : DetCall Tryz.prog G 81 0 [] [.one (.v (.sl (clR l)))] (.one (.ar 0)) [some (.arr 123 7 (clR l))] := by
  refine gcallc mixed Tryz.func81 ac_client_ownClients ?_
  repeat' (first | (with_reducible first | refine Cn (fun h => ?_) fun h => ?_ | refine And.intro ?_ ?_ | refine wR ?_ | exact wr _ _ | refine wa ?_ | apply awp_join) | (with_reducible refine CallZ.z ?_) | simp -dsimp [go_sem])
  refine awp_loop (fun i : Nat => ⟨[(3, .one (.ar 0)), (6, .one (.v (.sl (clR l)))), (7, iV l.length), (8, iV i)], G, [some (.arr 123 7 (accC l i))]⟩) (fun i => i ≤ l.length) (fun i => l.length - i) 0 (Weak.trans (weak_nil 3 123 7 ?_ (by omega)) (weak_auto ?_)) (Nat.zero_le _) ?_
  · simp -dsimp [go_sem]
  · simp -dsimp [go_sem, accC_zero]
  · intro i hi
    by_cases hlt : i < l.length
    · obtain ⟨x, he⟩ : ∃ x, l[i]? = some x := ⟨_, List.getElem?_eq_getElem hlt⟩
      have e4 : IntKind.i64.wrap ((i : Int) + 1) = (i : Int) + 1 := IntWalk.i64_in _ (by omega)
      have q1 : decide (i < l.length) = true := by simpa using hlt
      have hsu := accC_succ he
      have how := ownReply_c (G := G) x.reply (by have := hr x (List.mem_of_getElem? he); omega)
      have hlen := accC_len l hi
      obtain ⟨id, seq, time, ⟨rc, rt, rn, rl⟩⟩ := x
      simp only [Rep.c, Cli.row] at how hsu
      have hul1 : UL 7 [[V.lit (.int .i64 id), V.lit (.int .i64 seq), V.lit (.int .i64 time), V.lit (.int .i64 rc), V.lit (.string rt), V.lit (.int .i64 rn), V.sl (strRows rl)]] := fun r hr => by simp at hr; subst hr; rfl
      repeat' (first | (with_reducible first | refine Cn (fun h => ?_) fun h => ?_ | refine And.intro ?_ ?_ | refine wR ?_ | exact wr _ _ | refine wa ?_ | apply awp_join | refine q how ?_ | refine qd how ?_ | refine qz how ?_) | (with_reducible refine CallZ.z ?_) | simp -dsimp [go_sem, he, Cli.row, e4, q1, hlen])
      all_goals first
        | omega
        | exact hul1
        | (refine Again.auto (i + 1) ?_ ?_ ?_
           · simp -dsimp [go_sem, hsu]
           · exact hlt
           · show l.length - (i + 1) < l.length - i; omega)
        | trace_state
    · have q1 : decide (i < l.length) = false := by simpa using hlt
      have hn := accC_all l (i := i) (by omega)
      rw [hn]
      repeat' (first | (with_reducible first | refine Cn (fun h => ?_) fun h => ?_ | refine And.intro ?_ ?_ | refine wR ?_ | exact wr _ _ | refine wa ?_ | apply awp_join) | (with_reducible refine CallZ.z ?_) | simp -dsimp [go_sem, q1])
      all_goals trace_state
abbrev mHp (now : Int) (ents : List (List V)) (next : Int) (rows : List (List V)) : Hp := [some (.box 28 [iC now, .v (.sl ents), iC next, .ar 1]), some (.arr 123 7 rows)]
theorem oldest_step {all : List Cli} {old i : Nat} {x y : Cli} (h : all[i]? = some x) (hy : all[old]? = some y) : oldest all old i (all.drop i) = oldest all (if x.time < y.time then i else old) (i + 1) (all.drop (i + 1)) := by
  have hl := (List.getElem?_eq_some_iff.1 h).1
  have hx := (List.getElem?_eq_some_iff.1 h).2
  rw [List.drop_eq_getElem_cons hl, hx]
  conv => lhs; unfold oldest
  rw [hy]
theorem open_c (m : Mach) (h : OkM m) : DetCall Tryz.prog G 83 1 (mHp m.sto.now (eR m.sto.ents) m.next (clR m.clis)) [.one (.ptr 0 0)] (.agg (openM m).2.c) (mHp (openM m).1.sto.now (eR (openM m).1.sto.ents) (openM m).1.next (clR (openM m).1.clis)) := by
  have h1 := h.next
  have h2 := h.len
  clear h
  unfold openM
  obtain ⟨⟨now, ents⟩, next, l⟩ := m
  simp only at h1 h2 ⊢
  by_cases hn : 1048576 < next
  · have q0 : decide (1048576 < next) = true := by simpa using hn
    rw [if_pos hn]
    simp only [failR, Rep.c, List.map_nil]
    refine gcallc mixed Tryz.func83 ac_client_open ?_
    repeat' (first | (with_reducible first | refine Cn (fun h => ?_) fun h => ?_ | refine And.intro ?_ ?_ | refine wR ?_ | exact wr _ _ | refine wa ?_ | apply awp_join) | (with_reducible refine CallZ.z ?_) | simp -dsimp [go_sem, q0])
    all_goals trace_state
  · have q0 : decide (1048576 < next) = false := by simpa using hn
    rw [if_neg hn]
    have w1 : IntKind.i64.wrap (next + 1) = next + 1 := IntWalk.i64_in _ (by omega)
    have w2 : IntKind.i64.wrap next = next := IntWalk.i64_in _ (by omega)
    simp only [toldR, Rep.c, List.map_nil]
    by_cases h4 : l.length = 4
    · have q1 : ((l.length : Int) == 4) = true := by rw [beq_iff_eq]; omega
      rw [if_pos h4]
      have hlt := oldest_lt l l 0 0 (by omega) (by omega)
      have hd := delete_api_Client (G := G) (clR l) (oldest l 0 0 l) (by simpa using hlt) (by simp; omega)
      have hmd : delAt (clR l) (oldest l 0 0 l) = clR (delAt l (oldest l 0 0 l)) := by unfold delAt; simp
      rw [hmd] at hd
      have hdl : (clR (delAt l (oldest l 0 0 l))).length = 3 := by rw [List.length_map]; have := delE_len hlt; omega
      obtain ⟨O, hO⟩ : ∃ O, oldest l 0 0 l = O := ⟨_, rfl⟩
      rw [hO] at hd hlt hdl ⊢
      have w3 : IntKind.i64.wrap ((O : Int) + 1) = (O : Int) + 1 := IntWalk.i64_in _ (by omega)
      have hma : clR (delAt l O ++ [⟨next, 0, now, ⟨0, ⟨#[]⟩, 0, []⟩⟩]) = clR (delAt l O) ++ [Cli.row ⟨next, 0, now, ⟨0, ⟨#[]⟩, 0, []⟩⟩] := by simp
      rw [hma]
      obtain ⟨D, hD⟩ : ∃ D, clR (delAt l O) = D := ⟨_, rfl⟩
      rw [hD] at hd hdl ⊢
      refine gcallc mixed Tryz.func83 ac_client_open ?_
      repeat' (first | (with_reducible first | refine Cn (fun h => ?_) fun h => ?_ | refine And.intro ?_ ?_ | refine wR ?_ | exact wr _ _ | refine wa ?_ | apply awp_join) | (with_reducible refine CallZ.z ?_) | simp -dsimp [go_sem, q0, q1])
      refine awp_loop (fun q : Nat × Nat => ⟨[(0, .one (.ptr 0 0)), (2, .one (.ptr 2 0)), (3, iV q.2), (21, .one (.ar 1)), (22, iV l.length), (23, iV q.1)], G, mHp now (eR ents) next (clR l) ++ [some (.box 106 [iC 0, sC ⟨#[]⟩, iC 0, .nil])]⟩) (fun q => q.1 ≤ l.length ∧ q.2 < l.length ∧ O = oldest l q.2 q.1 (l.drop q.1)) (fun q => l.length - q.1) (0, 0) (weak_auto ?_) ⟨Nat.zero_le _, by show 0 < l.length; omega, hO.symm⟩ ?_
      · simp -dsimp [go_sem]
      · rintro ⟨i, old⟩ ⟨b1, b2, b3⟩
        simp only at b1 b2 b3
        by_cases hil : i < l.length
        · obtain ⟨x, hx⟩ : ∃ x, l[i]? = some x := ⟨_, List.getElem?_eq_getElem hil⟩
          obtain ⟨y, hy⟩ : ∃ y, l[old]? = some y := ⟨_, List.getElem?_eq_getElem b2⟩
          have e4 : IntKind.i64.wrap ((i : Int) + 1) = (i : Int) + 1 := IntWalk.i64_in _ (by omega)
          have q2 : decide (i < l.length) = true := by simpa using hil
          rw [oldest_step hx hy] at b3
          obtain ⟨xi, xs, xt, ⟨xc, xx, xn, xl⟩⟩ := x
          obtain ⟨yi, ys, yt, ⟨yc, yx, yn, yl⟩⟩ := y
          simp only at b3
          by_cases hc : xt < yt
          · rw [if_pos hc] at b3
            have q3 : decide (xt < yt) = true := by simpa using hc
            repeat' (first | (with_reducible first | refine Cn (fun h => ?_) fun h => ?_ | refine And.intro ?_ ?_ | refine wR ?_ | exact wr _ _ | refine wa ?_ | apply awp_join) | (with_reducible refine CallZ.z ?_) | simp -dsimp [go_sem, hx, hy, Cli.row, e4, q2, q3])
            all_goals first
              | omega
              | (refine Again.auto (i + 1, i) ?_ ⟨hil, hil, b3⟩ ?_
                 · simp -dsimp [go_sem]
                 · show l.length - (i + 1) < l.length - i; omega)
              | trace_state
          · rw [if_neg hc] at b3
            have q3 : decide (xt < yt) = false := by simpa using hc
            repeat' (first | (with_reducible first | refine Cn (fun h => ?_) fun h => ?_ | refine And.intro ?_ ?_ | refine wR ?_ | exact wr _ _ | refine wa ?_ | apply awp_join) | (with_reducible refine CallZ.z ?_) | simp -dsimp [go_sem, hx, hy, Cli.row, e4, q2, q3])
            all_goals first
              | omega
              | (refine Again.auto (i + 1, old) ?_ ⟨hil, b2, b3⟩ ?_
                 · simp -dsimp [go_sem]
                 · show l.length - (i + 1) < l.length - i; omega)
              | trace_state
        · have q2 : decide (i < l.length) = false := by simpa using hil
          have hn2 : l.drop i = [] := List.drop_eq_nil_of_le (by omega)
          rw [hn2] at b3
          simp only [oldest] at b3
          subst b3
          have hul : UL 7 [Cli.row ⟨next, 0, now, ⟨0, ⟨#[]⟩, 0, []⟩⟩] := fun r hr => by simp at hr; subst hr; rfl
          simp only [Cli.row, List.map_nil] at hul ⊢
          repeat' (first | (with_reducible first | refine Cn (fun h => ?_) fun h => ?_ | refine And.intro ?_ ?_ | refine wR ?_ | exact wr _ _ | refine wa ?_ | apply awp_join | refine qg hd ?_ | refine qgd hd ?_) | (with_reducible refine CallZ.z ?_) | simp -dsimp [go_sem, q2, w1, w2, w3, hdl])
          all_goals first | omega | exact hul | trace_state
    · have q1 : ((l.length : Int) == 4) = false := by rw [beq_eq_false_iff_ne]; omega
      rw [if_neg h4]
      have hma : clR (l ++ [⟨next, 0, now, ⟨0, ⟨#[]⟩, 0, []⟩⟩]) = clR l ++ [Cli.row ⟨next, 0, now, ⟨0, ⟨#[]⟩, 0, []⟩⟩] := by simp
      rw [hma]
      have hul : UL 7 [Cli.row ⟨next, 0, now, ⟨0, ⟨#[]⟩, 0, []⟩⟩] := fun r hr => by simp at hr; subst hr; rfl
      have hdl : (clR l).length = l.length := by simp
      obtain ⟨D, hD⟩ : ∃ D, clR l = D := ⟨_, rfl⟩
      rw [hD] at hdl ⊢
      have q1' : ((D.length : Int) == 4) = false := by rw [hdl]; exact q1
      simp only [Cli.row, List.map_nil] at hul ⊢
      refine gcallc mixed Tryz.func83 ac_client_open ?_
      repeat' (first | (with_reducible first | refine Cn (fun h => ?_) fun h => ?_ | refine And.intro ?_ ?_ | refine wR ?_ | exact wr _ _ | refine wa ?_ | apply awp_join) | (with_reducible refine CallZ.z ?_) | simp -dsimp [go_sem, q0, q1, w1, w2, hdl])
      all_goals first | omega | exact hul | trace_state
def Cli.cs (x : Cli) : List C := x.c
theorem isId_c (c : Cal) (x : Cli) : DetCall Tryz.prog G 85 1 [some (.box 39 c.c)] [.agg x.c, .one (.ptr 0 0)] (bV (x.id == c.client)) [some (.box 39 c.c)] := by
  obtain ⟨client, seq, ⟨k, key, f, t, n⟩⟩ := c
  obtain ⟨id, sq, time, ⟨rc, rt, rn, rl⟩⟩ := x
  simp only [Cal.c, Cli.c]
  refine gcallc mixed Tryz.func85 ac_client_Do_1 ?_
  repeat' (first | (with_reducible first | refine Cn (fun h => ?_) fun h => ?_ | refine And.intro ?_ ?_ | refine wR ?_ | exact wr _ _ | refine wa ?_ | apply awp_join) | (with_reducible refine CallZ.z ?_) | simp -dsimp [go_sem])
  all_goals trace_state
theorem firstI_step {α : Type} (p : α → Bool) {l : List α} {i : Nat} {a : α} (h : l[i]? = some a) : firstI p i (l.drop i) = if p a then (i : Int) else firstI p (i + 1) (l.drop (i + 1)) := by
  have hl := (List.getElem?_eq_some_iff.1 h).1
  have hx := (List.getElem?_eq_some_iff.1 h).2
  rw [List.drop_eq_getElem_cons hl, hx]
  rfl
theorem indexC_c (c : Cal) (l : List Cli) (hl : l.length ≤ 1000) :
    DetCall Tryz.prog G 84 2 [some (.arr 123 7 (clR l)), some (.box 39 c.c)] [.one (.ar 0), .fn 85 [] [.ptr 1 0]] (iV (findC l c.client)) [some (.arr 123 7 (clR l)), some (.box 39 c.c)] := by
  have hen := en85
  unfold findC
  have his := isId_c (G := G) c
  obtain ⟨cid, seq, ⟨k, key, f, t, n⟩⟩ := c
  simp only [Cal.c] at his ⊢
  refine gcallc mixed Tryz.func84 ac_slices_IndexFunc_api_Client ?_
  repeat' (first | (with_reducible first | refine Cn (fun h => ?_) fun h => ?_ | refine And.intro ?_ ?_ | refine wR ?_ | exact wr _ _ | refine wa ?_ | apply awp_join) | (with_reducible refine CallZ.z ?_) | simp -dsimp [go_sem])
  refine awp_loop (fun i : Nat => ⟨[(0, .one (.ar 0)), (1, .fn 85 [] [.ptr 1 0]), (7, iV l.length), (8, iV i)], G, [some (.arr 123 7 (clR l)), some (.box 39 [iC cid, iC seq, iC k, sC key, sC f, sC t, iC n])]⟩) (fun i => i ≤ l.length ∧ firstI (fun x : Cli => x.id == cid) 0 l = firstI (fun x : Cli => x.id == cid) i (l.drop i)) (fun i => l.length - i) 0 (weak_auto ?_) ⟨Nat.zero_le _, rfl⟩ ?_
  · simp -dsimp [go_sem]
  · rintro i ⟨hi, hx⟩
    rw [hx]
    by_cases hlt : i < l.length
    · obtain ⟨x, he⟩ : ∃ x, l[i]? = some x := ⟨_, List.getElem?_eq_getElem hlt⟩
      have e4 : IntKind.i64.wrap ((i : Int) + 1) = (i : Int) + 1 := IntWalk.i64_in _ (by omega)
      have q1 : decide (i < l.length) = true := by simpa using hlt
      have hx1 := his x
      rw [firstI_step _ he]
      obtain ⟨id, sq, time, ⟨rc, rt, rn, rl⟩⟩ := x
      simp only [Cli.c] at hx1 ⊢
      cases hb : (id == cid) with
      | true =>
        rw [hb] at hx1
        simp only [if_true]
        repeat' (first | (with_reducible first | refine Cn (fun h => ?_) fun h => ?_ | refine And.intro ?_ ?_ | refine wR ?_ | exact wr _ _ | refine wa ?_ | apply awp_join | refine qg hx1 ?_ | refine qgd hx1 ?_) | (with_reducible refine CallZ.z ?_) | simp -dsimp [go_sem, he, Cli.row, e4, q1, hen])
        all_goals first | omega | trace_state
      | false =>
        rw [hb] at hx1
        simp only [Bool.false_eq_true, if_false]
        repeat' (first | (with_reducible first | refine Cn (fun h => ?_) fun h => ?_ | refine And.intro ?_ ?_ | refine wR ?_ | exact wr _ _ | refine wa ?_ | apply awp_join | refine qg hx1 ?_ | refine qgd hx1 ?_) | (with_reducible refine CallZ.z ?_) | simp -dsimp [go_sem, he, Cli.row, e4, q1, hen])
        all_goals first
          | omega
          | (refine Again.auto (i + 1) ?_ ⟨hlt, rfl⟩ ?_
             · simp -dsimp [go_sem]
             · show l.length - (i + 1) < l.length - i; omega)
          | trace_state
    · have q1 : decide (i < l.length) = false := by simpa using hlt
      have hn : l.drop i = [] := List.drop_eq_nil_of_le (by omega)
      rw [hn]
      unfold firstI
      repeat' (first | (with_reducible first | refine Cn (fun h => ?_) fun h => ?_ | refine And.intro ?_ ?_ | refine wR ?_ | exact wr _ _ | refine wa ?_ | apply awp_join) | (with_reducible refine CallZ.z ?_) | simp -dsimp [go_sem, q1])
      all_goals trace_state
end Go.Proofs.YtpdcfljbabpakaaGreatDoor
set_option linter.unusedVariables false
set_option linter.unusedSimpArgs false
set_option maxRecDepth 100000
set_option maxHeartbeats 8000000
namespace Go.Proofs.YtpdcfljbabpakaaGreatDoor
open Go Go.RowKit Go.Proofs.AE
variable {G : Nat → AV}
def Noth (G : Nat → AV) : Prop := G 0 = .one (.vptr [.lit (.int .i64 22), .lit (.string ⟨#[]⟩), .lit (.string ⟨#[]⟩), .lit (.string ⟨#[]⟩), .lit (.int .i64 0)])
abbrev DmA (q : Mach × Rep × Int) : AV := .tup [.agg q.1.c, .agg q.2.1.c, iV q.2.2]
theorem doMBad_c (m : Mach) (t : Int) (c : Cal) (hs : m.sto.Small) (hl : m.clis.length ≤ 1000000) (h : checkM m ≠ 0 ∨ (t < 0 ∨ 1073741824 < t) ∨ checkCl c ≠ 0) : PCall Tryz.prog G 47 [.agg m.c, iV t, .agg c.c] (DmA (DoM m t c)) := by
  have hcs := checkM_c (G := G) m hs hl
  have hcc := checkCl_c (G := G) c
  unfold DoM
  obtain ⟨e1, he1⟩ : ∃ e, checkM m = e := ⟨_, rfl⟩
  obtain ⟨e2, he2⟩ : ∃ e, checkCl c = e := ⟨_, rfl⟩
  rw [he1] at hcs h ⊢
  rw [he2] at hcc h ⊢
  obtain ⟨⟨now, ents⟩, next, l⟩ := m
  obtain ⟨cid, cseq, ⟨ck, ckey, cf, ct, cn⟩⟩ := c
  simp only [Mach.c, Cal.c] at hcs hcc ⊢
  by_cases a1 : e1 ≠ 0
  · have q1 : (e1 != 0) = true := by simpa using a1
    rw [if_pos a1]
    simp only [DmA, Mach.c, Rep.c, toldR, zeroM, zeroS, List.map_nil]
    refine pcallc mixed Tryz.func47 ac_client_Do ?_
    repeat' (first | (with_reducible first | refine Cn (fun h => ?_) fun h => ?_ | refine And.intro ?_ ?_ | refine wR ?_ | exact wr _ _ | refine wa ?_ | apply awp_join | refine q hcs ?_ | refine qd hcs ?_ | refine qz hcs ?_) | (with_reducible refine CallZ.z ?_) | simp -dsimp [go_sem, q1])
  · have q1 : (e1 != 0) = false := by simpa using a1
    rw [if_neg a1]
    by_cases a2 : t < 0 ∨ 1073741824 < t
    · rw [if_pos a2]
      simp only [DmA, Mach.c, Rep.c, toldR, zeroM, zeroS, List.map_nil]
      by_cases a4 : t < 0
      · have q2 : decide (t < 0) = true := by simpa using a4
        refine pcallc mixed Tryz.func47 ac_client_Do ?_
        repeat' (first | (with_reducible first | refine Cn (fun h => ?_) fun h => ?_ | refine And.intro ?_ ?_ | refine wR ?_ | exact wr _ _ | refine wa ?_ | apply awp_join | refine q hcs ?_ | refine qd hcs ?_ | refine qz hcs ?_) | (with_reducible refine CallZ.z ?_) | simp -dsimp [go_sem, q1, q2])
      · have q2 : decide (t < 0) = false := by simpa using a4
        have q3 : decide (1073741824 < t) = true := by simp; omega
        refine pcallc mixed Tryz.func47 ac_client_Do ?_
        repeat' (first | (with_reducible first | refine Cn (fun h => ?_) fun h => ?_ | refine And.intro ?_ ?_ | refine wR ?_ | exact wr _ _ | refine wa ?_ | apply awp_join | refine q hcs ?_ | refine qd hcs ?_ | refine qz hcs ?_) | (with_reducible refine CallZ.z ?_) | simp -dsimp [go_sem, q1, q2, q3])
    · rw [if_neg a2]
      have a3 : e2 ≠ 0 := (h.resolve_left a1).resolve_left a2
      rw [if_pos a3]
      have q2 : decide (t < 0) = false := by simp; omega
      have q3 : decide (1073741824 < t) = false := by simp; omega
      have q4 : (e2 != 0) = true := by simpa using a3
      simp only [DmA, Mach.c, Rep.c, toldR, zeroM, zeroS, List.map_nil]
      refine pcallc mixed Tryz.func47 ac_client_Do ?_
      repeat' (first | (with_reducible first | refine Cn (fun h => ?_) fun h => ?_ | refine And.intro ?_ ?_ | refine wR ?_ | exact wr _ _ | refine wa ?_ | apply awp_join | refine q hcs ?_ | refine qd hcs ?_ | refine qz hcs ?_ | refine q hcc ?_ | refine qd hcc ?_ | refine qz hcc ?_) | (with_reducible refine CallZ.z ?_) | simp -dsimp [go_sem, q1, q2, q3, q4])
theorem findC_cases (l : List Cli) (id : Int) : (findC l id = -1 ∧ ∀ x ∈ l, x.id ≠ id) ∨ ∃ (j : Nat) (x : Cli), findC l id = (j : Int) ∧ l[j]? = some x ∧ x.id = id := by
  unfold findC
  rcases firstI_cases (fun x : Cli => x.id == id) l 0 with ⟨h1, h2⟩ | ⟨j, x, h1, h2, h3, _⟩
  · exact .inl ⟨h1, fun x hx => by have := h2 x hx; simpa using this⟩
  · exact .inr ⟨j, x, by rw [h1]; simp, h2, by simpa using h3⟩
theorem doMGood_c (hG : Noth G) (m : Mach) (t : Int) (c : Cal) (ok : OkM m) (h0 : 0 ≤ t) (h1 : t ≤ 1073741824) (hc : checkCl c = 0) : PCall Tryz.prog G 47 [.agg m.c, iV t, .agg c.c] (DmA (DoM m t c)) := by
  have hcs := checkM_c (G := G) m ok.sto.small (by have := ok.len; omega)
  rw [checkM_iff.2 ok] at hcs
  have hcc := checkCl_c (G := G) c
  rw [hc] at hcc
  have hlr : ∀ x ∈ m.clis, x.reply.list.length ≤ 1000 := fun x hx => by have := (checkR_iff.1 (ok.all x hx).reply).len; omega
  have how := ownClients_c (G := G) m.clis (by have := ok.len; omega) hlr
  have hap := apply_c (G := G) m.sto t keysC ok.sto.small
  obtain ⟨eA, okA⟩ := apply_ok ok.sto h0 h1 keysC_ok
  obtain ⟨hD, hmid, _, _⟩ := do_ok ok h0 h1 hc
  rw [hD]
  rw [doE_keys] at eA okA
  rw [eA] at hap
  have hlen := ok.len
  clear eA hD okA hcs
  have hcs := checkM_c (G := G) m ok.sto.small (by have := ok.len; omega)
  rw [checkM_iff.2 ok] at hcs
  obtain ⟨M, hM⟩ : ∃ M, (⟨maxI m.sto.now t, aliveS (maxI m.sto.now t) m.sto⟩ : Sto) = M := ⟨_, rfl⟩
  have hsc : (⟨maxI m.sto.now t, aliveS (maxI m.sto.now t) m.sto⟩ : Sto).c = M.c := by rw [hM]
  rw [hM] at hmid ⊢
  unfold ApA at hap
  simp only at hap
  change PCall Tryz.prog G _ _ (.tup [.agg (⟨maxI m.sto.now t, aliveS (maxI m.sto.now t) m.sto⟩ : Sto).c, _, _]) at hap
  rw [hM] at hap
  clear hM hsc
  have q2 : decide (t < 0) = false := by simp; omega
  have q3 : decide (1073741824 < t) = false := by simp; omega
  unfold Noth at hG
  unfold callM
  by_cases a1 : c.client = 0
  · rw [if_pos a1]
    have hop := open_c (G := G) _ hmid
    obtain ⟨q, hq⟩ : ∃ q : Mach × Rep, openM ⟨M, m.next, m.clis⟩ = q := ⟨_, rfl⟩
    rw [hq] at hop ⊢
    obtain ⟨⟨⟨qnow, qents⟩, qnext, qclis⟩, ⟨qc, qt, qn, ql⟩⟩ := q
    obtain ⟨Mn, Me⟩ := M
    obtain ⟨⟨now, ents⟩, next, l⟩ := m
    obtain ⟨cid, cseq, ⟨ck, ckey, cf, ct, cn⟩⟩ := c
    simp only at a1
    subst a1
    clear hq hmid ok hlr
    simp only [Mach.c, Sto.c, Cal.c, Rep.c, Cmd.c, keysC, DmA] at hcs hcc how hap hop ⊢
    refine pcallc mixed Tryz.func47 ac_client_Do ?_
    repeat' (first | (with_reducible first | refine Cn (fun h => ?_) fun h => ?_ | refine And.intro ?_ ?_ | refine wR ?_ | exact wr _ _ | refine wa ?_ | apply awp_join | refine q hcs ?_ | refine qd hcs ?_ | refine qz hcs ?_ | refine q hcc ?_ | refine qd hcc ?_ | refine qz hcc ?_ | refine qg how ?_ | refine qgd how ?_ | refine q hap ?_ | refine qd hap ?_ | refine qz hap ?_ | refine qg hop ?_ | refine qgd hop ?_) | (with_reducible refine CallZ.z ?_) | simp -dsimp [go_sem, q2, q3, hG])
    all_goals trace_state
  · rw [if_neg a1]
    have q4 : (c.client == 0) = false := by simpa using a1
    have hix := indexC_c (G := G) c m.clis (by omega)
    obtain ⟨_, hnum, _⟩ := call_cmd hc a1
    simp only
    rcases findC_cases m.clis c.client with ⟨f1, f2⟩ | ⟨j, x, f1, f2, f3⟩
    · rw [f1] at hix ⊢
      rw [if_pos (by omega)]
      obtain ⟨Mn, Me⟩ := M
      obtain ⟨⟨now, ents⟩, next, l⟩ := m
      obtain ⟨cid, cseq, ⟨ck, ckey, cf, ct, cn⟩⟩ := c
      simp only at q4 hlen
      clear hmid ok hlr f2 f1
      simp only [Mach.c, Sto.c, Cal.c, Rep.c, Cmd.c, keysC, DmA, failR, List.map_nil] at hcs hcc how hap hix ⊢
      refine pcallc mixed Tryz.func47 ac_client_Do ?_
      repeat' (first | (with_reducible first | refine Cn (fun h => ?_) fun h => ?_ | refine And.intro ?_ ?_ | refine wR ?_ | exact wr _ _ | refine wa ?_ | apply awp_join | refine q hcs ?_ | refine qd hcs ?_ | refine qz hcs ?_ | refine q hcc ?_ | refine qd hcc ?_ | refine qz hcc ?_ | refine qg how ?_ | refine qgd how ?_ | refine q hap ?_ | refine qd hap ?_ | refine qz hap ?_ | refine qg hix ?_ | refine qgd hix ?_) | (with_reducible refine CallZ.z ?_) | simp -dsimp [go_sem, q2, q3, q4, hG])
      all_goals trace_state
    · rw [f1] at hix ⊢
      rw [if_neg (by omega)]
      have ho := hmid.all x (List.mem_of_getElem? f2)
      have hj : ((j : Int)).toNat = j := by omega
      have q7 : decide ((j : Int) < 0) = false := by simp
      rw [hj, f2]
      simp only
      have hor := ownReply_c (G := G) x.reply (by have := hlr x (List.mem_of_getElem? f2); omega)
      have hjl := lt_of_getElem? f2
      unfold okNumber at hnum
      simp only [Bool.and_eq_true, decide_eq_true_eq] at hnum
      have hsq := ho.seq
      have w1 : IntKind.i64.wrap (x.seq + 1) = x.seq + 1 := IntWalk.i64_in _ (by omega)
      by_cases b1 : c.seq = x.seq
      · rw [if_pos b1]
        have q5 : (c.seq == x.seq) = true := by simpa using b1
        obtain ⟨Mn, Me⟩ := M
        obtain ⟨⟨now, ents⟩, next, l⟩ := m
        obtain ⟨cid, cseq, ⟨ck, ckey, cf, ct, cn⟩⟩ := c
        obtain ⟨xid, xseq, xtime, ⟨rc, rt, rn, rl⟩⟩ := x
        simp only at q4 hlen f2 hjl q5
        clear hmid ok hlr ho f3 f1
        simp only [Mach.c, Sto.c, Cal.c, Rep.c, Cmd.c, keysC, DmA] at hcs hcc how hap hix hor ⊢
        refine pcallc mixed Tryz.func47 ac_client_Do ?_
        repeat' (first | (with_reducible first | refine Cn (fun h => ?_) fun h => ?_ | refine And.intro ?_ ?_ | refine wR ?_ | exact wr _ _ | refine wa ?_ | apply awp_join | refine q hcs ?_ | refine qd hcs ?_ | refine qz hcs ?_ | refine q hcc ?_ | refine qd hcc ?_ | refine qz hcc ?_ | refine qg how ?_ | refine qgd how ?_ | refine q hap ?_ | refine qd hap ?_ | refine qz hap ?_ | refine qg hix ?_ | refine qgd hix ?_ | refine q hor ?_ | refine qd hor ?_ | refine qz hor ?_) | (with_reducible refine CallZ.z ?_) | simp -dsimp [go_sem, q2, q3, q4, q7, q5, hG, f2, Cli.row])
        all_goals first | omega | trace_state
      · rw [if_neg b1]
        have q5 : (c.seq == x.seq) = false := by simpa using b1
        by_cases b2 : c.seq ≠ x.seq + 1
        · rw [if_pos b2]
          have q6 : (c.seq != x.seq + 1) = true := by simpa using b2
          obtain ⟨Mn, Me⟩ := M
          obtain ⟨⟨now, ents⟩, next, l⟩ := m
          obtain ⟨cid, cseq, ⟨ck, ckey, cf, ct, cn⟩⟩ := c
          obtain ⟨xid, xseq, xtime, ⟨rc, rt, rn, rl⟩⟩ := x
          simp only at q4 hlen f2 hjl q5 q6 w1
          clear hmid ok hlr ho f3 f1
          simp only [Mach.c, Sto.c, Cal.c, Rep.c, Cmd.c, keysC, DmA, failR, List.map_nil] at hcs hcc how hap hix hor ⊢
          refine pcallc mixed Tryz.func47 ac_client_Do ?_
          repeat' (first | (with_reducible first | refine Cn (fun h => ?_) fun h => ?_ | refine And.intro ?_ ?_ | refine wR ?_ | exact wr _ _ | refine wa ?_ | apply awp_join | refine q hcs ?_ | refine qd hcs ?_ | refine qz hcs ?_ | refine q hcc ?_ | refine qd hcc ?_ | refine qz hcc ?_ | refine qg how ?_ | refine qgd how ?_ | refine q hap ?_ | refine qd hap ?_ | refine qz hap ?_ | refine qg hix ?_ | refine qgd hix ?_ | refine q hor ?_ | refine qd hor ?_ | refine qz hor ?_) | (with_reducible refine CallZ.z ?_) | simp -dsimp [go_sem, q2, q3, q4, q7, q5, q6, w1, hG, f2, Cli.row])
          all_goals first | omega | trace_state
        · rw [if_neg b2]
          have b3 : c.seq = x.seq + 1 := Classical.not_not.1 b2
          have q6 : (c.seq != x.seq + 1) = false := by simpa using b3
          have hap2 := apply_c (G := G) M t c.cmd hmid.sto.small
          have hrr := (apply_okR hmid.sto h0 h1 (call_cmd hc a1).2.2).len
          have hor2 := ownReply_c (G := G) (ApplyS M t c.cmd).2.1 (Nat.le_trans hrr (by omega))
          obtain ⟨Q, hQ⟩ : ∃ Q, ApplyS M t c.cmd = Q := ⟨_, rfl⟩
          rw [hQ] at hap2 hor2 hrr ⊢
          have hze : Q.2.2 = 0 := by rw [← hQ, (apply_ok hmid.sto h0 h1 (call_cmd hc a1).2.2).1]
          have hset : ∀ y : Cli, clR (m.clis.set j y) = (clR m.clis).set j y.row := fun y => by simp
          obtain ⟨⟨qn, qe⟩, ⟨qc, qt, qm, ql⟩, e⟩ := Q
          obtain ⟨Mn, Me⟩ := M
          obtain ⟨⟨now, ents⟩, next, l⟩ := m
          obtain ⟨cid, cseq, ⟨ck, ckey, cf, ct, cn⟩⟩ := c
          obtain ⟨xid, xseq, xtime, ⟨rc, rt, rn, rl⟩⟩ := x
          simp only at q4 hlen f2 hjl q5 q6 w1 hze
          subst hze
          have hg1 : ∀ X, ((clR l).set j X)[j]? = some X := fun X => by rw [List.getElem?_set_self (by simpa using hjl)]
          clear hmid ok hlr ho f3 f1 hQ
          simp only [ApA, Mach.c, Sto.c, Cal.c, Rep.c, Cmd.c, hset, Cli.row, keysC, DmA] at hcs hcc how hap hix hor hap2 hor2 ⊢
          refine pcallc mixed Tryz.func47 ac_client_Do ?_
          repeat' (first | (with_reducible first | refine Cn (fun h => ?_) fun h => ?_ | refine And.intro ?_ ?_ | refine wR ?_ | exact wr _ _ | refine wa ?_ | apply awp_join | refine q hcs ?_ | refine qd hcs ?_ | refine qz hcs ?_ | refine q hcc ?_ | refine qd hcc ?_ | refine qz hcc ?_ | refine qg how ?_ | refine qgd how ?_ | refine q hap ?_ | refine qd hap ?_ | refine qz hap ?_ | refine q hap2 ?_ | refine qd hap2 ?_ | refine qz hap2 ?_ | refine qg hix ?_ | refine qgd hix ?_ | refine q hor ?_ | refine qd hor ?_ | refine qz hor ?_ | refine q hor2 ?_ | refine qd hor2 ?_ | refine qz hor2 ?_) | (with_reducible refine CallZ.z ?_) | simp -dsimp [go_sem, q2, q3, q4, q7, q5, q6, w1, hG, f2, hg1, Cli.row])
          all_goals first | omega | trace_state
theorem doM_c (hG : Noth G) (m : Mach) (t : Int) (c : Cal) (hs : m.sto.Small) (hl : m.clis.length ≤ 1000000) : PCall Tryz.prog G 47 [.agg m.c, iV t, .agg c.c] (DmA (DoM m t c)) := by
  by_cases h : checkM m ≠ 0 ∨ (t < 0 ∨ 1073741824 < t) ∨ checkCl c ≠ 0
  · exact doMBad_c m t c hs hl h
  · simp only [not_or, Classical.not_not] at h
    exact doMGood_c hG m t c (checkM_iff.1 h.1) (by omega) (by omega) h.2.2
end Go.Proofs.YtpdcfljbabpakaaGreatDoor
set_option linter.unusedVariables false
set_option linter.unusedSimpArgs false
set_option maxRecDepth 100000
set_option maxHeartbeats 8000000
namespace Go.Proofs.YtpdcfljbabpakaaGreatDoor
open Go Go.RowKit Go.Proofs.AE
def Deed.raw (d : Deed) : Raw := ⟨d.kind, d.key, d.field, d.n, d.text⟩
theorem Deed.Ok.raw {d : Deed} (h : d.Ok) : d.raw.Ok := ⟨h.kind, h.key, h.field, h.n⟩
def seqStep (n p : Int) (s : Int) (x : Cli) : Int := if x.id = n then (if x.seq + 1 - p < 1 then 1 else x.seq + 1 - p) else s
def callSeq (l : List Cli) (n p : Int) : Int := l.foldl (seqStep n p) 1
def openC : Cal := ⟨0, 0, ⟨0, ⟨#[]⟩, ⟨#[]⟩, ⟨#[]⟩, 0⟩⟩
def callD (l : List Cli) (d : Deed) : Cal := if pk d.client 7 = 0 then openC else ⟨pk d.client 7, callSeq l (pk d.client 7) ((pk d.off 3).tdiv 2), cmdR d.raw⟩
def stepM (q : Int × Mach) (d : Deed) : Int × Mach :=
  (q.1 + pk d.wait 8, if (DoM q.2 (q.1 + pk d.wait 8) (callD q.2.clis d)).2.2 = 0 then (DoM q.2 (q.1 + pk d.wait 8) (callD q.2.clis d)).1 else q.2)
def foldM (l : List Deed) : Int × Mach := l.foldl stepM (0, newM)
def machV (l : List Deed) : Mach := (foldM (l.take 40)).2
structure Inv (k : Nat) (m : Mach) : Prop where
  ok : OkM m
  next : m.next ≤ 1 + (k : Int)
  seq : ∀ x ∈ m.clis, x.seq ≤ (k : Int)
theorem Inv.mono {k j : Nat} {m : Mach} (h : Inv k m) (hk : k ≤ j) : Inv j m := ⟨h.ok, by have := h.next; omega, fun x hx => by have := h.seq x hx; omega⟩
theorem half_range (n : Int) : 0 ≤ (pk n 3).tdiv 2 ∧ (pk n 3).tdiv 2 ≤ 1 := by
  have hp := pk_range (n := n) (m := 3) (by omega)
  have : pk n 3 = 0 ∨ pk n 3 = 1 ∨ pk n 3 = 2 := by omega
  rcases this with e | e | e <;> rw [e] <;> decide
theorem callSeq_range {n p : Int} (hp : 0 ≤ p) : ∀ (l : List Cli) (s : Int) (k : Int), (∀ x ∈ l, x.seq ≤ k) → 0 ≤ k → 1 ≤ s → s ≤ k + 1 → 1 ≤ l.foldl (seqStep n p) s ∧ l.foldl (seqStep n p) s ≤ k + 1
  | [], s, k, _, _, h1, h2 => ⟨h1, h2⟩
  | x :: l, s, k, hl, hk, h1, h2 => by
    have hx := hl x (List.mem_cons_self ..)
    refine callSeq_range hp l _ k (fun y hy => hl y (List.mem_cons_of_mem _ hy)) hk ?_ ?_ <;> unfold seqStep <;> repeat' split
    all_goals omega
theorem openC_ok : checkCl openC = 0 := by decide
theorem callD_ok {k : Nat} {m : Mach} (h : Inv k m) (hk : k ≤ 1000) {d : Deed} (hd : d.Ok) : checkCl (callD m.clis d) = 0 := by
  unfold callD
  split
  · exact openC_ok
  · rename_i hn
    have hr := pk_range (n := d.client) (m := 7) (by omega)
    obtain ⟨s1, s2⟩ := callSeq_range (n := pk d.client 7) (half_range d.off).1 m.clis 1 k h.seq (by omega) (by omega) (by omega)
    change 1 ≤ callSeq _ _ _ at s1
    change callSeq _ _ _ ≤ _ at s2
    unfold checkCl checkCall
    have c0 : ¬ (decide (pk d.client 7 = 0)) = true := by simpa using hn
    have c1 : okNumber (pk d.client 7) = true := by unfold okNumber; simp; omega
    have c2 : okNumber (callSeq m.clis (pk d.client 7) ((pk d.off 3).tdiv 2)) = true := by unfold okNumber; simp; omega
    simp only
    rw [if_neg c0, if_pos c1, if_pos c2]
    exact cmdR_ok hd.raw
theorem openM_inv {k : Nat} {m : Mach} (h : Inv k m) : Inv (k + 1) (openM m).1 := by
  refine ⟨(open_ok h.ok).1, ?_, ?_⟩
  · unfold openM
    have := h.next
    split
    · show m.next ≤ _; omega
    · show m.next + 1 ≤ _; omega
  · unfold openM
    split
    · exact fun x hx => by have := h.seq x hx; omega
    · intro x hx
      rcases List.mem_append.1 hx with hx | hx
      · have : x ∈ m.clis := by
          split at hx
          · exact (del_sub _ _).subset hx
          · exact hx
        have := h.seq x this
        omega
      · simp only [List.mem_singleton] at hx
        subst hx
        show (0 : Int) ≤ _
        omega
theorem callM_inv {k : Nat} {m : Mach} (h : Inv k m) {t : Int} (h0 : 0 ≤ t) (h1 : t ≤ 1073741824) {c : Cal} (hc : checkCl c = 0) : Inv (k + 1) (callM m t c).1 := by
  have hok := (call_ok h.ok h0 h1 hc).1
  have hs := h.mono (Nat.le_succ k)
  by_cases hz : c.client = 0
  · unfold callM; rw [if_pos hz]; exact openM_inv h
  · refine ⟨hok, ?_, ?_⟩
    · unfold callM
      rw [if_neg hz]
      repeat' split
      all_goals exact hs.next
    · unfold callM
      rw [if_neg hz]
      split
      · exact hs.seq
      · split
        · exact hs.seq
        · rename_i x hx
          split
          · exact hs.seq
          · split
            · exact hs.seq
            · rename_i e2
              have hxs := h.seq x (List.mem_of_getElem? hx)
              intro y hy
              rcases List.mem_or_eq_of_mem_set hy with hy | hy
              · exact hs.seq y hy
              · subst hy
                show c.seq ≤ _
                omega
theorem callM_now {m : Mach} (h : OkM m) {t : Int} (ht : m.sto.now = t) (h1 : t ≤ 1073741824) {c : Cal} (hc : checkCl c = 0) : (callM m t c).1.sto.now = t := by
  have h0 : 0 ≤ t := by rw [← ht]; exact h.sto.now.1
  unfold callM
  by_cases hz : c.client = 0
  · rw [if_pos hz]
    unfold openM
    split <;> exact ht
  · rw [if_neg hz]
    split
    · exact ht
    · split
      · exact ht
      · split
        · exact ht
        · split
          · exact ht
          · show (ApplyS m.sto t c.cmd).1.now = t
            rw [(apply_ok h.sto h0 h1 (call_cmd hc hz).2.2).1]
            show maxI m.sto.now t = t
            rw [ht, maxI_self]
theorem maxI_le2 {a b : Int} (h : a ≤ b) : maxI a b = b := by unfold maxI; split <;> omega
theorem stepM_inv {k : Nat} {q : Int × Mach} {d : Deed} (h : Inv k q.2) (hk : k ≤ 100) (hd : d.Ok) (n0 : 0 ≤ q.1) (n1 : q.1 ≤ 7 * (k : Int)) (n2 : q.2.sto.now ≤ q.1) :
    ∃ m' r, DoM q.2 (q.1 + pk d.wait 8) (callD q.2.clis d) = (m', r, 0) ∧ stepM q d = (q.1 + pk d.wait 8, m') ∧ Inv (k + 1) m' ∧ m'.sto.now = q.1 + pk d.wait 8 := by
  have hp := pk_range (n := d.wait) (m := 8) (by omega)
  have hc := callD_ok h (by omega) hd
  obtain ⟨e, hmid, _, _⟩ := do_ok h.ok (t := q.1 + pk d.wait 8) (by omega) (by omega) hc
  rw [maxI_le2 (by omega)] at e hmid
  have hi : Inv k ⟨⟨q.1 + pk d.wait 8, aliveS (q.1 + pk d.wait 8) q.2.sto⟩, q.2.next, q.2.clis⟩ := ⟨hmid, h.next, h.seq⟩
  refine ⟨_, _, e, ?_, callM_inv hi (by omega) (by omega) hc, callM_now hmid rfl (by show q.1 + pk d.wait 8 ≤ _; omega) hc⟩
  unfold stepM
  rw [e]
  simp
theorem newM_inv : Inv 0 newM := ⟨⟨⟨⟨by decide, by decide⟩, Nat.zero_le _, (fun e h => by cases h), List.Pairwise.nil⟩, by decide, Nat.zero_le _, (fun x h => by cases h), List.Pairwise.nil⟩, by decide, fun x h => by cases h⟩
theorem foldM_inv : ∀ (l : List Deed) (q : Int × Mach) (k : Nat), (∀ d ∈ l, d.Ok) → k + l.length ≤ 100 → Inv k q.2 → 0 ≤ q.1 → q.1 ≤ 7 * (k : Int) → q.2.sto.now ≤ q.1 →
    Inv (k + l.length) (l.foldl stepM q).2 ∧ 0 ≤ (l.foldl stepM q).1 ∧ (l.foldl stepM q).1 ≤ 7 * ((k + l.length : Nat) : Int) ∧ (l.foldl stepM q).2.sto.now ≤ (l.foldl stepM q).1
  | [], q, k, _, _, h, n0, n1, n2 => ⟨h, n0, n1, n2⟩
  | d :: l, q, k, hl, hk, h, n0, n1, n2 => by
    simp only [List.length_cons] at hk
    have hp := pk_range (n := d.wait) (m := 8) (by omega)
    obtain ⟨m', r, _, e, hi, hn⟩ := stepM_inv h (by omega) (hl d (List.mem_cons_self ..)) n0 n1 n2
    rw [List.foldl_cons, e]
    have := foldM_inv l (q.1 + pk d.wait 8, m') (k + 1) (fun y hy => hl y (List.mem_cons_of_mem _ hy)) (by omega) hi (by show 0 ≤ q.1 + pk d.wait 8; omega) (by show q.1 + pk d.wait 8 ≤ _; omega) (by show m'.sto.now ≤ q.1 + pk d.wait 8; omega)
    rw [show k + (d :: l).length = k + 1 + l.length by simp only [List.length_cons]; omega]
    exact this
theorem foldM_succ {l : List Deed} {i : Nat} {d : Deed} (h : l[i]? = some d) : foldM (l.take (i + 1)) = stepM (foldM (l.take i)) d := by
  unfold foldM
  rw [List.take_add_one, h, Option.toList_some, List.foldl_append]
  rfl
theorem machV_inv (l : List Deed) (hl : ∀ d ∈ l, d.Ok) : Inv 40 (machV l) ∧ (machV l).sto.now ≤ 280 := by
  have hlen : (l.take 40).length ≤ 40 := by rw [List.length_take]; omega
  obtain ⟨h1, h2, h3, h4⟩ := foldM_inv (l.take 40) (0, newM) 0 (fun d hd => hl d (List.mem_of_mem_take hd)) (by omega) newM_inv (Int.le_refl _) (by show (0 : Int) ≤ _; omega) (Int.le_refl _)
  refine ⟨h1.mono (by omega), ?_⟩
  unfold machV foldM
  omega
instance : DecidableEq Cli := fun a b => decidable_of_iff (a.id = b.id ∧ a.seq = b.seq ∧ a.time = b.time ∧ a.reply.code = b.reply.code ∧ a.reply.text = b.reply.text ∧ a.reply.n = b.reply.n ∧ a.reply.list = b.reply.list) (by
  obtain ⟨a1, a2, a3, ⟨a4, a5, a6, a7⟩⟩ := a; obtain ⟨b1, b2, b3, ⟨b4, b5, b6, b7⟩⟩ := b; simp)
end Go.Proofs.YtpdcfljbabpakaaGreatDoor
set_option linter.unusedVariables false
set_option linter.unusedSimpArgs false
set_option maxRecDepth 100000
set_option maxHeartbeats 8000000
namespace Go.Proofs.YtpdcfljbabpakaaGreatDoor
open Go Go.RowKit Go.Proofs.AE
variable {G : Nat → AV}
def Deed.c (d : Deed) : List C := [iC d.client, iC d.off, iC d.wait, iC d.kind, iC d.key, iC d.field, iC d.n, sC d.text]
theorem callSeq_drop {l : List Cli} {i : Nat} {x : Cli} (n p s : Int) (h : l[i]? = some x) : (l.drop i).foldl (seqStep n p) s = (l.drop (i + 1)).foldl (seqStep n p) (seqStep n p s x) := by
  have hl := (List.getElem?_eq_some_iff.1 h).1
  have hx := (List.getElem?_eq_some_iff.1 h).2
  rw [List.drop_eq_getElem_cons hl, hx, List.foldl_cons]
theorem callK_c (m : Mach) (d : Deed) (hd : d.Ok) (hl : m.clis.length ≤ 1000) (hs : ∀ x ∈ m.clis, 0 ≤ x.seq ∧ x.seq ≤ 1048576) : PCall Tryz.prog G 48 [.agg m.c, .agg d.c] (.agg (callD m.clis d).c) := by
  have hpk := picked_c (G := G) d.client 7 hd.client (by omega)
  have hpo := picked_c (G := G) d.off 3 hd.off (by omega)
  have hcm := commandR_c (G := G) d.raw hd.raw
  have hpr := pk_range (n := d.client) (m := 7) (by omega)
  have hhr := half_range d.off
  have hor := pk_range (n := d.off) (m := 3) (by omega)
  unfold callD
  generalize cmdR d.raw = cc at *
  obtain ⟨client, off, wait, kind, key, field, n, text⟩ := d
  obtain ⟨⟨now, ents⟩, next, l⟩ := m
  obtain ⟨ck, ckey, cf, ct, cn⟩ := cc
  simp only at hpk hpo hcm hpr hhr hor hl hs
  simp only [Deed.raw, Deed.c, Mach.c, Cal.c, Cmd.c] at hpk hpo hcm ⊢
  clear hd
  generalize pk client 7 = pc at *
  obtain ⟨po, hpoe⟩ : ∃ po, pk off 3 = po := ⟨_, rfl⟩
  rw [hpoe] at hpo hhr hor ⊢
  clear hpoe
  by_cases h0 : pc = 0
  · subst h0
    rw [if_pos rfl]
    simp only [openC]
    refine pcallc mixed Tryz.func48 ac_rostrumkeep_call ?_
    repeat' (first | (with_reducible first | refine Cn (fun h => ?_) fun h => ?_ | refine And.intro ?_ ?_ | refine wR ?_ | exact wr _ _ | refine wa ?_ | apply awp_join | refine q hpk ?_ | refine qd hpk ?_ | refine qz hpk ?_) | (with_reducible refine CallZ.z ?_) | simp -dsimp [go_sem])
    all_goals trace_state
  · rw [if_neg h0]
    have q0 : (pc == 0) = false := by simpa using h0
    obtain ⟨h, hhe⟩ : ∃ h, po.tdiv 2 = h := ⟨_, rfl⟩
    rw [hhe] at hhr ⊢
    refine pcallc mixed Tryz.func48 ac_rostrumkeep_call ?_
    repeat' (first | (with_reducible first | refine Cn (fun h => ?_) fun h => ?_ | refine And.intro ?_ ?_ | refine wR ?_ | exact wr _ _ | refine wa ?_ | apply awp_join | refine q hpk ?_ | refine qd hpk ?_ | refine qz hpk ?_ | refine q hcm ?_ | refine qd hcm ?_ | refine qz hcm ?_) | (with_reducible refine CallZ.z ?_) | simp -dsimp [go_sem, q0])
    refine awp_loop (fun q : Nat × Int => ⟨[(2, .one (.ptr 0 0)), (3, .one (.ptr 1 0)), (4, .one (.ptr 2 0)), (5, iV pc), (6, .one (.ptr 3 0)), (7, iV q.1)], G, [some (.box 28 [iC now, .v (.sl (eR ents)), iC next, .v (.sl (clR l))]), some (.box 81 [iC client, iC off, iC wait, iC kind, iC key, iC field, iC n, sC text]), some (.box 39 [iC 0, iC 0, iC 0, sC ⟨#[]⟩, sC ⟨#[]⟩, sC ⟨#[]⟩, iC 0]), some (.box 39 [iC pc, iC q.2, iC ck, sC ckey, sC cf, sC ct, iC cn])]⟩) (fun q => q.1 ≤ l.length ∧ callSeq l pc h = (l.drop q.1).foldl (seqStep pc h) q.2) (fun q => l.length - q.1) (0, 1) (weak_auto ?_) ⟨Nat.zero_le _, rfl⟩ ?_
    · simp -dsimp [go_sem]
    · rintro ⟨i, s⟩ ⟨b1, b2⟩
      simp only at b1 b2
      by_cases hil : i < l.length
      · obtain ⟨x, hx⟩ : ∃ x, l[i]? = some x := ⟨_, List.getElem?_eq_getElem hil⟩
        have e4 : IntKind.i64.wrap ((i : Int) + 1) = (i : Int) + 1 := IntWalk.i64_in _ (by omega)
        have q2 : decide (i < l.length) = true := by simpa using hil
        rw [callSeq_drop pc h s hx] at b2
        have hxs := hs x (List.mem_of_getElem? hx)
        obtain ⟨xi, xs, xt, ⟨xc, xx, xn, xl⟩⟩ := x
        simp only [seqStep] at b2
        simp only at hxs
        by_cases hc : xi = pc
        · rw [if_pos hc] at b2
          have q3 : (xi == pc) = true := by simpa using hc
          have w1 : IntKind.i64.wrap (xs + 1) = xs + 1 := IntWalk.i64_in _ (by omega)
          have w2 : IntKind.i64.wrap (xs + 1 - h) = xs + 1 - h := IntWalk.i64_in _ (by omega)
          have w3 : IntKind.i64.wrap (po.tdiv 2) = h := by rw [hhe]; exact IntWalk.i64_in _ (by omega)
          have w4 : IntKind.i64.wrap (po / 2) = h := by rw [← hhe, Int.tdiv_eq_ediv_of_nonneg (by omega)]; exact IntWalk.i64_in _ (by omega)
          repeat' (first | (with_reducible first | refine Cn (fun h => ?_) fun h => ?_ | refine And.intro ?_ ?_ | refine wR ?_ | exact wr _ _ | refine weak_autoC ?_ | apply awp_join | refine q hpo ?_ | refine qd hpo ?_ | refine qz hpo ?_) | (with_reducible refine CallZ.z ?_) | simp -dsimp [go_sem, hx, Cli.row, e4, q2, q3, w1, w2, w3, w4, clean_nil, clean_cons, clean_yes, clean_no])
          all_goals first
            | omega
            | (refine Again.auto (i + 1, if xs + 1 - h < 1 then 1 else xs + 1 - h) ?_ ⟨hil, b2⟩ ?_
               · simp -dsimp [go_sem]
               · show l.length - (i + 1) < l.length - i; omega)
            | trace_state
        · rw [if_neg hc] at b2
          have q3 : (xi == pc) = false := by simpa using hc
          repeat' (first | (with_reducible first | refine Cn (fun h => ?_) fun h => ?_ | refine And.intro ?_ ?_ | refine wR ?_ | exact wr _ _ | refine wa ?_ | apply awp_join | refine q hpo ?_ | refine qd hpo ?_ | refine qz hpo ?_) | (with_reducible refine CallZ.z ?_) | simp -dsimp [go_sem, hx, Cli.row, e4, q2, q3])
          all_goals first
            | omega
            | (refine Again.auto (i + 1, s) ?_ ⟨hil, b2⟩ ?_
               · simp -dsimp [go_sem]
               · show l.length - (i + 1) < l.length - i; omega)
            | trace_state
      · have q2 : decide (i < l.length) = false := by simpa using hil
        have hn2 : l.drop i = [] := List.drop_eq_nil_of_le (by omega)
        rw [hn2] at b2
        rw [b2]
        simp only [List.foldl_nil]
        repeat' (first | (with_reducible first | refine Cn (fun h => ?_) fun h => ?_ | refine And.intro ?_ ?_ | refine wR ?_ | exact wr _ _ | refine wa ?_ | apply awp_join) | (with_reducible refine CallZ.z ?_) | simp -dsimp [go_sem, q2])
        all_goals trace_state
instance : DecidableEq Mach := fun a b => decidable_of_iff (a.sto = b.sto ∧ a.next = b.next ∧ a.clis = b.clis) (by obtain ⟨a1, a2, a3⟩ := a; obtain ⟨b1, b2, b3⟩ := b; simp)
theorem newM_c : PCall Tryz.prog G 46 [] (.agg newM.c) := by
  simp only [newM, zeroS, Mach.c, List.map_nil]
  refine pcallc mixed Tryz.func46 ac_client_New ?_
  repeat' (first | (with_reducible first | refine Cn (fun h => ?_) fun h => ?_ | refine And.intro ?_ ?_ | refine wR ?_ | exact wr _ _ | refine wa ?_ | apply awp_join) | (with_reducible refine CallZ.z ?_) | simp -dsimp [go_sem])
theorem Inv.dom {k : Nat} {m : Mach} (h : Inv k m) : m.sto.Small ∧ m.clis.length ≤ 1000000 ∧ m.clis.length ≤ 1000 ∧ ∀ x ∈ m.clis, 0 ≤ x.seq ∧ x.seq ≤ 1048576 :=
  ⟨h.ok.sto.small, by have := h.ok.len; omega, by have := h.ok.len; omega, fun x hx => (h.ok.all x hx).seq⟩
theorem machineK_c (hG : Noth G) (l : List Deed) (hl : ∀ d ∈ l, d.Ok) (hn : (l.length : Int) ≤ 9223372036854775807) : PCall Tryz.prog G 24 [.one (.v (.sl (l.map Deed.row)))] (.agg (machV l).c) := by
  have hnew := newM_c (G := G)
  simp only [newM, zeroS, Mach.c, List.map_nil] at hnew
  refine pcallc mixed Tryz.func24 ac_rostrumkeep_Machine ?_
  repeat' (first | (with_reducible first | refine Cn (fun h => ?_) fun h => ?_ | refine And.intro ?_ ?_ | refine wR ?_ | exact wr _ _ | refine wa ?_ | apply awp_join | refine q hnew ?_ | refine qd hnew ?_ | refine qz hnew ?_) | (with_reducible refine CallZ.z ?_) | simp -dsimp [go_sem])
  refine awp_loop (fun i : Nat => ⟨[(0, .one (.v (.sl (l.map Deed.row)))), (2, .one (.ptr 0 0)), (3, .one (.ptr 1 0)), (4, iV (foldM (l.take i)).1), (5, iV i)], G, [some (.box 28 [iC 0, .nil, iC 0, .nil]), some (.box 28 (foldM (l.take i)).2.c)]⟩) (fun i => i ≤ l.length ∧ i ≤ 40) (fun i => 40 - i) 0 (weak_auto ?_) ⟨Nat.zero_le _, by omega⟩ ?_
  · simp -dsimp [go_sem, foldM, newM, zeroS, Mach.c]
  · rintro i ⟨hi, hi2⟩
    have ht : (l.take i).length ≤ 40 := by rw [List.length_take]; omega
    obtain ⟨g1, g2, g3, g4⟩ := foldM_inv (l.take i) (0, newM) 0 (fun d hd => hl d (List.mem_of_mem_take hd)) (by omega) newM_inv (Int.le_refl _) (by show (0 : Int) ≤ _; omega) (Int.le_refl _)
    change Inv _ (foldM (l.take i)).2 at g1
    change 0 ≤ (foldM (l.take i)).1 at g2
    change (foldM (l.take i)).1 ≤ _ at g3
    change (foldM (l.take i)).2.sto.now ≤ (foldM (l.take i)).1 at g4
    have g1 := g1.mono (j := 40) (by omega)
    have g3 : (foldM (l.take i)).1 ≤ 280 := by omega
    have w1 : IntKind.i64.wrap ((i : Int) + 1) = (i : Int) + 1 := IntWalk.i64_in _ (by omega)
    by_cases hlt : i < l.length ∧ i < 40
    · obtain ⟨d, hx⟩ : ∃ d, l[i]? = some d := ⟨_, List.getElem?_eq_getElem hlt.1⟩
      have hok := hl d (List.mem_of_getElem? hx)
      have hp := pk_range (n := d.wait) (m := 8) (by omega)
      have hpk := picked_c (G := G) d.wait 8 hok.wait (by omega)
      have hsu := foldM_succ hx
      generalize foldM (l.take i) = q at *
      obtain ⟨now, m⟩ := q
      simp only at g1 g2 g3 g4
      obtain ⟨f1, f2, f3, f4⟩ := g1.dom
      obtain ⟨m', r, e1, e2, _, _⟩ := stepM_inv (q := (now, m)) (d := d) g1 (by omega) hok g2 (by show now ≤ _; omega) g4
      simp only at e1 e2
      have hck := callK_c (G := G) m d hok f3 f4
      have hdo := doM_c hG m (now + pk d.wait 8) (callD m.clis d) f1 f2
      rw [e1] at hdo
      rw [e2] at hsu
      have w2 : IntKind.i64.wrap (now + pk d.wait 8) = now + pk d.wait 8 := IntWalk.i64_in _ (by omega)
      have q1 : decide (i < l.length) = true := by simp; omega
      have q2 : decide ((i : Int) < 40) = true := by simp; omega
      generalize callD m.clis d = c at *
      generalize pk d.wait 8 = p at *
      obtain ⟨d1, d2, d3, d4, d5, d6, d7, d8⟩ := d
      obtain ⟨⟨mn, me⟩, mx, ml⟩ := m
      obtain ⟨⟨mn', me'⟩, mx', ml'⟩ := m'
      obtain ⟨cid, cseq, ⟨ck, ckey, cf, ct, cn⟩⟩ := c
      obtain ⟨rc, rt, rn, rl⟩ := r
      simp only [DmA, Mach.c, Cal.c, Cmd.c, Rep.c, Deed.c] at hdo hck hpk ⊢
      repeat' (first | (with_reducible first | refine Cn (fun h => ?_) fun h => ?_ | refine And.intro ?_ ?_ | refine wR ?_ | exact wr _ _ | refine weak_autoC ?_ | apply awp_join | refine q hpk ?_ | refine qd hpk ?_ | refine qz hpk ?_ | refine q hck ?_ | refine qd hck ?_ | refine qz hck ?_ | refine q hdo ?_ | refine qd hdo ?_ | refine qz hdo ?_) | (with_reducible refine CallZ.z ?_) | simp -dsimp [go_sem, hx, Deed.row, w1, w2, q1, q2, clean_nil, clean_cons, clean_yes, clean_no])
      all_goals first
        | omega
        | (refine Again.auto (i + 1) ?_ ⟨hlt.1, hlt.2⟩ ?_
           · simp -dsimp [go_sem, hsu, Mach.c]
           · show 40 - (i + 1) < 40 - i; omega)
        | trace_state
    · have hend : machV l = (foldM (l.take i)).2 := by
        unfold machV
        have ht : l.take 40 = l.take i := by
          by_cases h : i < l.length
          · rw [show i = 40 by omega]
          · rw [List.take_of_length_le (by omega), List.take_of_length_le (by omega)]
        rw [ht]
      rw [hend]
      generalize foldM (l.take i) = q at *
      obtain ⟨now, ⟨mn, me⟩, mx, ml⟩ := q
      simp only [Mach.c]
      by_cases h : i < l.length
      · have q1 : decide (i < l.length) = true := by simpa using h
        have q2 : decide ((i : Int) < 40) = false := by simp; omega
        repeat' (first | (with_reducible first | refine Cn (fun h => ?_) fun h => ?_ | refine And.intro ?_ ?_ | refine wR ?_ | exact wr _ _ | refine wa ?_ | apply awp_join) | (with_reducible refine CallZ.z ?_) | simp -dsimp [go_sem, q1, q2])
      · have q1 : decide (i < l.length) = false := by simpa using h
        repeat' (first | (with_reducible first | refine Cn (fun h => ?_) fun h => ?_ | refine And.intro ?_ ?_ | refine wR ?_ | exact wr _ _ | refine wa ?_ | apply awp_join) | (with_reducible refine CallZ.z ?_) | simp -dsimp [go_sem, q1])
end Go.Proofs.YtpdcfljbabpakaaGreatDoor
set_option linter.unusedVariables false
set_option linter.unusedSimpArgs false
set_option maxRecDepth 100000
set_option maxHeartbeats 8000000
namespace Go.Proofs.YtpdcfljbabpakaaGreatDoor
open Go Go.RowKit Go.Proofs.AE
variable {G : Nat → AV}
theorem OkM.dom {m : Mach} (h : OkM m) : m.sto.Small ∧ m.clis.length ≤ 1000000 ∧ ∀ x ∈ m.clis, x.reply.list.length ≤ 1000 := ⟨h.sto.small, by have := h.len; omega, fun x hx => by have := (checkR_iff.1 (h.all x hx).reply).len; omega⟩
end Go.Proofs.YtpdcfljbabpakaaGreatDoor
set_option linter.unusedVariables false
set_option linter.unusedSimpArgs false
set_option maxRecDepth 100000
set_option maxHeartbeats 8000000
namespace Go.Proofs.YtpdcfljbabpakaaGreatDoor
open Go Go.RowKit Go.Proofs.AE
variable {G : Nat → AV}
theorem take_min {α : Type} (l : List α) (n : Nat) : l.take (min l.length n) = l.take n := by
  by_cases h : l.length ≤ n
  · rw [Nat.min_eq_left h, List.take_length, List.take_of_length_le h]
  · rw [Nat.min_eq_right (by omega)]
theorem rows_deeds (l : List Deed) : UL 8 (l.map Deed.row) := by
  intro r hr
  obtain ⟨y, _, rfl⟩ := List.mem_map.1 hr
  rfl
def snapM (l : List Deed) : Mach := machV (l.take 8)
theorem snapM_ok {l : List Deed} (hd : ∀ d ∈ l, d.Ok) : OkM (snapM l) := (machV_inv _ fun d h => hd d (List.mem_of_mem_take h)).1.ok
theorem snap_c (hG : Noth G) (l : List Deed) (i t : Int) (hd : ∀ d ∈ l, d.Ok) (hn : (l.length : Int) ≤ 9223372036854775807) (hi : i64 i) (ht : i64 t) :
    PCall Tryz.prog G 15 [.one (.v (.sl (l.map Deed.row))), iV i, iV t] (.agg ([iC (1 + pk i 40), iC (1 + pk t 5)] ++ (snapM l).c)) := by
  obtain ⟨M, hM⟩ : ∃ M : Nat, (if (8 : Int) < (l.length : Int) then (8 : Int) else (l.length : Int)) = M := by
    split
    · exact ⟨8, rfl⟩
    · exact ⟨l.length, rfl⟩
  have hM2 : M = min l.length 8 := by split at hM <;> omega
  have hmk := machineK_c hG (l.take M) (fun d h => hd d (List.mem_of_mem_take h)) (by rw [List.length_take]; omega)
  rw [hM2, take_min] at hmk
  change PCall _ _ _ _ (.agg (snapM l).c) at hmk
  have hM3 : (l.take 8).map Deed.row = (l.map Deed.row).take M := by rw [hM2, ← List.map_take, take_min]
  rw [hM3] at hmk
  have p1 := pk_range (n := i) (m := 40) (by omega)
  have p2 := pk_range (n := t) (m := 5) (by omega)
  have k1 := picked_c (G := G) i 40 hi (by omega)
  have k2 := picked_c (G := G) t 5 ht (by omega)
  have w1 : IntKind.i64.wrap (1 + pk i 40) = 1 + pk i 40 := IntWalk.i64_in _ (by omega)
  have w2 : IntKind.i64.wrap (1 + pk t 5) = 1 + pk t 5 := IntWalk.i64_in _ (by omega)
  have hul := rows_deeds l
  have hll : (l.map Deed.row).length = l.length := by simp
  generalize snapM l = m at *
  obtain ⟨⟨now, es⟩, next, cs⟩ := m
  simp only [Mach.c, List.cons_append, List.nil_append] at *
  refine pcallc mixed Tryz.func15 ac_rostrumkeep_snap ?_
  repeat' (first | (with_reducible first | refine Cn (fun h => ?_) fun h => ?_ | refine And.intro ?_ ?_ | refine wR ?_ | exact wr _ _ | refine wa ?_ | apply awp_join | refine q k1 ?_ | refine qd k1 ?_ | refine qz k1 ?_ | refine q k2 ?_ | refine qd k2 ?_ | refine qz k2 ?_ | refine q hmk ?_ | refine qd hmk ?_ | refine qz hmk ?_) | (with_reducible refine CallZ.z ?_) | simp -dsimp [go_sem, w1, w2, hM, hul, hll])
  all_goals first | omega | trace_state
end Go.Proofs.YtpdcfljbabpakaaGreatDoor
set_option linter.unusedVariables false
set_option linter.unusedSimpArgs false
set_option maxRecDepth 100000
set_option maxHeartbeats 8000000
namespace Go.Proofs.YtpdcfljbabpakaaGreatDoor
open Go Go.RowKit Go.Proofs.AE
variable {G : Nat → AV}
structure Note where
  kind : Int
  a : Int
  b : Int
  deeds : List Deed
structure Note.Ok (n : Note) : Prop where
  kind : i64 n.kind
  a : i64 n.a
  b : i64 n.b
  len : (n.deeds.length : Int) ≤ 9223372036854775807
  deeds : ∀ d ∈ n.deeds, d.Ok
def Note.c (n : Note) : List C := [iC n.kind, iC n.a, iC n.b, .v (.sl (n.deeds.map Deed.row))]
def Note.row (n : Note) : List V := [iL n.kind, iL n.a, iL n.b, .sl (n.deeds.map Deed.row)]
def noteD (n : Note) : Deed := match n.deeds with | d :: _ => d | [] => ⟨n.a, 0, 0, 0, 0, 0, 0, ⟨#[]⟩⟩
noncomputable def recordV (n : Note) : Rcd :=
  if pk n.kind 3 = 0 then markRc (1 + pk n.a 99) (pk n.b 4 - 1)
  else if pk n.kind 3 = 1 then ⟨2, 0, 0, 1 + pk n.a 99, itemOf (noteD n) (1 + pk n.b 1000) (pk n.a 100000), 0, 0, zeroM⟩
  else loadRc (1 + pk n.a 40) (1 + pk n.b 5) (snapM n.deeds)
theorem i64_0 : i64 0 := by unfold i64; omega
theorem noteD_ok {n : Note} (h : n.Ok) : (noteD n).Ok := by
  unfold noteD
  split
  · rename_i d l e; exact h.deeds d (by rw [e]; exact List.mem_cons_self ..)
  · exact ⟨h.a, i64_0, i64_0, i64_0, i64_0, i64_0, i64_0⟩
theorem record_ok {n : Note} (h : n.Ok) : checkRc (recordV n) = 0 := by
  have p1 := pk_range (n := n.a) (m := 99) (by omega)
  have p2 := pk_range (n := n.b) (m := 4) (by omega)
  have p3 := pk_range (n := n.b) (m := 1000) (by omega)
  have p4 := pk_range (n := n.a) (m := 100000) (by omega)
  have p5 := pk_range (n := n.a) (m := 40) (by omega)
  have p6 := pk_range (n := n.b) (m := 5) (by omega)
  unfold recordV
  split
  · exact markRc_ok (by omega) (by omega)
  · split
    · have hc := itemOf_check (noteD n) (noteD_ok h) (term := 1 + pk n.b 1000) (time := pk n.a 100000) (by omega) (by omega)
      have hn : okNumber (1 + pk n.a 99) = true := by unfold okNumber; simp; omega
      generalize itemOf (noteD n) (1 + pk n.b 1000) (pk n.a 100000) = x at *
      have hs : noSnap ⟨2, 0, 0, 1 + pk n.a 99, x, 0, 0, zeroM⟩ = true := rfl
      unfold checkRc
      rw [hs]
      simp [hn, hc]
    · exact loadRc_ok (by omega) (by omega) (snapM_ok h.deeds)
theorem record_small {n : Note} (h : n.Ok) : (recordV n).Small := by
  unfold recordV
  split
  · exact zeroM_small
  · split
    · exact zeroM_small
    · obtain ⟨d1, d2, _⟩ := (snapM_ok h.deeds).dom
      exact ⟨d1, d2⟩
theorem record_c (hG : Noth G) (n : Note) (h : n.Ok) : PCall Tryz.prog G 37 [.agg n.c] (.agg (recordV n).c) := by
  have k0 := picked_c (G := G) n.kind 3 h.kind (by omega)
  have hp := pk_range (n := n.kind) (m := 3) (by omega)
  have p1 := pk_range (n := n.a) (m := 99) (by omega)
  have p2 := pk_range (n := n.b) (m := 4) (by omega)
  have k1 := picked_c (G := G) n.a 99 h.a (by omega)
  have k2 := picked_c (G := G) n.b 4 h.b (by omega)
  have w1 : IntKind.i64.wrap (1 + pk n.a 99) = 1 + pk n.a 99 := IntWalk.i64_in _ (by omega)
  have w2 : IntKind.i64.wrap (pk n.b 4 - 1) = pk n.b 4 - 1 := IntWalk.i64_in _ (by omega)
  unfold recordV
  have hk : pk n.kind 3 = 0 ∨ pk n.kind 3 = 1 ∨ pk n.kind 3 = 2 := by omega
  rcases hk with hk | hk | hk
  · rw [if_pos hk]
    rw [hk] at k0
    obtain ⟨kind, a, b, ds⟩ := n
    simp only [Note.c, markRc, Rcd.c, zeroItem, zeroM, zeroS, List.map_nil] at *
    refine pcallc mixed Tryz.func37 ac_rostrumkeep_record ?_
    repeat' (first | (with_reducible first | refine Cn (fun h => ?_) fun h => ?_ | refine And.intro ?_ ?_ | refine wR ?_ | exact wr _ _ | refine wa ?_ | apply awp_join | refine q k0 ?_ | refine qd k0 ?_ | refine qz k0 ?_ | refine q k1 ?_ | refine qd k1 ?_ | refine qz k1 ?_ | refine q k2 ?_ | refine qd k2 ?_ | refine qz k2 ?_) | (with_reducible refine CallZ.z ?_) | simp -dsimp [go_sem, w1, w2])
    all_goals trace_state
  · rw [if_neg (by omega), if_pos hk]
    rw [hk] at k0
    have hdo := noteD_ok h
    have hI := itemOf_call (noteD n) (1 + pk n.b 1000) (pk n.a 100000)
    obtain ⟨t1, t2, t3⟩ := itemOf_head (noteD n) (1 + pk n.b 1000) (pk n.a 100000)
    have hic := item_c (G := G) (noteD n).client (noteD n).off (noteD n).wait (noteD n).kind (noteD n).key (noteD n).field (noteD n).n (noteD n).text n.b n.a hdo.client hdo.off hdo.kind hdo.key hdo.field hdo.n h.b h.a
    rw [hI] at hic
    generalize itemOf (noteD n) (1 + pk n.b 1000) (pk n.a 100000) = x at *
    rw [← t1, ← t2, ← t3] at hic
    have ha := h.a
    obtain ⟨kind, a, b, ds⟩ := n
    simp only at *
    cases ds with
    | nil =>
      simp only [noteD] at hic
      simp only [Note.c, Rcd.c, zeroM, zeroS, List.map_nil] at *
      refine pcallc mixed Tryz.func37 ac_rostrumkeep_record ?_
      repeat' (first | (with_reducible first | refine Cn (fun h => ?_) fun h => ?_ | refine And.intro ?_ ?_ | refine wR ?_ | exact wr _ _ | refine wa ?_ | apply awp_join | refine q k0 ?_ | refine qd k0 ?_ | refine qz k0 ?_ | refine q k1 ?_ | refine qd k1 ?_ | refine qz k1 ?_ | refine q hic ?_ | refine qd hic ?_ | refine qz hic ?_) | (with_reducible refine CallZ.z ?_) | simp -dsimp [go_sem, w1])
      all_goals trace_state
    | cons d ds =>
      simp only [noteD] at hic
      have hr : ((d :: ds).map Deed.row)[0]? = some d.row := rfl
      obtain ⟨L, hln, hL⟩ : ∃ L, ((d :: ds).map Deed.row).length = L ∧ 0 < L := ⟨_, rfl, by simp⟩
      have q1 : decide (0 < L) = true := decide_eq_true hL
      clear hL
      simp only [Note.c, Rcd.c, zeroM, zeroS, List.map_nil] at *
      generalize (d :: ds).map Deed.row = rows at *
      obtain ⟨d1, d2, d3, d4, d5, d6, d7, d8⟩ := d
      simp only [Deed.row] at hr
      simp only at hic
      refine pcallc mixed Tryz.func37 ac_rostrumkeep_record ?_
      repeat' (first | (with_reducible first | refine Cn (fun h => ?_) fun h => ?_ | refine And.intro ?_ ?_ | refine wR ?_ | exact wr _ _ | refine wa ?_ | apply awp_join | refine q k0 ?_ | refine qd k0 ?_ | refine qz k0 ?_ | refine q k1 ?_ | refine qd k1 ?_ | refine qz k1 ?_ | refine q hic ?_ | refine qd hic ?_ | refine qz hic ?_) | (with_reducible refine CallZ.z ?_) | simp -dsimp [go_sem, w1, hr, hln, q1])
      all_goals trace_state
  · rw [if_neg (by omega), if_neg (by omega)]
    rw [hk] at k0
    have hs := snap_c hG n.deeds n.a n.b h.deeds h.len h.a h.b
    generalize snapM n.deeds = m at *
    obtain ⟨kind, a, b, ds⟩ := n
    obtain ⟨⟨mn, me⟩, mx, mc⟩ := m
    simp only [Note.c, loadRc, Rcd.c, zeroItem, Mach.c, List.cons_append, List.nil_append] at *
    refine pcallc mixed Tryz.func37 ac_rostrumkeep_record ?_
    repeat' (first | (with_reducible first | refine Cn (fun h => ?_) fun h => ?_ | refine And.intro ?_ ?_ | refine wR ?_ | exact wr _ _ | refine wa ?_ | apply awp_join | refine q k0 ?_ | refine qd k0 ?_ | refine qz k0 ?_ | refine q hs ?_ | refine qd hs ?_ | refine qz hs ?_) | (with_reducible refine CallZ.z ?_) | simp -dsimp [go_sem])
    all_goals trace_state
end Go.Proofs.YtpdcfljbabpakaaGreatDoor
set_option linter.unusedVariables false
set_option linter.unusedSimpArgs false
set_option maxRecDepth 100000
set_option maxHeartbeats 8000000
namespace Go.Proofs.YtpdcfljbabpakaaGreatDoor
open Go Go.RowKit Go.Proofs.AE
variable {G : Nat → AV}
end Go.Proofs.YtpdcfljbabpakaaGreatDoor
set_option linter.unusedVariables false
set_option linter.unusedSimpArgs false
set_option maxRecDepth 100000
set_option maxHeartbeats 8000000
namespace Go.Proofs.YtpdcfljbabpakaaGreatDoor
open Go Go.RowKit Go.Proofs.AE
variable {G : Nat → AV}
end Go.Proofs.YtpdcfljbabpakaaGreatDoor
set_option linter.unusedVariables false
set_option linter.unusedSimpArgs false
set_option maxRecDepth 100000
set_option maxHeartbeats 8000000
namespace Go.Proofs.YtpdcfljbabpakaaGreatDoor
open Go Go.RowKit Go.Proofs.AE
variable {G : Nat → AV}
end Go.Proofs.YtpdcfljbabpakaaGreatDoor
set_option linter.unusedVariables false
set_option linter.unusedSimpArgs false
set_option maxRecDepth 100000
set_option maxHeartbeats 8000000
namespace Go.Proofs.YtpdcfljbabpakaaGreatDoor
open Go Go.RowKit Go.Proofs.AE
variable {G : Nat → AV}
end Go.Proofs.YtpdcfljbabpakaaGreatDoor
set_option linter.unusedVariables false
set_option linter.unusedSimpArgs false
set_option maxRecDepth 100000
set_option maxHeartbeats 8000000
namespace Go.Proofs.YtpdcfljbabpakaaGreatDoor
open Go Go.RowKit Go.Proofs.AE
variable {G : Nat → AV}
abbrev ac_rostrumkeep_RecordBad := CC.of Tryz.f14 []
theorem fold_bad {r : Rcd} (h : checkRc r ≠ 0) : foldD [r] = (zeroD, checkRc r) := by
  have h1 : foldStep newD r = (zeroD, checkRc r) := by unfold foldStep; rw [if_pos h]
  unfold foldD foldGo
  rw [h1, if_pos h]
theorem bad_three (R : Rcd) {w : Int} (hs : R.Small) (hw : checkRc R = w) (h0 : w ≠ 0) : PCall Tryz.prog G 18 [.agg R.c] (iV w) ∧ PCall Tryz.prog G 38 [.agg [.v (.sl []), iC 0], .agg R.c] (.tup [.agg [.v (.sl []), iC 0], iV w]) ∧
    PCall Tryz.prog G 34 [.one (.v (.sl [R.row]))] (.tup [.agg zeroD.c, iV w]) := by
  subst hw
  have k3 := fold_c (G := G) [R] (fun x hx => by rw [List.mem_singleton.1 hx]; exact hs) (by simp)
  rw [fold_bad h0] at k3
  exact ⟨checkRc_c R hs.1 hs.2, appendBad_c [] 0 R ⟨by simp, by simp, by simp⟩ hs.1 hs.2 h0, k3⟩
theorem recordBad_c (hG : Noth G) (n : Note) (a : Int) (hn : n.Ok) (ha : i64 a) : PCall Tryz.prog G 14 [.agg n.c, iV a] (bV true) := by
  have k2 := record_c hG n hn
  have hrok := record_ok hn
  have hrs := record_small hn
  generalize recordV n = r at *
  have kc := checkRc_c (G := G) r hrs.1 hrs.2
  rw [hrok] at kc
  have hp := pk_range (n := a) (m := 4) (by omega)
  have k3 := picked_c (G := G) a 4 ha (by omega)
  have hsm := zeroM_small
  have hk : pk a 4 = 0 ∨ pk a 4 = 1 ∨ pk a 4 = 2 ∨ pk a 4 = 3 := by omega
  rcases hk with hk | hk | hk | hk
  · rw [hk] at k3
    obtain ⟨c1, c2, c3⟩ := bad_three (G := G) ⟨1, 1, 0, 1, zeroItem, 0, 0, zeroM⟩ (w := 8) hsm rfl (by omega)
    obtain ⟨kind, x, y, ds⟩ := n
    obtain ⟨k, t', f, ix, ⟨xt, xm, xn, xc, xs, xk, xa, xb, xd, xx⟩, si, st, ⟨⟨mn, me⟩, mx, mc⟩⟩ := r
    simp only [Note.c, Rcd.c, Rcd.row, Mach.c, zeroItem, zeroM, zeroS, zeroD, Dsk.c, zeroLg, Lg.c, logC, List.map_nil, List.cons_append, List.nil_append] at *
    clear hrok hrs hsm
    refine pcallc mixed Tryz.func14 ac_rostrumkeep_RecordBad ?_
    repeat' (first | (with_reducible first | refine Cn (fun h => ?_) fun h => ?_ | refine And.intro ?_ ?_ | refine wR ?_ | exact wr _ _ | refine wa ?_ | apply awp_join | refine q k2 ?_ | refine qd k2 ?_ | refine qz k2 ?_ | refine q kc ?_ | refine qd kc ?_ | refine qz kc ?_ | refine q k3 ?_ | refine qd k3 ?_ | refine qz k3 ?_ | refine q c1 ?_ | refine qd c1 ?_ | refine qz c1 ?_ | refine q c2 ?_ | refine qd c2 ?_ | refine qz c2 ?_ | refine q c3 ?_ | refine qd c3 ?_ | refine qz c3 ?_) | (with_reducible refine CallZ.z ?_) | simp -dsimp [go_sem])
    all_goals trace_state
  · rw [hk] at k3
    obtain ⟨c1, c2, c3⟩ := bad_three (G := G) ⟨2, 0, -1, 1, ⟨1, 0, true, 0, 0, 0, ⟨#[]⟩, ⟨#[]⟩, ⟨#[]⟩, 0⟩, 0, 0, zeroM⟩ (w := 8) hsm rfl (by omega)
    obtain ⟨kind, x, y, ds⟩ := n
    obtain ⟨k, t', f, ix, ⟨xt, xm, xn, xc, xs, xk, xa, xb, xd, xx⟩, si, st, ⟨⟨mn, me⟩, mx, mc⟩⟩ := r
    simp only [Note.c, Rcd.c, Rcd.row, Mach.c, zeroItem, zeroM, zeroS, zeroD, Dsk.c, zeroLg, Lg.c, logC, List.map_nil, List.cons_append, List.nil_append] at *
    clear hrok hrs hsm
    refine pcallc mixed Tryz.func14 ac_rostrumkeep_RecordBad ?_
    repeat' (first | (with_reducible first | refine Cn (fun h => ?_) fun h => ?_ | refine And.intro ?_ ?_ | refine wR ?_ | exact wr _ _ | refine wa ?_ | apply awp_join | refine q k2 ?_ | refine qd k2 ?_ | refine qz k2 ?_ | refine q kc ?_ | refine qd kc ?_ | refine qz kc ?_ | refine q k3 ?_ | refine qd k3 ?_ | refine qz k3 ?_ | refine q c1 ?_ | refine qd c1 ?_ | refine qz c1 ?_ | refine q c2 ?_ | refine qd c2 ?_ | refine qz c2 ?_ | refine q c3 ?_ | refine qd c3 ?_ | refine qz c3 ?_) | (with_reducible refine CallZ.z ?_) | simp -dsimp [go_sem])
    all_goals trace_state
  · rw [hk] at k3
    obtain ⟨c1, c2, c3⟩ := bad_three (G := G) ⟨1, 0, 1, 0, zeroItem, 0, 0, zeroM⟩ (w := 2) hsm rfl (by omega)
    obtain ⟨kind, x, y, ds⟩ := n
    obtain ⟨k, t', f, ix, ⟨xt, xm, xn, xc, xs, xk, xa, xb, xd, xx⟩, si, st, ⟨⟨mn, me⟩, mx, mc⟩⟩ := r
    simp only [Note.c, Rcd.c, Rcd.row, Mach.c, zeroItem, zeroM, zeroS, zeroD, Dsk.c, zeroLg, Lg.c, logC, List.map_nil, List.cons_append, List.nil_append] at *
    clear hrok hrs hsm
    refine pcallc mixed Tryz.func14 ac_rostrumkeep_RecordBad ?_
    repeat' (first | (with_reducible first | refine Cn (fun h => ?_) fun h => ?_ | refine And.intro ?_ ?_ | refine wR ?_ | exact wr _ _ | refine wa ?_ | apply awp_join | refine q k2 ?_ | refine qd k2 ?_ | refine qz k2 ?_ | refine q kc ?_ | refine qd kc ?_ | refine qz kc ?_ | refine q k3 ?_ | refine qd k3 ?_ | refine qz k3 ?_ | refine q c1 ?_ | refine qd c1 ?_ | refine qz c1 ?_ | refine q c2 ?_ | refine qd c2 ?_ | refine qz c2 ?_ | refine q c3 ?_ | refine qd c3 ?_ | refine qz c3 ?_) | (with_reducible refine CallZ.z ?_) | simp -dsimp [go_sem])
    all_goals trace_state
  · rw [hk] at k3
    obtain ⟨k, t', f, ix, ⟨xt, xm, xn, xc, xs, xk, xa, xb, xd, xx⟩, si, st, ⟨⟨mn, me⟩, mx, mc⟩⟩ := r
    obtain ⟨c1, c2, c3⟩ := bad_three (G := G) ⟨4, t', f, ix, ⟨xt, xm, xn, xc, xs, xk, xa, xb, xd, xx⟩, si, st, ⟨⟨mn, me⟩, mx, mc⟩⟩ (w := 3) hrs (by unfold checkRc; simp) (by omega)
    obtain ⟨kind, x, y, ds⟩ := n
    simp only [Note.c, Rcd.c, Rcd.row, Mach.c, zeroItem, zeroM, zeroS, zeroD, Dsk.c, zeroLg, Lg.c, logC, List.map_nil, List.cons_append, List.nil_append] at *
    clear hrok hrs hsm
    refine pcallc mixed Tryz.func14 ac_rostrumkeep_RecordBad ?_
    repeat' (first | (with_reducible first | refine Cn (fun h => ?_) fun h => ?_ | refine And.intro ?_ ?_ | refine wR ?_ | exact wr _ _ | refine wa ?_ | apply awp_join | refine q k2 ?_ | refine qd k2 ?_ | refine qz k2 ?_ | refine q kc ?_ | refine qd kc ?_ | refine qz kc ?_ | refine q k3 ?_ | refine qd k3 ?_ | refine qz k3 ?_ | refine q c1 ?_ | refine qd c1 ?_ | refine qz c1 ?_ | refine q c2 ?_ | refine qd c2 ?_ | refine qz c2 ?_ | refine q c3 ?_ | refine qd c3 ?_ | refine qz c3 ?_) | (with_reducible refine CallZ.z ?_) | simp -dsimp [go_sem])
    all_goals trace_state
end Go.Proofs.YtpdcfljbabpakaaGreatDoor
set_option linter.unusedVariables false
set_option linter.unusedSimpArgs false
set_option maxRecDepth 100000
set_option maxHeartbeats 8000000
namespace Go.Proofs.YtpdcfljbabpakaaGreatDoor
open Go Go.RowKit Go.Proofs.AE
theorem note_deep : deepT Tryz.prog true 6 92 = true := by
  have h := slicesOk_spec slok (by decide +kernel) Tryz.underlying22
  simp [deepT, go_sem, h]
theorem note_wt {vs : List V} (h : WT Tryz.prog 6 92 vs) : ∃ n : Note, vs = n.row ∧ n.Ok := by
  obtain ⟨hl, hf⟩ := WT_struct ti92 rfl h
  obtain ⟨j0, e0, r0⟩ := hf (3, 0) (by simp)
  obtain ⟨j1, e1, r1⟩ := hf (3, 1) (by simp)
  obtain ⟨j2, e2, r2⟩ := hf (3, 2) (by simp)
  obtain ⟨j3, e3, r3⟩ := hf (22, 3) (by simp)
  rw [ti3] at e0 e1 e2
  rw [ti22] at e3
  cases e0; cases e1; cases e2; cases e3
  simp only [WT, ti3] at r0 r1 r2
  obtain ⟨x, hx, wx⟩ := r0
  obtain ⟨y, hy, wy⟩ := r1
  obtain ⟨z, hz, wz⟩ := r2
  rw [WT, ti22] at r3
  obtain ⟨rows, hs, hm, hr⟩ := r3
  obtain ⟨ds, hds, hok⟩ := deeds_of rows hr
  match vs, hl with
  | [v0, v1, v2, v3], _ =>
    simp at hx hy hz hs
    subst hx; subst hy; subst hz; subst hs
    refine ⟨⟨x, y, z, ds⟩, by rw [hds]; rfl, wf_i64 wx, wf_i64 wy, wf_i64 wz, ?_, hok⟩
    rw [hds, List.length_map] at hm
    simp [maxLen] at hm; simp only; omega
end Go.Proofs.YtpdcfljbabpakaaGreatDoor
set_option linter.unusedVariables false
set_option linter.unusedSimpArgs false
set_option maxRecDepth 100000
set_option maxHeartbeats 8000000
namespace Go.Proofs.YtpdcfljbabpakaaGreatDoor
open Go Go.ChangeShapes Go.WideShapes Go.ChangeAt Go.RowKit Go.Proofs.AE
abbrev laidV {H : Type} : List (String × DataW H) := [("rostrum/client.nothing", Rows.laid_rostrum_client_nothing)]
theorem gNoth : Tryz.prog.globalNamed "rostrum/client.nothing" = some 0 := by kernel_rfl
theorem tNoth : (Tryz.prog.globals[0]?).map (·.type) = some 37 := by kernel_rfl
theorem door_met (os : Os) (args : Array Value) : laidMetH Tryz.prog laidV ((World.doorLaid Tryz.prog 14 os).forCall (fun _ _ => 0) ⟨#[], args, []⟩).memory :=
  laidMetH_of_parts3 (fuel := 8) (laidMet_of_run' 8 (by kernel_rfl) (by kernel_rfl)) (by kernel_rfl) (by kernel_rfl)
def gN : Nat → AV := fun g => if g = 0 then .one (.vptr [.lit (.int .i64 22), .lit (.string ⟨#[]⟩), .lit (.string ⟨#[]⟩), .lit (.string ⟨#[]⟩), .lit (.int .i64 0)]) else .any
theorem gN_noth : Noth gN := rfl
theorem noth_cells {W : World} (h : laidMetH Tryz.prog laidV W) : W.cell? ⟨0, 0, none⟩ = some (.int .i64 22) ∧ W.cell? ⟨0, 1, none⟩ = some (.string ⟨#[]⟩) ∧ W.cell? ⟨0, 2, none⟩ = some (.string ⟨#[]⟩) ∧ W.cell? ⟨0, 3, none⟩ = some (.string ⟨#[]⟩) ∧ W.cell? ⟨0, 4, none⟩ = some (.int .i64 0) := by
  rw [MakeChecks.laidMetH_plain _ _ _ (by kernel_rfl)] at h
  obtain ⟨ps, ⟨g0, t0, cs0, f0, p0, q0, hg0, ht0, hv0, hd0, _, _⟩, _⟩ := h
  obtain rfl := Option.some.inj (gNoth.symm.trans hg0)
  obtain rfl := Option.some.inj (tNoth.symm.trans ht0)
  have hc := fun j => World.var?_cell hg0 hv0 j
  obtain ⟨xs, m, h1, h2, h3, h4, h5⟩ := DataW.trod_struct Tryz.underlying37 hd0
  have c3 : Tryz.prog.cellsOf 3 = 1 := by kernel_rfl
  have c9 : Tryz.prog.cellsOf 9 = 1 := by kernel_rfl
  have c41 : Tryz.prog.cellsOf 37 = 5 := by kernel_rfl
  rw [c41] at h3
  simp only [Prod.mk.injEq] at h2
  have h2 := h2.1
  unfold Rows.laid_rostrum_client_nothing at h2
  obtain ⟨l⟩ := cs0
  simp only at h3 h5
  have h4 : xs.length = 5 := h4
  clear hd0
  match l, h3, xs, h4 with
  | [y0, y1, y2, y3, y4], _, [x0, x1, x2, x3, x4], _ =>
    simp only [DataW.agg.injEq, List.map_cons, List.map_nil, List.cons.injEq, and_true] at h2
    obtain ⟨e0, e1, e2, e3, e4⟩ := h2
    have a0 : DataW.trod (fun _ => ()) Tryz.prog W 0 (fun _ => true) false m 3 [y0] = some x0 := by
      have h := h5 0 _ rfl
      change DataW.trod _ _ _ _ _ _ _ 3 (List.take (Tryz.prog.cellsOf 3) (y0 :: _)) = _ at h
      rw [c3] at h
      exact h
    have a1 : DataW.trod (fun _ => ()) Tryz.prog W 0 (fun _ => true) false m 9 [y1] = some x1 := by
      have h := h5 1 _ rfl
      change DataW.trod _ _ _ _ _ _ _ 9 (List.take (Tryz.prog.cellsOf 9) (y1 :: _)) = _ at h
      rw [c9] at h
      exact h
    have a2 : DataW.trod (fun _ => ()) Tryz.prog W 0 (fun _ => true) false m 9 [y2] = some x2 := by
      have h := h5 2 _ rfl
      change DataW.trod _ _ _ _ _ _ _ 9 (List.take (Tryz.prog.cellsOf 9) (y2 :: _)) = _ at h
      rw [c9] at h
      exact h
    have a3 : DataW.trod (fun _ => ()) Tryz.prog W 0 (fun _ => true) false m 9 [y3] = some x3 := by
      have h := h5 3 _ rfl
      change DataW.trod _ _ _ _ _ _ _ 9 (List.take (Tryz.prog.cellsOf 9) (y3 :: _)) = _ at h
      rw [c9] at h
      exact h
    have a4 : DataW.trod (fun _ => ()) Tryz.prog W 0 (fun _ => true) false m 3 [y4] = some x4 := by
      have h := h5 4 _ rfl
      change DataW.trod _ _ _ _ _ _ _ 3 (List.take (Tryz.prog.cellsOf 3) (y4 :: _)) = _ at h
      rw [c3] at h
      exact h
    obtain ⟨n0, b0, r0, _⟩ := DataW.trod_int Tryz.underlying3 (x := x0) a0
    obtain ⟨s1, b1, r1, _⟩ := DataW.trod_string Tryz.underlying9 (x := x1) a1
    obtain ⟨s2, b2, r2, _⟩ := DataW.trod_string Tryz.underlying9 (x := x2) a2
    obtain ⟨s3, b3, r3, _⟩ := DataW.trod_string Tryz.underlying9 (x := x3) a3
    obtain ⟨n4, b4, r4, _⟩ := DataW.trod_int Tryz.underlying3 (x := x4) a4
    have emp : ∀ s : ByteArray, s.data.toList = [] → s = ⟨#[]⟩ := fun s h => ba_ext h
    subst r0; subst r1; subst r2; subst r3; subst r4
    simp only [DataW.lit.injEq, Lit.int.injEq, Lit.string.injEq] at e0 e1 e2 e3 e4
    have e1 := emp s1 e1.symm
    have e2 := emp s2 e2.symm
    have e3 := emp s3 e3.symm
    have k0 : (22 : Int) = n0 := by simpa using e0
    have k4 : (0 : Int) = n4 := by simpa using e4
    simp at b0 b1 b2 b3 b4
    subst b0; subst b1; subst b2; subst b3; subst b4; subst e1; subst e2; subst e3; subst k0; subst k4
    refine ⟨?_, ?_, ?_, ?_, ?_⟩ <;> (rw [hc]; rfl)
theorem gN_rel {W : World} (h : laidMetH Tryz.prog laidV W) (hb : 0 < W.heap.size) : GRel W (fun b => b < W.heap.size) gN := by
  intro g ν
  obtain ⟨h0, h1, h2, h3, h4⟩ := noth_cells h
  unfold gN
  by_cases hg : g = 0
  · subst hg
    rw [if_pos rfl]
    refine .one (.vptr 0 0 (fun j => if j = 0 then .int .i64 22 else if j = 4 then .int .i64 0 else .string ⟨#[]⟩) hb ?_ ?_)
    · intro j v hj
      match j, hj with
      | 0, _ => exact h0
      | 1, _ => exact h1
      | 2, _ => exact h2
      | 3, _ => exact h3
      | 4, _ => exact h4
    · intro j v hj
      match j, hj with
      | 0, hj => cases hj; exact .lit _ rfl
      | 1, hj => cases hj; exact .lit _ rfl
      | 2, hj => cases hj; exact .lit _ rfl
      | 3, hj => cases hj; exact .lit _ rfl
      | 4, hj => cases hj; exact .lit _ rfl
  · rw [if_neg hg]
    exact .any
theorem heap_pos {W : World} (h : laidMetH Tryz.prog laidV W) : 0 < W.heap.size := by
  have h0 := (noth_cells h).1
  unfold World.cell? at h0
  split at h0
  · rename_i hx
    exact (Array.getElem?_eq_some_iff.1 hx).1
  · cases h0
end Go.Proofs.YtpdcfljbabpakaaGreatDoor
