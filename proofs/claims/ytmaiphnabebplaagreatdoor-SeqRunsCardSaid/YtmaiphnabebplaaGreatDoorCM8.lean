/- SeqRuns: the walk. -/
import Derived.Test.YtmaiphnabebplaaGreatDoorCL8
import Derived.Test.YtmaiphnabebplaaGreatDoorCN1
set_option linter.unusedVariables false
set_option linter.unusedSimpArgs false
set_option maxRecDepth 100000
set_option maxHeartbeats 8000000
namespace Go.Proofs.YtmaiphnabebplaaGreatDoor
open Go Go.RowKit Go.Proofs.AE
abbrev ac_rostrumkeep_SeqRuns := CC.of Tryz.f10 [(6, [([0, 1, 2, 3, 4, 5, 6, 7, 8, 9, 10, 11, 12, 13, 14, 15, 16, 17, 18, 19, 20, 21, 22], [(0, 11), (0, 18), (0, 19), (3, 11), (3, 18), (3, 19), (9, 18), (9, 19), (10, 18), (10, 19)]), ([0, 1, 2, 3, 4, 5, 6, 7, 8, 9, 10, 11, 12, 13, 14, 15, 16, 17, 19, 18, 20, 21, 22], [(0, 11), (0, 18), (0, 19), (3, 11), (3, 18), (3, 19), (9, 18), (9, 19), (10, 18), (10, 19)]), ([0, 1, 2, 3, 4, 5, 6, 7, 8, 9, 10, 11, 12, 18, 13, 14, 15, 16, 17, 19, 20, 21, 22], [(0, 11), (0, 13), (0, 19), (3, 11), (3, 13), (3, 19), (9, 13), (9, 19), (10, 13), (10, 19)]), ([0, 1, 2, 3, 4, 5, 6, 7, 8, 9, 10, 11, 12, 18, 19, 13, 14, 15, 16, 17, 20, 21, 22], [(0, 11), (0, 13), (0, 14), (3, 11), (3, 13), (3, 14), (9, 13), (9, 14), (10, 13), (10, 14)]), ([0, 1, 2, 3, 4, 5, 6, 7, 8, 9, 10, 11, 12, 19, 13, 14, 15, 16, 17, 18, 20, 21, 22], [(0, 11), (0, 13), (0, 19), (3, 11), (3, 13), (3, 19), (9, 13), (9, 19), (10, 13), (10, 19)]), ([0, 1, 2, 3, 4, 5, 6, 7, 8, 9, 10, 11, 12, 19, 18, 13, 14, 15, 16, 17, 20, 21, 22], [(0, 11), (0, 13), (0, 14), (3, 11), (3, 13), (3, 14), (9, 13), (9, 14), (10, 13), (10, 14)]), ([0, 1, 2, 3, 4, 5, 6, 7, 8, 9, 10, 18, 11, 12, 13, 14, 15, 16, 17, 19, 20, 21, 22], [(0, 11), (0, 12), (0, 19), (3, 11), (3, 12), (3, 19), (9, 11), (9, 19), (10, 11), (10, 19)]), ([0, 1, 2, 3, 4, 5, 6, 7, 8, 9, 10, 18, 11, 12, 19, 13, 14, 15, 16, 17, 20, 21, 22], [(0, 11), (0, 12), (0, 14), (3, 11), (3, 12), (3, 14), (9, 11), (9, 14), (10, 11), (10, 14)]), ([0, 1, 2, 3, 4, 5, 6, 7, 8, 9, 10, 18, 19, 11, 12, 13, 14, 15, 16, 17, 20, 21, 22], [(0, 11), (0, 12), (0, 13), (3, 11), (3, 12), (3, 13), (9, 11), (9, 12), (10, 11), (10, 12)]), ([0, 1, 2, 3, 4, 5, 6, 7, 8, 9, 10, 19, 11, 12, 13, 14, 15, 16, 17, 18, 20, 21, 22], [(0, 11), (0, 12), (0, 19), (3, 11), (3, 12), (3, 19), (9, 11), (9, 19), (10, 11), (10, 19)]), ([0, 1, 2, 3, 4, 5, 6, 7, 8, 9, 10, 19, 11, 12, 18, 13, 14, 15, 16, 17, 20, 21, 22], [(0, 11), (0, 12), (0, 14), (3, 11), (3, 12), (3, 14), (9, 11), (9, 14), (10, 11), (10, 14)]), ([0, 1, 2, 3, 4, 5, 6, 7, 8, 9, 10, 19, 18, 11, 12, 13, 14, 15, 16, 17, 20, 21, 22], [(0, 11), (0, 12), (0, 13), (3, 11), (3, 12), (3, 13), (9, 11), (9, 12), (10, 11), (10, 12)])]), (7, [([0, 1, 2, 3, 4, 5, 6, 7, 8, 9, 10, 11, 12, 13, 14, 15, 16, 17, 18, 19, 20, 21, 22, 23, 24, 25], [(0, 8), (0, 14), (0, 21), (0, 22), (3, 8), (3, 14), (3, 21), (3, 22), (12, 8), (12, 21), (12, 22), (13, 8), (13, 21), (13, 22)]), ([0, 1, 2, 3, 4, 5, 6, 7, 8, 9, 10, 11, 12, 13, 14, 15, 16, 17, 18, 19, 20, 22, 21, 23, 24, 25], [(0, 8), (0, 14), (0, 21), (0, 22), (3, 8), (3, 14), (3, 21), (3, 22), (12, 8), (12, 21), (12, 22), (13, 8), (13, 21), (13, 22)]), ([0, 1, 2, 3, 4, 5, 6, 7, 8, 9, 10, 11, 12, 13, 14, 15, 21, 16, 17, 18, 19, 20, 22, 23, 24, 25], [(0, 8), (0, 14), (0, 16), (0, 22), (3, 8), (3, 14), (3, 16), (3, 22), (12, 8), (12, 16), (12, 22), (13, 8), (13, 16), (13, 22)]), ([0, 1, 2, 3, 4, 5, 6, 7, 8, 9, 10, 11, 12, 13, 14, 15, 21, 22, 16, 17, 18, 19, 20, 23, 24, 25], [(0, 8), (0, 14), (0, 16), (0, 17), (3, 8), (3, 14), (3, 16), (3, 17), (12, 8), (12, 16), (12, 17), (13, 8), (13, 16), (13, 17)]), ([0, 1, 2, 3, 4, 5, 6, 7, 8, 9, 10, 11, 12, 13, 14, 15, 22, 16, 17, 18, 19, 20, 21, 23, 24, 25], [(0, 8), (0, 14), (0, 16), (0, 22), (3, 8), (3, 14), (3, 16), (3, 22), (12, 8), (12, 16), (12, 22), (13, 8), (13, 16), (13, 22)]), ([0, 1, 2, 3, 4, 5, 6, 7, 8, 9, 10, 11, 12, 13, 14, 15, 22, 21, 16, 17, 18, 19, 20, 23, 24, 25], [(0, 8), (0, 14), (0, 16), (0, 17), (3, 8), (3, 14), (3, 16), (3, 17), (12, 8), (12, 16), (12, 17), (13, 8), (13, 16), (13, 17)]), ([0, 1, 2, 3, 4, 5, 6, 7, 8, 9, 10, 11, 12, 13, 21, 14, 15, 16, 17, 18, 19, 20, 22, 23, 24, 25], [(0, 8), (0, 14), (0, 15), (0, 22), (3, 8), (3, 14), (3, 15), (3, 22), (12, 8), (12, 14), (12, 22), (13, 8), (13, 14), (13, 22)]), ([0, 1, 2, 3, 4, 5, 6, 7, 8, 9, 10, 11, 12, 13, 21, 14, 15, 22, 16, 17, 18, 19, 20, 23, 24, 25], [(0, 8), (0, 14), (0, 15), (0, 17), (3, 8), (3, 14), (3, 15), (3, 17), (12, 8), (12, 14), (12, 17), (13, 8), (13, 14), (13, 17)]), ([0, 1, 2, 3, 4, 5, 6, 7, 8, 9, 10, 11, 12, 13, 21, 22, 14, 15, 16, 17, 18, 19, 20, 23, 24, 25], [(0, 8), (0, 14), (0, 15), (0, 16), (3, 8), (3, 14), (3, 15), (3, 16), (12, 8), (12, 14), (12, 15), (13, 8), (13, 14), (13, 15)]), ([0, 1, 2, 3, 4, 5, 6, 7, 8, 9, 10, 11, 12, 13, 22, 14, 15, 16, 17, 18, 19, 20, 21, 23, 24, 25], [(0, 8), (0, 14), (0, 15), (0, 22), (3, 8), (3, 14), (3, 15), (3, 22), (12, 8), (12, 14), (12, 22), (13, 8), (13, 14), (13, 22)]), ([0, 1, 2, 3, 4, 5, 6, 7, 8, 9, 10, 11, 12, 13, 22, 14, 15, 21, 16, 17, 18, 19, 20, 23, 24, 25], [(0, 8), (0, 14), (0, 15), (0, 17), (3, 8), (3, 14), (3, 15), (3, 17), (12, 8), (12, 14), (12, 17), (13, 8), (13, 14), (13, 17)]), ([0, 1, 2, 3, 4, 5, 6, 7, 8, 9, 10, 11, 12, 13, 22, 21, 14, 15, 16, 17, 18, 19, 20, 23, 24, 25], [(0, 8), (0, 14), (0, 15), (0, 16), (3, 8), (3, 14), (3, 15), (3, 16), (12, 8), (12, 14), (12, 15), (13, 8), (13, 14), (13, 15)]), ([0, 1, 2, 3, 4, 5, 6, 7, 10, 11, 12, 13, 21, 8, 9, 14, 15, 16, 17, 18, 19, 20, 22, 23, 24, 25], [(0, 12), (0, 13), (0, 15), (0, 22), (3, 12), (3, 13), (3, 15), (3, 22), (10, 12), (10, 13), (10, 22), (11, 12), (11, 13), (11, 22)]), ([0, 1, 2, 3, 4, 5, 6, 7, 10, 11, 12, 13, 21, 8, 9, 14, 15, 22, 16, 17, 18, 19, 20, 23, 24, 25], [(0, 12), (0, 13), (0, 15), (0, 17), (3, 12), (3, 13), (3, 15), (3, 17), (10, 12), (10, 13), (10, 17), (11, 12), (11, 13), (11, 17)]), ([0, 1, 2, 3, 4, 5, 6, 7, 10, 11, 12, 13, 21, 8, 9, 22, 14, 15, 16, 17, 18, 19, 20, 23, 24, 25], [(0, 12), (0, 13), (0, 15), (0, 16), (3, 12), (3, 13), (3, 15), (3, 16), (10, 12), (10, 13), (10, 15), (11, 12), (11, 13), (11, 15)]), ([0, 1, 2, 3, 4, 5, 6, 7, 10, 11, 12, 13, 21, 22, 8, 9, 14, 15, 16, 17, 18, 19, 20, 23, 24, 25], [(0, 12), (0, 13), (0, 14), (0, 16), (3, 12), (3, 13), (3, 14), (3, 16), (10, 12), (10, 13), (10, 14), (11, 12), (11, 13), (11, 14)]), ([0, 1, 2, 3, 4, 5, 6, 7, 10, 11, 12, 13, 22, 8, 9, 14, 15, 16, 17, 18, 19, 20, 21, 23, 24, 25], [(0, 12), (0, 13), (0, 15), (0, 22), (3, 12), (3, 13), (3, 15), (3, 22), (10, 12), (10, 13), (10, 22), (11, 12), (11, 13), (11, 22)]), ([0, 1, 2, 3, 4, 5, 6, 7, 10, 11, 12, 13, 22, 8, 9, 14, 15, 21, 16, 17, 18, 19, 20, 23, 24, 25], [(0, 12), (0, 13), (0, 15), (0, 17), (3, 12), (3, 13), (3, 15), (3, 17), (10, 12), (10, 13), (10, 17), (11, 12), (11, 13), (11, 17)]), ([0, 1, 2, 3, 4, 5, 6, 7, 10, 11, 12, 13, 22, 8, 9, 21, 14, 15, 16, 17, 18, 19, 20, 23, 24, 25], [(0, 12), (0, 13), (0, 15), (0, 16), (3, 12), (3, 13), (3, 15), (3, 16), (10, 12), (10, 13), (10, 15), (11, 12), (11, 13), (11, 15)]), ([0, 1, 2, 3, 4, 5, 6, 7, 10, 11, 12, 13, 22, 21, 8, 9, 14, 15, 16, 17, 18, 19, 20, 23, 24, 25], [(0, 12), (0, 13), (0, 14), (0, 16), (3, 12), (3, 13), (3, 14), (3, 16), (10, 12), (10, 13), (10, 14), (11, 12), (11, 13), (11, 14)])]), (8, [([0, 1, 2, 3, 4, 5, 6, 7, 8, 9, 10, 11, 12, 13, 14, 15, 16, 17, 18, 19, 20, 21, 22, 23, 24, 25, 26, 27, 28, 29, 30, 31, 32, 33, 34, 35, 36, 37, 38, 39, 40, 41, 42], [])])]
variable {G : Nat → AV}
/-- A part of code, by its path. -/
def subC : List Nat → ACode → ACode
  | [], c => c
  | i :: r, .seq a b => subC r (if i = 0 then a else b)
  | i :: r, .cond _ t e => subC r (if i = 0 then t else e)
  | _ :: r, .block _ c => subC r c
  | _ :: r, .loop c => subC r c
  | _, c => c
structure PartIs (d : ACode) : Prop where
theorem PartIs.of {f : Func} {c : ACode} {rs : List ResultVar} {d : ACode} (cc : CC f c rs) (p : List Nat) (h : subC p c = d := by (conv => lhs; simp [subC]); all_goals exact rfl) : PartIs d := ⟨⟩
abbrev codeOf {d : ACode} (_ : PartIs d) : ACode := d
abbrev pt6 := PartIs.of ac_rostrumkeep_SeqRuns [1, 1, 1, 0, 1, 0, 0, 1, 0, 0, 0]
abbrev pt7 := PartIs.of ac_rostrumkeep_SeqRuns [1, 1, 1, 0, 1, 0, 0, 1, 0, 0, 1, 0]
/-- A machine of one client, behind so many calls. -/
structure SeqInv (i : Nat) (m : Mach) : Prop where
  ok : OkM m
  next : m.next = 2
  one : ∃ t R, m.clis = [⟨1, i, t, R⟩]
theorem seq_zero : SeqInv 0 (openedV []) := by
  obtain ⟨h, _, _⟩ := openedV_inv [] (fun d hd => by cases hd)
  exact ⟨h.ok, rfl, 0, toldR 0, rfl⟩
theorem seq_step {i : Nat} {m : Mach} (h : SeqInv i m) (hi : i ≤ 20) {cmd : Cmd} (hc : checkC cmd = 0) {p : Int} (p0 : 0 ≤ p) (p1 : p ≤ 9) :
    ∃ S R, DoM m m.sto.now ⟨1, (i : Int) + 1, cmd⟩ = (⟨S, 2, [⟨1, (i : Int) + 1, S.now, R⟩]⟩, R, 0) ∧ DoM ⟨S, 2, [⟨1, (i : Int) + 1, S.now, R⟩]⟩ m.sto.now ⟨1, (i : Int) + 3 + p, cmd⟩ = (⟨S, 2, [⟨1, (i : Int) + 1, S.now, R⟩]⟩, failR 10, 0) ∧ SeqInv (i + 1) ⟨S, 2, [⟨1, (i : Int) + 1, S.now, R⟩]⟩ ∧ OkR R := by
  obtain ⟨ok, hn, t, R0, e⟩ := h
  have hj : m.clis[0]? = some ⟨1, i, t, R0⟩ := by rw [e]; rfl
  obtain ⟨c1, z1⟩ := call_made (c := ⟨1, (i : Int) + 1, cmd⟩) rfl (by omega) (by omega) (by omega) (by omega) hc
  obtain ⟨c2, z2⟩ := call_made (c := ⟨1, (i : Int) + 3 + p, cmd⟩) rfl (by omega) (by omega) (by omega) (by omega) hc
  obtain ⟨S, R, _, e1, o1, e2, o2, e3⟩ := done_p ok hj c1 z1 rfl rfl
  have hs : ∀ y : Cli, m.clis.set 0 y = [y] := fun y => by rw [e]; rfl
  simp only [hs, hn] at e1 o1 e3
  have e4 := order_p o1 (j := 0) (x := ⟨1, (i : Int) + 1, S.now, R⟩) rfl c2 z2 rfl (by show (i : Int) + 3 + p ≠ (i : Int) + 1; omega) (by show (i : Int) + 3 + p ≠ (i : Int) + 1 + 1; omega)
  simp only [e2] at e4
  exact ⟨S, R, e1, by rw [← e2] at e4 ⊢; exact e4, ⟨o1, rfl, S.now, R, by simp⟩, o2⟩
/-- One order of a region. -/
def nthAlt : ACode → Nat → List AOp × List (Nat × Nat)
  | .regD l, j => l.getD j ([], [])
  | _, _ => ([], [])
def AltOk (P : Program) (c : ACode) (j : Nat) (s s' : S) : Prop := aopsD P (nthAlt c j).1 [] s (fun h q => stables P (nthAlt c j).1 (s :: h) (nthAlt c j).2 ∧ Weak 0 q s')
abbrev st6 (G : Nat → AV) (l : List Raw) (n : Int) (i : Nat) (m : Mach) : S := ⟨[(25, bV true), (24, bV true), (22, bV true), (23, iV i), (22, bV true), (22, bV true), (21, bV true), (20, iV l.length), (19, .one (.v (.sl (l.map Raw.row)))), (18, iV i), (0, .one (.v (.sl (l.map Raw.row)))), (1, iV n), (5, .one (.ptr 0 0)), (6, iV 1), (7, iV i)], G, [some (.box 32 m.c)]⟩
abbrev st7 (G : Nat → AV) (l : List Raw) (n : Int) (i : Nat) (m x : Mach) (R : Rep) : S := ⟨[(0, .one (.v (.sl (l.map Raw.row)))), (1, iV n), (5, .one (.ptr 0 0)), (6, iV 1), (7, iV i), (8, .one (.ptr 1 0)), (9, .one (.ptr 2 0)), (10, iV 0)], G, [some (.box 32 m.c), some (.box 32 x.c), some (.box 37 R.c)]⟩
abbrev st8 (G : Nat → AV) (l : List Raw) (n : Int) (i : Nat) (m x : Mach) (R : Rep) (y : Mach) (R' : Rep) : S := ⟨[(0, .one (.v (.sl (l.map Raw.row)))), (1, iV n), (5, .one (.ptr 0 0)), (6, iV 1), (7, iV i), (8, .one (.ptr 1 0)), (9, .one (.ptr 2 0)), (10, iV 0), (11, .one (.ptr 3 0)), (12, .one (.ptr 4 0)), (13, iV 0)], G, [some (.box 32 m.c), some (.box 32 x.c), some (.box 37 R.c), some (.box 32 y.c), some (.box 37 R'.c)]⟩
theorem seq_r6_0 {l : List Raw} {n : Int} {i : Nat} {r : Raw} {m : Mach} {x : Mach} {R : Rep} {cc : Cmd} (hr : l[i]? = some r) (w1 : IntKind.i64.wrap ((i : Int) + 1) = (i : Int) + 1) (hcm : PCall Tryz.prog G 17 [.agg [iC r.kind, iC r.key, iC r.field, iC r.n, sC r.text]] (.agg cc.c))
    (h1 : PCall Tryz.prog G 12 [.agg m.c, iV m.sto.now, .agg (Cal.mk 1 ((i : Int) + 1) cc).c] (DmA (x, R, 0))) : AltOk Tryz.prog (codeOf pt6) 0 (st6 G l n i m) (st7 G l n i m x R) := by
  obtain ⟨⟨mn, me⟩, mx, ml⟩ := m
  obtain ⟨⟨xn, xe⟩, xx, xl⟩ := x
  obtain ⟨rc, rt, rn, rl⟩ := R
  obtain ⟨ck, ckey, cf, ct, cn⟩ := cc
  obtain ⟨r1, r2, r3, r4, r5⟩ := r
  unfold AltOk
  simp only [DmA, Mach.c, Cal.c, Cmd.c, Rep.c, st6, st7, st8, codeOf, nthAlt, List.getD_cons_succ, List.getD_cons_zero] at h1 hcm ⊢
  repeat' (first | (with_reducible first | refine Cn (fun h => ?_) fun h => ?_ | refine And.intro ?_ ?_ | refine wR ?_ | exact wr _ _ | refine weak_autoC ?_ | apply awp_join | refine q hcm ?_ | refine qd hcm ?_ | refine qz hcm ?_ | refine q h1 ?_ | refine qd h1 ?_ | refine qz h1 ?_) | (with_reducible refine CallZ.z ?_) | simp -dsimp [go_sem, hr, Raw.row, w1, clean_nil, clean_cons, clean_yes, clean_no])
theorem seq_r6_1 {l : List Raw} {n : Int} {i : Nat} {r : Raw} {m : Mach} {x : Mach} {R : Rep} {cc : Cmd} (hr : l[i]? = some r) (w1 : IntKind.i64.wrap ((i : Int) + 1) = (i : Int) + 1) (hcm : PCall Tryz.prog G 17 [.agg [iC r.kind, iC r.key, iC r.field, iC r.n, sC r.text]] (.agg cc.c))
    (h1 : PCall Tryz.prog G 12 [.agg m.c, iV m.sto.now, .agg (Cal.mk 1 ((i : Int) + 1) cc).c] (DmA (x, R, 0))) : AltOk Tryz.prog (codeOf pt6) 1 (st6 G l n i m) (st7 G l n i m x R) := by
  obtain ⟨⟨mn, me⟩, mx, ml⟩ := m
  obtain ⟨⟨xn, xe⟩, xx, xl⟩ := x
  obtain ⟨rc, rt, rn, rl⟩ := R
  obtain ⟨ck, ckey, cf, ct, cn⟩ := cc
  obtain ⟨r1, r2, r3, r4, r5⟩ := r
  unfold AltOk
  simp only [DmA, Mach.c, Cal.c, Cmd.c, Rep.c, st6, st7, st8, codeOf, nthAlt, List.getD_cons_succ, List.getD_cons_zero] at h1 hcm ⊢
  repeat' (first | (with_reducible first | refine Cn (fun h => ?_) fun h => ?_ | refine And.intro ?_ ?_ | refine wR ?_ | exact wr _ _ | refine weak_autoC ?_ | apply awp_join | refine q hcm ?_ | refine qd hcm ?_ | refine qz hcm ?_ | refine q h1 ?_ | refine qd h1 ?_ | refine qz h1 ?_) | (with_reducible refine CallZ.z ?_) | simp -dsimp [go_sem, hr, Raw.row, w1, clean_nil, clean_cons, clean_yes, clean_no])
theorem seq_r6_2 {l : List Raw} {n : Int} {i : Nat} {r : Raw} {m : Mach} {x : Mach} {R : Rep} {cc : Cmd} (hr : l[i]? = some r) (w1 : IntKind.i64.wrap ((i : Int) + 1) = (i : Int) + 1) (hcm : PCall Tryz.prog G 17 [.agg [iC r.kind, iC r.key, iC r.field, iC r.n, sC r.text]] (.agg cc.c))
    (h1 : PCall Tryz.prog G 12 [.agg m.c, iV m.sto.now, .agg (Cal.mk 1 ((i : Int) + 1) cc).c] (DmA (x, R, 0))) : AltOk Tryz.prog (codeOf pt6) 2 (st6 G l n i m) (st7 G l n i m x R) := by
  obtain ⟨⟨mn, me⟩, mx, ml⟩ := m
  obtain ⟨⟨xn, xe⟩, xx, xl⟩ := x
  obtain ⟨rc, rt, rn, rl⟩ := R
  obtain ⟨ck, ckey, cf, ct, cn⟩ := cc
  obtain ⟨r1, r2, r3, r4, r5⟩ := r
  unfold AltOk
  simp only [DmA, Mach.c, Cal.c, Cmd.c, Rep.c, st6, st7, st8, codeOf, nthAlt, List.getD_cons_succ, List.getD_cons_zero] at h1 hcm ⊢
  repeat' (first | (with_reducible first | refine Cn (fun h => ?_) fun h => ?_ | refine And.intro ?_ ?_ | refine wR ?_ | exact wr _ _ | refine weak_autoC ?_ | apply awp_join | refine q hcm ?_ | refine qd hcm ?_ | refine qz hcm ?_ | refine q h1 ?_ | refine qd h1 ?_ | refine qz h1 ?_) | (with_reducible refine CallZ.z ?_) | simp -dsimp [go_sem, hr, Raw.row, w1, clean_nil, clean_cons, clean_yes, clean_no])
theorem seq_r6_3 {l : List Raw} {n : Int} {i : Nat} {r : Raw} {m : Mach} {x : Mach} {R : Rep} {cc : Cmd} (hr : l[i]? = some r) (w1 : IntKind.i64.wrap ((i : Int) + 1) = (i : Int) + 1) (hcm : PCall Tryz.prog G 17 [.agg [iC r.kind, iC r.key, iC r.field, iC r.n, sC r.text]] (.agg cc.c))
    (h1 : PCall Tryz.prog G 12 [.agg m.c, iV m.sto.now, .agg (Cal.mk 1 ((i : Int) + 1) cc).c] (DmA (x, R, 0))) : AltOk Tryz.prog (codeOf pt6) 3 (st6 G l n i m) (st7 G l n i m x R) := by
  obtain ⟨⟨mn, me⟩, mx, ml⟩ := m
  obtain ⟨⟨xn, xe⟩, xx, xl⟩ := x
  obtain ⟨rc, rt, rn, rl⟩ := R
  obtain ⟨ck, ckey, cf, ct, cn⟩ := cc
  obtain ⟨r1, r2, r3, r4, r5⟩ := r
  unfold AltOk
  simp only [DmA, Mach.c, Cal.c, Cmd.c, Rep.c, st6, st7, st8, codeOf, nthAlt, List.getD_cons_succ, List.getD_cons_zero] at h1 hcm ⊢
  repeat' (first | (with_reducible first | refine Cn (fun h => ?_) fun h => ?_ | refine And.intro ?_ ?_ | refine wR ?_ | exact wr _ _ | refine weak_autoC ?_ | apply awp_join | refine q hcm ?_ | refine qd hcm ?_ | refine qz hcm ?_ | refine q h1 ?_ | refine qd h1 ?_ | refine qz h1 ?_) | (with_reducible refine CallZ.z ?_) | simp -dsimp [go_sem, hr, Raw.row, w1, clean_nil, clean_cons, clean_yes, clean_no])
theorem seq_r6_4 {l : List Raw} {n : Int} {i : Nat} {r : Raw} {m : Mach} {x : Mach} {R : Rep} {cc : Cmd} (hr : l[i]? = some r) (w1 : IntKind.i64.wrap ((i : Int) + 1) = (i : Int) + 1) (hcm : PCall Tryz.prog G 17 [.agg [iC r.kind, iC r.key, iC r.field, iC r.n, sC r.text]] (.agg cc.c))
    (h1 : PCall Tryz.prog G 12 [.agg m.c, iV m.sto.now, .agg (Cal.mk 1 ((i : Int) + 1) cc).c] (DmA (x, R, 0))) : AltOk Tryz.prog (codeOf pt6) 4 (st6 G l n i m) (st7 G l n i m x R) := by
  obtain ⟨⟨mn, me⟩, mx, ml⟩ := m
  obtain ⟨⟨xn, xe⟩, xx, xl⟩ := x
  obtain ⟨rc, rt, rn, rl⟩ := R
  obtain ⟨ck, ckey, cf, ct, cn⟩ := cc
  obtain ⟨r1, r2, r3, r4, r5⟩ := r
  unfold AltOk
  simp only [DmA, Mach.c, Cal.c, Cmd.c, Rep.c, st6, st7, st8, codeOf, nthAlt, List.getD_cons_succ, List.getD_cons_zero] at h1 hcm ⊢
  repeat' (first | (with_reducible first | refine Cn (fun h => ?_) fun h => ?_ | refine And.intro ?_ ?_ | refine wR ?_ | exact wr _ _ | refine weak_autoC ?_ | apply awp_join | refine q hcm ?_ | refine qd hcm ?_ | refine qz hcm ?_ | refine q h1 ?_ | refine qd h1 ?_ | refine qz h1 ?_) | (with_reducible refine CallZ.z ?_) | simp -dsimp [go_sem, hr, Raw.row, w1, clean_nil, clean_cons, clean_yes, clean_no])
theorem seq_r6_5 {l : List Raw} {n : Int} {i : Nat} {r : Raw} {m : Mach} {x : Mach} {R : Rep} {cc : Cmd} (hr : l[i]? = some r) (w1 : IntKind.i64.wrap ((i : Int) + 1) = (i : Int) + 1) (hcm : PCall Tryz.prog G 17 [.agg [iC r.kind, iC r.key, iC r.field, iC r.n, sC r.text]] (.agg cc.c))
    (h1 : PCall Tryz.prog G 12 [.agg m.c, iV m.sto.now, .agg (Cal.mk 1 ((i : Int) + 1) cc).c] (DmA (x, R, 0))) : AltOk Tryz.prog (codeOf pt6) 5 (st6 G l n i m) (st7 G l n i m x R) := by
  obtain ⟨⟨mn, me⟩, mx, ml⟩ := m
  obtain ⟨⟨xn, xe⟩, xx, xl⟩ := x
  obtain ⟨rc, rt, rn, rl⟩ := R
  obtain ⟨ck, ckey, cf, ct, cn⟩ := cc
  obtain ⟨r1, r2, r3, r4, r5⟩ := r
  unfold AltOk
  simp only [DmA, Mach.c, Cal.c, Cmd.c, Rep.c, st6, st7, st8, codeOf, nthAlt, List.getD_cons_succ, List.getD_cons_zero] at h1 hcm ⊢
  repeat' (first | (with_reducible first | refine Cn (fun h => ?_) fun h => ?_ | refine And.intro ?_ ?_ | refine wR ?_ | exact wr _ _ | refine weak_autoC ?_ | apply awp_join | refine q hcm ?_ | refine qd hcm ?_ | refine qz hcm ?_ | refine q h1 ?_ | refine qd h1 ?_ | refine qz h1 ?_) | (with_reducible refine CallZ.z ?_) | simp -dsimp [go_sem, hr, Raw.row, w1, clean_nil, clean_cons, clean_yes, clean_no])
theorem seq_r6_6 {l : List Raw} {n : Int} {i : Nat} {r : Raw} {m : Mach} {x : Mach} {R : Rep} {cc : Cmd} (hr : l[i]? = some r) (w1 : IntKind.i64.wrap ((i : Int) + 1) = (i : Int) + 1) (hcm : PCall Tryz.prog G 17 [.agg [iC r.kind, iC r.key, iC r.field, iC r.n, sC r.text]] (.agg cc.c))
    (h1 : PCall Tryz.prog G 12 [.agg m.c, iV m.sto.now, .agg (Cal.mk 1 ((i : Int) + 1) cc).c] (DmA (x, R, 0))) : AltOk Tryz.prog (codeOf pt6) 6 (st6 G l n i m) (st7 G l n i m x R) := by
  obtain ⟨⟨mn, me⟩, mx, ml⟩ := m
  obtain ⟨⟨xn, xe⟩, xx, xl⟩ := x
  obtain ⟨rc, rt, rn, rl⟩ := R
  obtain ⟨ck, ckey, cf, ct, cn⟩ := cc
  obtain ⟨r1, r2, r3, r4, r5⟩ := r
  unfold AltOk
  simp only [DmA, Mach.c, Cal.c, Cmd.c, Rep.c, st6, st7, st8, codeOf, nthAlt, List.getD_cons_succ, List.getD_cons_zero] at h1 hcm ⊢
  repeat' (first | (with_reducible first | refine Cn (fun h => ?_) fun h => ?_ | refine And.intro ?_ ?_ | refine wR ?_ | exact wr _ _ | refine weak_autoC ?_ | apply awp_join | refine q hcm ?_ | refine qd hcm ?_ | refine qz hcm ?_ | refine q h1 ?_ | refine qd h1 ?_ | refine qz h1 ?_) | (with_reducible refine CallZ.z ?_) | simp -dsimp [go_sem, hr, Raw.row, w1, clean_nil, clean_cons, clean_yes, clean_no])
theorem seq_r6_7 {l : List Raw} {n : Int} {i : Nat} {r : Raw} {m : Mach} {x : Mach} {R : Rep} {cc : Cmd} (hr : l[i]? = some r) (w1 : IntKind.i64.wrap ((i : Int) + 1) = (i : Int) + 1) (hcm : PCall Tryz.prog G 17 [.agg [iC r.kind, iC r.key, iC r.field, iC r.n, sC r.text]] (.agg cc.c))
    (h1 : PCall Tryz.prog G 12 [.agg m.c, iV m.sto.now, .agg (Cal.mk 1 ((i : Int) + 1) cc).c] (DmA (x, R, 0))) : AltOk Tryz.prog (codeOf pt6) 7 (st6 G l n i m) (st7 G l n i m x R) := by
  obtain ⟨⟨mn, me⟩, mx, ml⟩ := m
  obtain ⟨⟨xn, xe⟩, xx, xl⟩ := x
  obtain ⟨rc, rt, rn, rl⟩ := R
  obtain ⟨ck, ckey, cf, ct, cn⟩ := cc
  obtain ⟨r1, r2, r3, r4, r5⟩ := r
  unfold AltOk
  simp only [DmA, Mach.c, Cal.c, Cmd.c, Rep.c, st6, st7, st8, codeOf, nthAlt, List.getD_cons_succ, List.getD_cons_zero] at h1 hcm ⊢
  repeat' (first | (with_reducible first | refine Cn (fun h => ?_) fun h => ?_ | refine And.intro ?_ ?_ | refine wR ?_ | exact wr _ _ | refine weak_autoC ?_ | apply awp_join | refine q hcm ?_ | refine qd hcm ?_ | refine qz hcm ?_ | refine q h1 ?_ | refine qd h1 ?_ | refine qz h1 ?_) | (with_reducible refine CallZ.z ?_) | simp -dsimp [go_sem, hr, Raw.row, w1, clean_nil, clean_cons, clean_yes, clean_no])
theorem seq_r6_8 {l : List Raw} {n : Int} {i : Nat} {r : Raw} {m : Mach} {x : Mach} {R : Rep} {cc : Cmd} (hr : l[i]? = some r) (w1 : IntKind.i64.wrap ((i : Int) + 1) = (i : Int) + 1) (hcm : PCall Tryz.prog G 17 [.agg [iC r.kind, iC r.key, iC r.field, iC r.n, sC r.text]] (.agg cc.c))
    (h1 : PCall Tryz.prog G 12 [.agg m.c, iV m.sto.now, .agg (Cal.mk 1 ((i : Int) + 1) cc).c] (DmA (x, R, 0))) : AltOk Tryz.prog (codeOf pt6) 8 (st6 G l n i m) (st7 G l n i m x R) := by
  obtain ⟨⟨mn, me⟩, mx, ml⟩ := m
  obtain ⟨⟨xn, xe⟩, xx, xl⟩ := x
  obtain ⟨rc, rt, rn, rl⟩ := R
  obtain ⟨ck, ckey, cf, ct, cn⟩ := cc
  obtain ⟨r1, r2, r3, r4, r5⟩ := r
  unfold AltOk
  simp only [DmA, Mach.c, Cal.c, Cmd.c, Rep.c, st6, st7, st8, codeOf, nthAlt, List.getD_cons_succ, List.getD_cons_zero] at h1 hcm ⊢
  repeat' (first | (with_reducible first | refine Cn (fun h => ?_) fun h => ?_ | refine And.intro ?_ ?_ | refine wR ?_ | exact wr _ _ | refine weak_autoC ?_ | apply awp_join | refine q hcm ?_ | refine qd hcm ?_ | refine qz hcm ?_ | refine q h1 ?_ | refine qd h1 ?_ | refine qz h1 ?_) | (with_reducible refine CallZ.z ?_) | simp -dsimp [go_sem, hr, Raw.row, w1, clean_nil, clean_cons, clean_yes, clean_no])
theorem seq_r6_9 {l : List Raw} {n : Int} {i : Nat} {r : Raw} {m : Mach} {x : Mach} {R : Rep} {cc : Cmd} (hr : l[i]? = some r) (w1 : IntKind.i64.wrap ((i : Int) + 1) = (i : Int) + 1) (hcm : PCall Tryz.prog G 17 [.agg [iC r.kind, iC r.key, iC r.field, iC r.n, sC r.text]] (.agg cc.c))
    (h1 : PCall Tryz.prog G 12 [.agg m.c, iV m.sto.now, .agg (Cal.mk 1 ((i : Int) + 1) cc).c] (DmA (x, R, 0))) : AltOk Tryz.prog (codeOf pt6) 9 (st6 G l n i m) (st7 G l n i m x R) := by
  obtain ⟨⟨mn, me⟩, mx, ml⟩ := m
  obtain ⟨⟨xn, xe⟩, xx, xl⟩ := x
  obtain ⟨rc, rt, rn, rl⟩ := R
  obtain ⟨ck, ckey, cf, ct, cn⟩ := cc
  obtain ⟨r1, r2, r3, r4, r5⟩ := r
  unfold AltOk
  simp only [DmA, Mach.c, Cal.c, Cmd.c, Rep.c, st6, st7, st8, codeOf, nthAlt, List.getD_cons_succ, List.getD_cons_zero] at h1 hcm ⊢
  repeat' (first | (with_reducible first | refine Cn (fun h => ?_) fun h => ?_ | refine And.intro ?_ ?_ | refine wR ?_ | exact wr _ _ | refine weak_autoC ?_ | apply awp_join | refine q hcm ?_ | refine qd hcm ?_ | refine qz hcm ?_ | refine q h1 ?_ | refine qd h1 ?_ | refine qz h1 ?_) | (with_reducible refine CallZ.z ?_) | simp -dsimp [go_sem, hr, Raw.row, w1, clean_nil, clean_cons, clean_yes, clean_no])
theorem seq_r6_10 {l : List Raw} {n : Int} {i : Nat} {r : Raw} {m : Mach} {x : Mach} {R : Rep} {cc : Cmd} (hr : l[i]? = some r) (w1 : IntKind.i64.wrap ((i : Int) + 1) = (i : Int) + 1) (hcm : PCall Tryz.prog G 17 [.agg [iC r.kind, iC r.key, iC r.field, iC r.n, sC r.text]] (.agg cc.c))
    (h1 : PCall Tryz.prog G 12 [.agg m.c, iV m.sto.now, .agg (Cal.mk 1 ((i : Int) + 1) cc).c] (DmA (x, R, 0))) : AltOk Tryz.prog (codeOf pt6) 10 (st6 G l n i m) (st7 G l n i m x R) := by
  obtain ⟨⟨mn, me⟩, mx, ml⟩ := m
  obtain ⟨⟨xn, xe⟩, xx, xl⟩ := x
  obtain ⟨rc, rt, rn, rl⟩ := R
  obtain ⟨ck, ckey, cf, ct, cn⟩ := cc
  obtain ⟨r1, r2, r3, r4, r5⟩ := r
  unfold AltOk
  simp only [DmA, Mach.c, Cal.c, Cmd.c, Rep.c, st6, st7, st8, codeOf, nthAlt, List.getD_cons_succ, List.getD_cons_zero] at h1 hcm ⊢
  repeat' (first | (with_reducible first | refine Cn (fun h => ?_) fun h => ?_ | refine And.intro ?_ ?_ | refine wR ?_ | exact wr _ _ | refine weak_autoC ?_ | apply awp_join | refine q hcm ?_ | refine qd hcm ?_ | refine qz hcm ?_ | refine q h1 ?_ | refine qd h1 ?_ | refine qz h1 ?_) | (with_reducible refine CallZ.z ?_) | simp -dsimp [go_sem, hr, Raw.row, w1, clean_nil, clean_cons, clean_yes, clean_no])
theorem seq_r6_11 {l : List Raw} {n : Int} {i : Nat} {r : Raw} {m : Mach} {x : Mach} {R : Rep} {cc : Cmd} (hr : l[i]? = some r) (w1 : IntKind.i64.wrap ((i : Int) + 1) = (i : Int) + 1) (hcm : PCall Tryz.prog G 17 [.agg [iC r.kind, iC r.key, iC r.field, iC r.n, sC r.text]] (.agg cc.c))
    (h1 : PCall Tryz.prog G 12 [.agg m.c, iV m.sto.now, .agg (Cal.mk 1 ((i : Int) + 1) cc).c] (DmA (x, R, 0))) : AltOk Tryz.prog (codeOf pt6) 11 (st6 G l n i m) (st7 G l n i m x R) := by
  obtain ⟨⟨mn, me⟩, mx, ml⟩ := m
  obtain ⟨⟨xn, xe⟩, xx, xl⟩ := x
  obtain ⟨rc, rt, rn, rl⟩ := R
  obtain ⟨ck, ckey, cf, ct, cn⟩ := cc
  obtain ⟨r1, r2, r3, r4, r5⟩ := r
  unfold AltOk
  simp only [DmA, Mach.c, Cal.c, Cmd.c, Rep.c, st6, st7, st8, codeOf, nthAlt, List.getD_cons_succ, List.getD_cons_zero] at h1 hcm ⊢
  repeat' (first | (with_reducible first | refine Cn (fun h => ?_) fun h => ?_ | refine And.intro ?_ ?_ | refine wR ?_ | exact wr _ _ | refine weak_autoC ?_ | apply awp_join | refine q hcm ?_ | refine qd hcm ?_ | refine qz hcm ?_ | refine q h1 ?_ | refine qd h1 ?_ | refine qz h1 ?_) | (with_reducible refine CallZ.z ?_) | simp -dsimp [go_sem, hr, Raw.row, w1, clean_nil, clean_cons, clean_yes, clean_no])
theorem seq_r7_0 {l : List Raw} {n : Int} {i : Nat} {r : Raw} {m : Mach} {x y : Mach} {R R' : Rep} {cc : Cmd} {p : Int} (hr : l[i]? = some r) (w2 : IntKind.i64.wrap ((i : Int) + 3) = (i : Int) + 3) (w3 : IntKind.i64.wrap ((i : Int) + 3 + p) = (i : Int) + 3 + p)
    (hpk : PCall Tryz.prog G 18 [iV n, iV 9] (iV p)) (hcm : PCall Tryz.prog G 17 [.agg [iC r.kind, iC r.key, iC r.field, iC r.n, sC r.text]] (.agg cc.c))
    (h2 : PCall Tryz.prog G 12 [.agg x.c, iV m.sto.now, .agg (Cal.mk 1 ((i : Int) + 3 + p) cc).c] (DmA (y, R', 0))) : AltOk Tryz.prog (codeOf pt7) 0 (st7 G l n i m x R) (st8 G l n i m x R y R') := by
  obtain ⟨⟨mn, me⟩, mx, ml⟩ := m
  obtain ⟨⟨xn, xe⟩, xx, xl⟩ := x
  obtain ⟨⟨yn, ye⟩, yx, yl⟩ := y
  obtain ⟨rc, rt, rn, rl⟩ := R
  obtain ⟨rc', rt', rn', rl'⟩ := R'
  obtain ⟨ck, ckey, cf, ct, cn⟩ := cc
  obtain ⟨r1, r2, r3, r4, r5⟩ := r
  unfold AltOk
  simp only [DmA, Mach.c, Cal.c, Cmd.c, Rep.c, st6, st7, st8, codeOf, nthAlt, List.getD_cons_succ, List.getD_cons_zero] at h2 hcm ⊢
  repeat' (first | (with_reducible first | refine Cn (fun h => ?_) fun h => ?_ | refine And.intro ?_ ?_ | refine wR ?_ | exact wr _ _ | refine weak_autoC ?_ | apply awp_join | refine q hpk ?_ | refine qd hpk ?_ | refine qz hpk ?_ | refine q hcm ?_ | refine qd hcm ?_ | refine qz hcm ?_ | refine q h2 ?_ | refine qd h2 ?_ | refine qz h2 ?_) | (with_reducible refine CallZ.z ?_) | simp -dsimp [go_sem, hr, Raw.row, w2, w3, clean_nil, clean_cons, clean_yes, clean_no])
theorem seq_r7_1 {l : List Raw} {n : Int} {i : Nat} {r : Raw} {m : Mach} {x y : Mach} {R R' : Rep} {cc : Cmd} {p : Int} (hr : l[i]? = some r) (w2 : IntKind.i64.wrap ((i : Int) + 3) = (i : Int) + 3) (w3 : IntKind.i64.wrap ((i : Int) + 3 + p) = (i : Int) + 3 + p)
    (hpk : PCall Tryz.prog G 18 [iV n, iV 9] (iV p)) (hcm : PCall Tryz.prog G 17 [.agg [iC r.kind, iC r.key, iC r.field, iC r.n, sC r.text]] (.agg cc.c))
    (h2 : PCall Tryz.prog G 12 [.agg x.c, iV m.sto.now, .agg (Cal.mk 1 ((i : Int) + 3 + p) cc).c] (DmA (y, R', 0))) : AltOk Tryz.prog (codeOf pt7) 1 (st7 G l n i m x R) (st8 G l n i m x R y R') := by
  obtain ⟨⟨mn, me⟩, mx, ml⟩ := m
  obtain ⟨⟨xn, xe⟩, xx, xl⟩ := x
  obtain ⟨⟨yn, ye⟩, yx, yl⟩ := y
  obtain ⟨rc, rt, rn, rl⟩ := R
  obtain ⟨rc', rt', rn', rl'⟩ := R'
  obtain ⟨ck, ckey, cf, ct, cn⟩ := cc
  obtain ⟨r1, r2, r3, r4, r5⟩ := r
  unfold AltOk
  simp only [DmA, Mach.c, Cal.c, Cmd.c, Rep.c, st6, st7, st8, codeOf, nthAlt, List.getD_cons_succ, List.getD_cons_zero] at h2 hcm ⊢
  repeat' (first | (with_reducible first | refine Cn (fun h => ?_) fun h => ?_ | refine And.intro ?_ ?_ | refine wR ?_ | exact wr _ _ | refine weak_autoC ?_ | apply awp_join | refine q hpk ?_ | refine qd hpk ?_ | refine qz hpk ?_ | refine q hcm ?_ | refine qd hcm ?_ | refine qz hcm ?_ | refine q h2 ?_ | refine qd h2 ?_ | refine qz h2 ?_) | (with_reducible refine CallZ.z ?_) | simp -dsimp [go_sem, hr, Raw.row, w2, w3, clean_nil, clean_cons, clean_yes, clean_no])
theorem seq_r7_2 {l : List Raw} {n : Int} {i : Nat} {r : Raw} {m : Mach} {x y : Mach} {R R' : Rep} {cc : Cmd} {p : Int} (hr : l[i]? = some r) (w2 : IntKind.i64.wrap ((i : Int) + 3) = (i : Int) + 3) (w3 : IntKind.i64.wrap ((i : Int) + 3 + p) = (i : Int) + 3 + p)
    (hpk : PCall Tryz.prog G 18 [iV n, iV 9] (iV p)) (hcm : PCall Tryz.prog G 17 [.agg [iC r.kind, iC r.key, iC r.field, iC r.n, sC r.text]] (.agg cc.c))
    (h2 : PCall Tryz.prog G 12 [.agg x.c, iV m.sto.now, .agg (Cal.mk 1 ((i : Int) + 3 + p) cc).c] (DmA (y, R', 0))) : AltOk Tryz.prog (codeOf pt7) 2 (st7 G l n i m x R) (st8 G l n i m x R y R') := by
  obtain ⟨⟨mn, me⟩, mx, ml⟩ := m
  obtain ⟨⟨xn, xe⟩, xx, xl⟩ := x
  obtain ⟨⟨yn, ye⟩, yx, yl⟩ := y
  obtain ⟨rc, rt, rn, rl⟩ := R
  obtain ⟨rc', rt', rn', rl'⟩ := R'
  obtain ⟨ck, ckey, cf, ct, cn⟩ := cc
  obtain ⟨r1, r2, r3, r4, r5⟩ := r
  unfold AltOk
  simp only [DmA, Mach.c, Cal.c, Cmd.c, Rep.c, st6, st7, st8, codeOf, nthAlt, List.getD_cons_succ, List.getD_cons_zero] at h2 hcm ⊢
  repeat' (first | (with_reducible first | refine Cn (fun h => ?_) fun h => ?_ | refine And.intro ?_ ?_ | refine wR ?_ | exact wr _ _ | refine weak_autoC ?_ | apply awp_join | refine q hpk ?_ | refine qd hpk ?_ | refine qz hpk ?_ | refine q hcm ?_ | refine qd hcm ?_ | refine qz hcm ?_ | refine q h2 ?_ | refine qd h2 ?_ | refine qz h2 ?_) | (with_reducible refine CallZ.z ?_) | simp -dsimp [go_sem, hr, Raw.row, w2, w3, clean_nil, clean_cons, clean_yes, clean_no])
theorem seq_r7_3 {l : List Raw} {n : Int} {i : Nat} {r : Raw} {m : Mach} {x y : Mach} {R R' : Rep} {cc : Cmd} {p : Int} (hr : l[i]? = some r) (w2 : IntKind.i64.wrap ((i : Int) + 3) = (i : Int) + 3) (w3 : IntKind.i64.wrap ((i : Int) + 3 + p) = (i : Int) + 3 + p)
    (hpk : PCall Tryz.prog G 18 [iV n, iV 9] (iV p)) (hcm : PCall Tryz.prog G 17 [.agg [iC r.kind, iC r.key, iC r.field, iC r.n, sC r.text]] (.agg cc.c))
    (h2 : PCall Tryz.prog G 12 [.agg x.c, iV m.sto.now, .agg (Cal.mk 1 ((i : Int) + 3 + p) cc).c] (DmA (y, R', 0))) : AltOk Tryz.prog (codeOf pt7) 3 (st7 G l n i m x R) (st8 G l n i m x R y R') := by
  obtain ⟨⟨mn, me⟩, mx, ml⟩ := m
  obtain ⟨⟨xn, xe⟩, xx, xl⟩ := x
  obtain ⟨⟨yn, ye⟩, yx, yl⟩ := y
  obtain ⟨rc, rt, rn, rl⟩ := R
  obtain ⟨rc', rt', rn', rl'⟩ := R'
  obtain ⟨ck, ckey, cf, ct, cn⟩ := cc
  obtain ⟨r1, r2, r3, r4, r5⟩ := r
  unfold AltOk
  simp only [DmA, Mach.c, Cal.c, Cmd.c, Rep.c, st6, st7, st8, codeOf, nthAlt, List.getD_cons_succ, List.getD_cons_zero] at h2 hcm ⊢
  repeat' (first | (with_reducible first | refine Cn (fun h => ?_) fun h => ?_ | refine And.intro ?_ ?_ | refine wR ?_ | exact wr _ _ | refine weak_autoC ?_ | apply awp_join | refine q hpk ?_ | refine qd hpk ?_ | refine qz hpk ?_ | refine q hcm ?_ | refine qd hcm ?_ | refine qz hcm ?_ | refine q h2 ?_ | refine qd h2 ?_ | refine qz h2 ?_) | (with_reducible refine CallZ.z ?_) | simp -dsimp [go_sem, hr, Raw.row, w2, w3, clean_nil, clean_cons, clean_yes, clean_no])
theorem seq_r7_4 {l : List Raw} {n : Int} {i : Nat} {r : Raw} {m : Mach} {x y : Mach} {R R' : Rep} {cc : Cmd} {p : Int} (hr : l[i]? = some r) (w2 : IntKind.i64.wrap ((i : Int) + 3) = (i : Int) + 3) (w3 : IntKind.i64.wrap ((i : Int) + 3 + p) = (i : Int) + 3 + p)
    (hpk : PCall Tryz.prog G 18 [iV n, iV 9] (iV p)) (hcm : PCall Tryz.prog G 17 [.agg [iC r.kind, iC r.key, iC r.field, iC r.n, sC r.text]] (.agg cc.c))
    (h2 : PCall Tryz.prog G 12 [.agg x.c, iV m.sto.now, .agg (Cal.mk 1 ((i : Int) + 3 + p) cc).c] (DmA (y, R', 0))) : AltOk Tryz.prog (codeOf pt7) 4 (st7 G l n i m x R) (st8 G l n i m x R y R') := by
  obtain ⟨⟨mn, me⟩, mx, ml⟩ := m
  obtain ⟨⟨xn, xe⟩, xx, xl⟩ := x
  obtain ⟨⟨yn, ye⟩, yx, yl⟩ := y
  obtain ⟨rc, rt, rn, rl⟩ := R
  obtain ⟨rc', rt', rn', rl'⟩ := R'
  obtain ⟨ck, ckey, cf, ct, cn⟩ := cc
  obtain ⟨r1, r2, r3, r4, r5⟩ := r
  unfold AltOk
  simp only [DmA, Mach.c, Cal.c, Cmd.c, Rep.c, st6, st7, st8, codeOf, nthAlt, List.getD_cons_succ, List.getD_cons_zero] at h2 hcm ⊢
  repeat' (first | (with_reducible first | refine Cn (fun h => ?_) fun h => ?_ | refine And.intro ?_ ?_ | refine wR ?_ | exact wr _ _ | refine weak_autoC ?_ | apply awp_join | refine q hpk ?_ | refine qd hpk ?_ | refine qz hpk ?_ | refine q hcm ?_ | refine qd hcm ?_ | refine qz hcm ?_ | refine q h2 ?_ | refine qd h2 ?_ | refine qz h2 ?_) | (with_reducible refine CallZ.z ?_) | simp -dsimp [go_sem, hr, Raw.row, w2, w3, clean_nil, clean_cons, clean_yes, clean_no])
theorem seq_r7_5 {l : List Raw} {n : Int} {i : Nat} {r : Raw} {m : Mach} {x y : Mach} {R R' : Rep} {cc : Cmd} {p : Int} (hr : l[i]? = some r) (w2 : IntKind.i64.wrap ((i : Int) + 3) = (i : Int) + 3) (w3 : IntKind.i64.wrap ((i : Int) + 3 + p) = (i : Int) + 3 + p)
    (hpk : PCall Tryz.prog G 18 [iV n, iV 9] (iV p)) (hcm : PCall Tryz.prog G 17 [.agg [iC r.kind, iC r.key, iC r.field, iC r.n, sC r.text]] (.agg cc.c))
    (h2 : PCall Tryz.prog G 12 [.agg x.c, iV m.sto.now, .agg (Cal.mk 1 ((i : Int) + 3 + p) cc).c] (DmA (y, R', 0))) : AltOk Tryz.prog (codeOf pt7) 5 (st7 G l n i m x R) (st8 G l n i m x R y R') := by
  obtain ⟨⟨mn, me⟩, mx, ml⟩ := m
  obtain ⟨⟨xn, xe⟩, xx, xl⟩ := x
  obtain ⟨⟨yn, ye⟩, yx, yl⟩ := y
  obtain ⟨rc, rt, rn, rl⟩ := R
  obtain ⟨rc', rt', rn', rl'⟩ := R'
  obtain ⟨ck, ckey, cf, ct, cn⟩ := cc
  obtain ⟨r1, r2, r3, r4, r5⟩ := r
  unfold AltOk
  simp only [DmA, Mach.c, Cal.c, Cmd.c, Rep.c, st6, st7, st8, codeOf, nthAlt, List.getD_cons_succ, List.getD_cons_zero] at h2 hcm ⊢
  repeat' (first | (with_reducible first | refine Cn (fun h => ?_) fun h => ?_ | refine And.intro ?_ ?_ | refine wR ?_ | exact wr _ _ | refine weak_autoC ?_ | apply awp_join | refine q hpk ?_ | refine qd hpk ?_ | refine qz hpk ?_ | refine q hcm ?_ | refine qd hcm ?_ | refine qz hcm ?_ | refine q h2 ?_ | refine qd h2 ?_ | refine qz h2 ?_) | (with_reducible refine CallZ.z ?_) | simp -dsimp [go_sem, hr, Raw.row, w2, w3, clean_nil, clean_cons, clean_yes, clean_no])
theorem seq_r7_6 {l : List Raw} {n : Int} {i : Nat} {r : Raw} {m : Mach} {x y : Mach} {R R' : Rep} {cc : Cmd} {p : Int} (hr : l[i]? = some r) (w2 : IntKind.i64.wrap ((i : Int) + 3) = (i : Int) + 3) (w3 : IntKind.i64.wrap ((i : Int) + 3 + p) = (i : Int) + 3 + p)
    (hpk : PCall Tryz.prog G 18 [iV n, iV 9] (iV p)) (hcm : PCall Tryz.prog G 17 [.agg [iC r.kind, iC r.key, iC r.field, iC r.n, sC r.text]] (.agg cc.c))
    (h2 : PCall Tryz.prog G 12 [.agg x.c, iV m.sto.now, .agg (Cal.mk 1 ((i : Int) + 3 + p) cc).c] (DmA (y, R', 0))) : AltOk Tryz.prog (codeOf pt7) 6 (st7 G l n i m x R) (st8 G l n i m x R y R') := by
  obtain ⟨⟨mn, me⟩, mx, ml⟩ := m
  obtain ⟨⟨xn, xe⟩, xx, xl⟩ := x
  obtain ⟨⟨yn, ye⟩, yx, yl⟩ := y
  obtain ⟨rc, rt, rn, rl⟩ := R
  obtain ⟨rc', rt', rn', rl'⟩ := R'
  obtain ⟨ck, ckey, cf, ct, cn⟩ := cc
  obtain ⟨r1, r2, r3, r4, r5⟩ := r
  unfold AltOk
  simp only [DmA, Mach.c, Cal.c, Cmd.c, Rep.c, st6, st7, st8, codeOf, nthAlt, List.getD_cons_succ, List.getD_cons_zero] at h2 hcm ⊢
  repeat' (first | (with_reducible first | refine Cn (fun h => ?_) fun h => ?_ | refine And.intro ?_ ?_ | refine wR ?_ | exact wr _ _ | refine weak_autoC ?_ | apply awp_join | refine q hpk ?_ | refine qd hpk ?_ | refine qz hpk ?_ | refine q hcm ?_ | refine qd hcm ?_ | refine qz hcm ?_ | refine q h2 ?_ | refine qd h2 ?_ | refine qz h2 ?_) | (with_reducible refine CallZ.z ?_) | simp -dsimp [go_sem, hr, Raw.row, w2, w3, clean_nil, clean_cons, clean_yes, clean_no])
theorem seq_r7_7 {l : List Raw} {n : Int} {i : Nat} {r : Raw} {m : Mach} {x y : Mach} {R R' : Rep} {cc : Cmd} {p : Int} (hr : l[i]? = some r) (w2 : IntKind.i64.wrap ((i : Int) + 3) = (i : Int) + 3) (w3 : IntKind.i64.wrap ((i : Int) + 3 + p) = (i : Int) + 3 + p)
    (hpk : PCall Tryz.prog G 18 [iV n, iV 9] (iV p)) (hcm : PCall Tryz.prog G 17 [.agg [iC r.kind, iC r.key, iC r.field, iC r.n, sC r.text]] (.agg cc.c))
    (h2 : PCall Tryz.prog G 12 [.agg x.c, iV m.sto.now, .agg (Cal.mk 1 ((i : Int) + 3 + p) cc).c] (DmA (y, R', 0))) : AltOk Tryz.prog (codeOf pt7) 7 (st7 G l n i m x R) (st8 G l n i m x R y R') := by
  obtain ⟨⟨mn, me⟩, mx, ml⟩ := m
  obtain ⟨⟨xn, xe⟩, xx, xl⟩ := x
  obtain ⟨⟨yn, ye⟩, yx, yl⟩ := y
  obtain ⟨rc, rt, rn, rl⟩ := R
  obtain ⟨rc', rt', rn', rl'⟩ := R'
  obtain ⟨ck, ckey, cf, ct, cn⟩ := cc
  obtain ⟨r1, r2, r3, r4, r5⟩ := r
  unfold AltOk
  simp only [DmA, Mach.c, Cal.c, Cmd.c, Rep.c, st6, st7, st8, codeOf, nthAlt, List.getD_cons_succ, List.getD_cons_zero] at h2 hcm ⊢
  repeat' (first | (with_reducible first | refine Cn (fun h => ?_) fun h => ?_ | refine And.intro ?_ ?_ | refine wR ?_ | exact wr _ _ | refine weak_autoC ?_ | apply awp_join | refine q hpk ?_ | refine qd hpk ?_ | refine qz hpk ?_ | refine q hcm ?_ | refine qd hcm ?_ | refine qz hcm ?_ | refine q h2 ?_ | refine qd h2 ?_ | refine qz h2 ?_) | (with_reducible refine CallZ.z ?_) | simp -dsimp [go_sem, hr, Raw.row, w2, w3, clean_nil, clean_cons, clean_yes, clean_no])
theorem seq_r7_8 {l : List Raw} {n : Int} {i : Nat} {r : Raw} {m : Mach} {x y : Mach} {R R' : Rep} {cc : Cmd} {p : Int} (hr : l[i]? = some r) (w2 : IntKind.i64.wrap ((i : Int) + 3) = (i : Int) + 3) (w3 : IntKind.i64.wrap ((i : Int) + 3 + p) = (i : Int) + 3 + p)
    (hpk : PCall Tryz.prog G 18 [iV n, iV 9] (iV p)) (hcm : PCall Tryz.prog G 17 [.agg [iC r.kind, iC r.key, iC r.field, iC r.n, sC r.text]] (.agg cc.c))
    (h2 : PCall Tryz.prog G 12 [.agg x.c, iV m.sto.now, .agg (Cal.mk 1 ((i : Int) + 3 + p) cc).c] (DmA (y, R', 0))) : AltOk Tryz.prog (codeOf pt7) 8 (st7 G l n i m x R) (st8 G l n i m x R y R') := by
  obtain ⟨⟨mn, me⟩, mx, ml⟩ := m
  obtain ⟨⟨xn, xe⟩, xx, xl⟩ := x
  obtain ⟨⟨yn, ye⟩, yx, yl⟩ := y
  obtain ⟨rc, rt, rn, rl⟩ := R
  obtain ⟨rc', rt', rn', rl'⟩ := R'
  obtain ⟨ck, ckey, cf, ct, cn⟩ := cc
  obtain ⟨r1, r2, r3, r4, r5⟩ := r
  unfold AltOk
  simp only [DmA, Mach.c, Cal.c, Cmd.c, Rep.c, st6, st7, st8, codeOf, nthAlt, List.getD_cons_succ, List.getD_cons_zero] at h2 hcm ⊢
  repeat' (first | (with_reducible first | refine Cn (fun h => ?_) fun h => ?_ | refine And.intro ?_ ?_ | refine wR ?_ | exact wr _ _ | refine weak_autoC ?_ | apply awp_join | refine q hpk ?_ | refine qd hpk ?_ | refine qz hpk ?_ | refine q hcm ?_ | refine qd hcm ?_ | refine qz hcm ?_ | refine q h2 ?_ | refine qd h2 ?_ | refine qz h2 ?_) | (with_reducible refine CallZ.z ?_) | simp -dsimp [go_sem, hr, Raw.row, w2, w3, clean_nil, clean_cons, clean_yes, clean_no])
theorem seq_r7_9 {l : List Raw} {n : Int} {i : Nat} {r : Raw} {m : Mach} {x y : Mach} {R R' : Rep} {cc : Cmd} {p : Int} (hr : l[i]? = some r) (w2 : IntKind.i64.wrap ((i : Int) + 3) = (i : Int) + 3) (w3 : IntKind.i64.wrap ((i : Int) + 3 + p) = (i : Int) + 3 + p)
    (hpk : PCall Tryz.prog G 18 [iV n, iV 9] (iV p)) (hcm : PCall Tryz.prog G 17 [.agg [iC r.kind, iC r.key, iC r.field, iC r.n, sC r.text]] (.agg cc.c))
    (h2 : PCall Tryz.prog G 12 [.agg x.c, iV m.sto.now, .agg (Cal.mk 1 ((i : Int) + 3 + p) cc).c] (DmA (y, R', 0))) : AltOk Tryz.prog (codeOf pt7) 9 (st7 G l n i m x R) (st8 G l n i m x R y R') := by
  obtain ⟨⟨mn, me⟩, mx, ml⟩ := m
  obtain ⟨⟨xn, xe⟩, xx, xl⟩ := x
  obtain ⟨⟨yn, ye⟩, yx, yl⟩ := y
  obtain ⟨rc, rt, rn, rl⟩ := R
  obtain ⟨rc', rt', rn', rl'⟩ := R'
  obtain ⟨ck, ckey, cf, ct, cn⟩ := cc
  obtain ⟨r1, r2, r3, r4, r5⟩ := r
  unfold AltOk
  simp only [DmA, Mach.c, Cal.c, Cmd.c, Rep.c, st6, st7, st8, codeOf, nthAlt, List.getD_cons_succ, List.getD_cons_zero] at h2 hcm ⊢
  repeat' (first | (with_reducible first | refine Cn (fun h => ?_) fun h => ?_ | refine And.intro ?_ ?_ | refine wR ?_ | exact wr _ _ | refine weak_autoC ?_ | apply awp_join | refine q hpk ?_ | refine qd hpk ?_ | refine qz hpk ?_ | refine q hcm ?_ | refine qd hcm ?_ | refine qz hcm ?_ | refine q h2 ?_ | refine qd h2 ?_ | refine qz h2 ?_) | (with_reducible refine CallZ.z ?_) | simp -dsimp [go_sem, hr, Raw.row, w2, w3, clean_nil, clean_cons, clean_yes, clean_no])
theorem seq_r7_10 {l : List Raw} {n : Int} {i : Nat} {r : Raw} {m : Mach} {x y : Mach} {R R' : Rep} {cc : Cmd} {p : Int} (hr : l[i]? = some r) (w2 : IntKind.i64.wrap ((i : Int) + 3) = (i : Int) + 3) (w3 : IntKind.i64.wrap ((i : Int) + 3 + p) = (i : Int) + 3 + p)
    (hpk : PCall Tryz.prog G 18 [iV n, iV 9] (iV p)) (hcm : PCall Tryz.prog G 17 [.agg [iC r.kind, iC r.key, iC r.field, iC r.n, sC r.text]] (.agg cc.c))
    (h2 : PCall Tryz.prog G 12 [.agg x.c, iV m.sto.now, .agg (Cal.mk 1 ((i : Int) + 3 + p) cc).c] (DmA (y, R', 0))) : AltOk Tryz.prog (codeOf pt7) 10 (st7 G l n i m x R) (st8 G l n i m x R y R') := by
  obtain ⟨⟨mn, me⟩, mx, ml⟩ := m
  obtain ⟨⟨xn, xe⟩, xx, xl⟩ := x
  obtain ⟨⟨yn, ye⟩, yx, yl⟩ := y
  obtain ⟨rc, rt, rn, rl⟩ := R
  obtain ⟨rc', rt', rn', rl'⟩ := R'
  obtain ⟨ck, ckey, cf, ct, cn⟩ := cc
  obtain ⟨r1, r2, r3, r4, r5⟩ := r
  unfold AltOk
  simp only [DmA, Mach.c, Cal.c, Cmd.c, Rep.c, st6, st7, st8, codeOf, nthAlt, List.getD_cons_succ, List.getD_cons_zero] at h2 hcm ⊢
  repeat' (first | (with_reducible first | refine Cn (fun h => ?_) fun h => ?_ | refine And.intro ?_ ?_ | refine wR ?_ | exact wr _ _ | refine weak_autoC ?_ | apply awp_join | refine q hpk ?_ | refine qd hpk ?_ | refine qz hpk ?_ | refine q hcm ?_ | refine qd hcm ?_ | refine qz hcm ?_ | refine q h2 ?_ | refine qd h2 ?_ | refine qz h2 ?_) | (with_reducible refine CallZ.z ?_) | simp -dsimp [go_sem, hr, Raw.row, w2, w3, clean_nil, clean_cons, clean_yes, clean_no])
theorem seq_r7_11 {l : List Raw} {n : Int} {i : Nat} {r : Raw} {m : Mach} {x y : Mach} {R R' : Rep} {cc : Cmd} {p : Int} (hr : l[i]? = some r) (w2 : IntKind.i64.wrap ((i : Int) + 3) = (i : Int) + 3) (w3 : IntKind.i64.wrap ((i : Int) + 3 + p) = (i : Int) + 3 + p)
    (hpk : PCall Tryz.prog G 18 [iV n, iV 9] (iV p)) (hcm : PCall Tryz.prog G 17 [.agg [iC r.kind, iC r.key, iC r.field, iC r.n, sC r.text]] (.agg cc.c))
    (h2 : PCall Tryz.prog G 12 [.agg x.c, iV m.sto.now, .agg (Cal.mk 1 ((i : Int) + 3 + p) cc).c] (DmA (y, R', 0))) : AltOk Tryz.prog (codeOf pt7) 11 (st7 G l n i m x R) (st8 G l n i m x R y R') := by
  obtain ⟨⟨mn, me⟩, mx, ml⟩ := m
  obtain ⟨⟨xn, xe⟩, xx, xl⟩ := x
  obtain ⟨⟨yn, ye⟩, yx, yl⟩ := y
  obtain ⟨rc, rt, rn, rl⟩ := R
  obtain ⟨rc', rt', rn', rl'⟩ := R'
  obtain ⟨ck, ckey, cf, ct, cn⟩ := cc
  obtain ⟨r1, r2, r3, r4, r5⟩ := r
  unfold AltOk
  simp only [DmA, Mach.c, Cal.c, Cmd.c, Rep.c, st6, st7, st8, codeOf, nthAlt, List.getD_cons_succ, List.getD_cons_zero] at h2 hcm ⊢
  repeat' (first | (with_reducible first | refine Cn (fun h => ?_) fun h => ?_ | refine And.intro ?_ ?_ | refine wR ?_ | exact wr _ _ | refine weak_autoC ?_ | apply awp_join | refine q hpk ?_ | refine qd hpk ?_ | refine qz hpk ?_ | refine q hcm ?_ | refine qd hcm ?_ | refine qz hcm ?_ | refine q h2 ?_ | refine qd h2 ?_ | refine qz h2 ?_) | (with_reducible refine CallZ.z ?_) | simp -dsimp [go_sem, hr, Raw.row, w2, w3, clean_nil, clean_cons, clean_yes, clean_no])
theorem seq_r7_12 {l : List Raw} {n : Int} {i : Nat} {r : Raw} {m : Mach} {x y : Mach} {R R' : Rep} {cc : Cmd} {p : Int} (hr : l[i]? = some r) (w2 : IntKind.i64.wrap ((i : Int) + 3) = (i : Int) + 3) (w3 : IntKind.i64.wrap ((i : Int) + 3 + p) = (i : Int) + 3 + p)
    (hpk : PCall Tryz.prog G 18 [iV n, iV 9] (iV p)) (hcm : PCall Tryz.prog G 17 [.agg [iC r.kind, iC r.key, iC r.field, iC r.n, sC r.text]] (.agg cc.c))
    (h2 : PCall Tryz.prog G 12 [.agg x.c, iV m.sto.now, .agg (Cal.mk 1 ((i : Int) + 3 + p) cc).c] (DmA (y, R', 0))) : AltOk Tryz.prog (codeOf pt7) 12 (st7 G l n i m x R) (st8 G l n i m x R y R') := by
  obtain ⟨⟨mn, me⟩, mx, ml⟩ := m
  obtain ⟨⟨xn, xe⟩, xx, xl⟩ := x
  obtain ⟨⟨yn, ye⟩, yx, yl⟩ := y
  obtain ⟨rc, rt, rn, rl⟩ := R
  obtain ⟨rc', rt', rn', rl'⟩ := R'
  obtain ⟨ck, ckey, cf, ct, cn⟩ := cc
  obtain ⟨r1, r2, r3, r4, r5⟩ := r
  unfold AltOk
  simp only [DmA, Mach.c, Cal.c, Cmd.c, Rep.c, st6, st7, st8, codeOf, nthAlt, List.getD_cons_succ, List.getD_cons_zero] at h2 hcm ⊢
  repeat' (first | (with_reducible first | refine Cn (fun h => ?_) fun h => ?_ | refine And.intro ?_ ?_ | refine wR ?_ | exact wr _ _ | refine weak_autoC ?_ | apply awp_join | refine q hpk ?_ | refine qd hpk ?_ | refine qz hpk ?_ | refine q hcm ?_ | refine qd hcm ?_ | refine qz hcm ?_ | refine q h2 ?_ | refine qd h2 ?_ | refine qz h2 ?_) | (with_reducible refine CallZ.z ?_) | simp -dsimp [go_sem, hr, Raw.row, w2, w3, clean_nil, clean_cons, clean_yes, clean_no])
theorem seq_r7_13 {l : List Raw} {n : Int} {i : Nat} {r : Raw} {m : Mach} {x y : Mach} {R R' : Rep} {cc : Cmd} {p : Int} (hr : l[i]? = some r) (w2 : IntKind.i64.wrap ((i : Int) + 3) = (i : Int) + 3) (w3 : IntKind.i64.wrap ((i : Int) + 3 + p) = (i : Int) + 3 + p)
    (hpk : PCall Tryz.prog G 18 [iV n, iV 9] (iV p)) (hcm : PCall Tryz.prog G 17 [.agg [iC r.kind, iC r.key, iC r.field, iC r.n, sC r.text]] (.agg cc.c))
    (h2 : PCall Tryz.prog G 12 [.agg x.c, iV m.sto.now, .agg (Cal.mk 1 ((i : Int) + 3 + p) cc).c] (DmA (y, R', 0))) : AltOk Tryz.prog (codeOf pt7) 13 (st7 G l n i m x R) (st8 G l n i m x R y R') := by
  obtain ⟨⟨mn, me⟩, mx, ml⟩ := m
  obtain ⟨⟨xn, xe⟩, xx, xl⟩ := x
  obtain ⟨⟨yn, ye⟩, yx, yl⟩ := y
  obtain ⟨rc, rt, rn, rl⟩ := R
  obtain ⟨rc', rt', rn', rl'⟩ := R'
  obtain ⟨ck, ckey, cf, ct, cn⟩ := cc
  obtain ⟨r1, r2, r3, r4, r5⟩ := r
  unfold AltOk
  simp only [DmA, Mach.c, Cal.c, Cmd.c, Rep.c, st6, st7, st8, codeOf, nthAlt, List.getD_cons_succ, List.getD_cons_zero] at h2 hcm ⊢
  repeat' (first | (with_reducible first | refine Cn (fun h => ?_) fun h => ?_ | refine And.intro ?_ ?_ | refine wR ?_ | exact wr _ _ | refine weak_autoC ?_ | apply awp_join | refine q hpk ?_ | refine qd hpk ?_ | refine qz hpk ?_ | refine q hcm ?_ | refine qd hcm ?_ | refine qz hcm ?_ | refine q h2 ?_ | refine qd h2 ?_ | refine qz h2 ?_) | (with_reducible refine CallZ.z ?_) | simp -dsimp [go_sem, hr, Raw.row, w2, w3, clean_nil, clean_cons, clean_yes, clean_no])
theorem seq_r7_14 {l : List Raw} {n : Int} {i : Nat} {r : Raw} {m : Mach} {x y : Mach} {R R' : Rep} {cc : Cmd} {p : Int} (hr : l[i]? = some r) (w2 : IntKind.i64.wrap ((i : Int) + 3) = (i : Int) + 3) (w3 : IntKind.i64.wrap ((i : Int) + 3 + p) = (i : Int) + 3 + p)
    (hpk : PCall Tryz.prog G 18 [iV n, iV 9] (iV p)) (hcm : PCall Tryz.prog G 17 [.agg [iC r.kind, iC r.key, iC r.field, iC r.n, sC r.text]] (.agg cc.c))
    (h2 : PCall Tryz.prog G 12 [.agg x.c, iV m.sto.now, .agg (Cal.mk 1 ((i : Int) + 3 + p) cc).c] (DmA (y, R', 0))) : AltOk Tryz.prog (codeOf pt7) 14 (st7 G l n i m x R) (st8 G l n i m x R y R') := by
  obtain ⟨⟨mn, me⟩, mx, ml⟩ := m
  obtain ⟨⟨xn, xe⟩, xx, xl⟩ := x
  obtain ⟨⟨yn, ye⟩, yx, yl⟩ := y
  obtain ⟨rc, rt, rn, rl⟩ := R
  obtain ⟨rc', rt', rn', rl'⟩ := R'
  obtain ⟨ck, ckey, cf, ct, cn⟩ := cc
  obtain ⟨r1, r2, r3, r4, r5⟩ := r
  unfold AltOk
  simp only [DmA, Mach.c, Cal.c, Cmd.c, Rep.c, st6, st7, st8, codeOf, nthAlt, List.getD_cons_succ, List.getD_cons_zero] at h2 hcm ⊢
  repeat' (first | (with_reducible first | refine Cn (fun h => ?_) fun h => ?_ | refine And.intro ?_ ?_ | refine wR ?_ | exact wr _ _ | refine weak_autoC ?_ | apply awp_join | refine q hpk ?_ | refine qd hpk ?_ | refine qz hpk ?_ | refine q hcm ?_ | refine qd hcm ?_ | refine qz hcm ?_ | refine q h2 ?_ | refine qd h2 ?_ | refine qz h2 ?_) | (with_reducible refine CallZ.z ?_) | simp -dsimp [go_sem, hr, Raw.row, w2, w3, clean_nil, clean_cons, clean_yes, clean_no])
theorem seq_r7_15 {l : List Raw} {n : Int} {i : Nat} {r : Raw} {m : Mach} {x y : Mach} {R R' : Rep} {cc : Cmd} {p : Int} (hr : l[i]? = some r) (w2 : IntKind.i64.wrap ((i : Int) + 3) = (i : Int) + 3) (w3 : IntKind.i64.wrap ((i : Int) + 3 + p) = (i : Int) + 3 + p)
    (hpk : PCall Tryz.prog G 18 [iV n, iV 9] (iV p)) (hcm : PCall Tryz.prog G 17 [.agg [iC r.kind, iC r.key, iC r.field, iC r.n, sC r.text]] (.agg cc.c))
    (h2 : PCall Tryz.prog G 12 [.agg x.c, iV m.sto.now, .agg (Cal.mk 1 ((i : Int) + 3 + p) cc).c] (DmA (y, R', 0))) : AltOk Tryz.prog (codeOf pt7) 15 (st7 G l n i m x R) (st8 G l n i m x R y R') := by
  obtain ⟨⟨mn, me⟩, mx, ml⟩ := m
  obtain ⟨⟨xn, xe⟩, xx, xl⟩ := x
  obtain ⟨⟨yn, ye⟩, yx, yl⟩ := y
  obtain ⟨rc, rt, rn, rl⟩ := R
  obtain ⟨rc', rt', rn', rl'⟩ := R'
  obtain ⟨ck, ckey, cf, ct, cn⟩ := cc
  obtain ⟨r1, r2, r3, r4, r5⟩ := r
  unfold AltOk
  simp only [DmA, Mach.c, Cal.c, Cmd.c, Rep.c, st6, st7, st8, codeOf, nthAlt, List.getD_cons_succ, List.getD_cons_zero] at h2 hcm ⊢
  repeat' (first | (with_reducible first | refine Cn (fun h => ?_) fun h => ?_ | refine And.intro ?_ ?_ | refine wR ?_ | exact wr _ _ | refine weak_autoC ?_ | apply awp_join | refine q hpk ?_ | refine qd hpk ?_ | refine qz hpk ?_ | refine q hcm ?_ | refine qd hcm ?_ | refine qz hcm ?_ | refine q h2 ?_ | refine qd h2 ?_ | refine qz h2 ?_) | (with_reducible refine CallZ.z ?_) | simp -dsimp [go_sem, hr, Raw.row, w2, w3, clean_nil, clean_cons, clean_yes, clean_no])
theorem seq_r7_16 {l : List Raw} {n : Int} {i : Nat} {r : Raw} {m : Mach} {x y : Mach} {R R' : Rep} {cc : Cmd} {p : Int} (hr : l[i]? = some r) (w2 : IntKind.i64.wrap ((i : Int) + 3) = (i : Int) + 3) (w3 : IntKind.i64.wrap ((i : Int) + 3 + p) = (i : Int) + 3 + p)
    (hpk : PCall Tryz.prog G 18 [iV n, iV 9] (iV p)) (hcm : PCall Tryz.prog G 17 [.agg [iC r.kind, iC r.key, iC r.field, iC r.n, sC r.text]] (.agg cc.c))
    (h2 : PCall Tryz.prog G 12 [.agg x.c, iV m.sto.now, .agg (Cal.mk 1 ((i : Int) + 3 + p) cc).c] (DmA (y, R', 0))) : AltOk Tryz.prog (codeOf pt7) 16 (st7 G l n i m x R) (st8 G l n i m x R y R') := by
  obtain ⟨⟨mn, me⟩, mx, ml⟩ := m
  obtain ⟨⟨xn, xe⟩, xx, xl⟩ := x
  obtain ⟨⟨yn, ye⟩, yx, yl⟩ := y
  obtain ⟨rc, rt, rn, rl⟩ := R
  obtain ⟨rc', rt', rn', rl'⟩ := R'
  obtain ⟨ck, ckey, cf, ct, cn⟩ := cc
  obtain ⟨r1, r2, r3, r4, r5⟩ := r
  unfold AltOk
  simp only [DmA, Mach.c, Cal.c, Cmd.c, Rep.c, st6, st7, st8, codeOf, nthAlt, List.getD_cons_succ, List.getD_cons_zero] at h2 hcm ⊢
  repeat' (first | (with_reducible first | refine Cn (fun h => ?_) fun h => ?_ | refine And.intro ?_ ?_ | refine wR ?_ | exact wr _ _ | refine weak_autoC ?_ | apply awp_join | refine q hpk ?_ | refine qd hpk ?_ | refine qz hpk ?_ | refine q hcm ?_ | refine qd hcm ?_ | refine qz hcm ?_ | refine q h2 ?_ | refine qd h2 ?_ | refine qz h2 ?_) | (with_reducible refine CallZ.z ?_) | simp -dsimp [go_sem, hr, Raw.row, w2, w3, clean_nil, clean_cons, clean_yes, clean_no])
theorem seq_r7_17 {l : List Raw} {n : Int} {i : Nat} {r : Raw} {m : Mach} {x y : Mach} {R R' : Rep} {cc : Cmd} {p : Int} (hr : l[i]? = some r) (w2 : IntKind.i64.wrap ((i : Int) + 3) = (i : Int) + 3) (w3 : IntKind.i64.wrap ((i : Int) + 3 + p) = (i : Int) + 3 + p)
    (hpk : PCall Tryz.prog G 18 [iV n, iV 9] (iV p)) (hcm : PCall Tryz.prog G 17 [.agg [iC r.kind, iC r.key, iC r.field, iC r.n, sC r.text]] (.agg cc.c))
    (h2 : PCall Tryz.prog G 12 [.agg x.c, iV m.sto.now, .agg (Cal.mk 1 ((i : Int) + 3 + p) cc).c] (DmA (y, R', 0))) : AltOk Tryz.prog (codeOf pt7) 17 (st7 G l n i m x R) (st8 G l n i m x R y R') := by
  obtain ⟨⟨mn, me⟩, mx, ml⟩ := m
  obtain ⟨⟨xn, xe⟩, xx, xl⟩ := x
  obtain ⟨⟨yn, ye⟩, yx, yl⟩ := y
  obtain ⟨rc, rt, rn, rl⟩ := R
  obtain ⟨rc', rt', rn', rl'⟩ := R'
  obtain ⟨ck, ckey, cf, ct, cn⟩ := cc
  obtain ⟨r1, r2, r3, r4, r5⟩ := r
  unfold AltOk
  simp only [DmA, Mach.c, Cal.c, Cmd.c, Rep.c, st6, st7, st8, codeOf, nthAlt, List.getD_cons_succ, List.getD_cons_zero] at h2 hcm ⊢
  repeat' (first | (with_reducible first | refine Cn (fun h => ?_) fun h => ?_ | refine And.intro ?_ ?_ | refine wR ?_ | exact wr _ _ | refine weak_autoC ?_ | apply awp_join | refine q hpk ?_ | refine qd hpk ?_ | refine qz hpk ?_ | refine q hcm ?_ | refine qd hcm ?_ | refine qz hcm ?_ | refine q h2 ?_ | refine qd h2 ?_ | refine qz h2 ?_) | (with_reducible refine CallZ.z ?_) | simp -dsimp [go_sem, hr, Raw.row, w2, w3, clean_nil, clean_cons, clean_yes, clean_no])
theorem seq_r7_18 {l : List Raw} {n : Int} {i : Nat} {r : Raw} {m : Mach} {x y : Mach} {R R' : Rep} {cc : Cmd} {p : Int} (hr : l[i]? = some r) (w2 : IntKind.i64.wrap ((i : Int) + 3) = (i : Int) + 3) (w3 : IntKind.i64.wrap ((i : Int) + 3 + p) = (i : Int) + 3 + p)
    (hpk : PCall Tryz.prog G 18 [iV n, iV 9] (iV p)) (hcm : PCall Tryz.prog G 17 [.agg [iC r.kind, iC r.key, iC r.field, iC r.n, sC r.text]] (.agg cc.c))
    (h2 : PCall Tryz.prog G 12 [.agg x.c, iV m.sto.now, .agg (Cal.mk 1 ((i : Int) + 3 + p) cc).c] (DmA (y, R', 0))) : AltOk Tryz.prog (codeOf pt7) 18 (st7 G l n i m x R) (st8 G l n i m x R y R') := by
  obtain ⟨⟨mn, me⟩, mx, ml⟩ := m
  obtain ⟨⟨xn, xe⟩, xx, xl⟩ := x
  obtain ⟨⟨yn, ye⟩, yx, yl⟩ := y
  obtain ⟨rc, rt, rn, rl⟩ := R
  obtain ⟨rc', rt', rn', rl'⟩ := R'
  obtain ⟨ck, ckey, cf, ct, cn⟩ := cc
  obtain ⟨r1, r2, r3, r4, r5⟩ := r
  unfold AltOk
  simp only [DmA, Mach.c, Cal.c, Cmd.c, Rep.c, st6, st7, st8, codeOf, nthAlt, List.getD_cons_succ, List.getD_cons_zero] at h2 hcm ⊢
  repeat' (first | (with_reducible first | refine Cn (fun h => ?_) fun h => ?_ | refine And.intro ?_ ?_ | refine wR ?_ | exact wr _ _ | refine weak_autoC ?_ | apply awp_join | refine q hpk ?_ | refine qd hpk ?_ | refine qz hpk ?_ | refine q hcm ?_ | refine qd hcm ?_ | refine qz hcm ?_ | refine q h2 ?_ | refine qd h2 ?_ | refine qz h2 ?_) | (with_reducible refine CallZ.z ?_) | simp -dsimp [go_sem, hr, Raw.row, w2, w3, clean_nil, clean_cons, clean_yes, clean_no])
theorem seq_r7_19 {l : List Raw} {n : Int} {i : Nat} {r : Raw} {m : Mach} {x y : Mach} {R R' : Rep} {cc : Cmd} {p : Int} (hr : l[i]? = some r) (w2 : IntKind.i64.wrap ((i : Int) + 3) = (i : Int) + 3) (w3 : IntKind.i64.wrap ((i : Int) + 3 + p) = (i : Int) + 3 + p)
    (hpk : PCall Tryz.prog G 18 [iV n, iV 9] (iV p)) (hcm : PCall Tryz.prog G 17 [.agg [iC r.kind, iC r.key, iC r.field, iC r.n, sC r.text]] (.agg cc.c))
    (h2 : PCall Tryz.prog G 12 [.agg x.c, iV m.sto.now, .agg (Cal.mk 1 ((i : Int) + 3 + p) cc).c] (DmA (y, R', 0))) : AltOk Tryz.prog (codeOf pt7) 19 (st7 G l n i m x R) (st8 G l n i m x R y R') := by
  obtain ⟨⟨mn, me⟩, mx, ml⟩ := m
  obtain ⟨⟨xn, xe⟩, xx, xl⟩ := x
  obtain ⟨⟨yn, ye⟩, yx, yl⟩ := y
  obtain ⟨rc, rt, rn, rl⟩ := R
  obtain ⟨rc', rt', rn', rl'⟩ := R'
  obtain ⟨ck, ckey, cf, ct, cn⟩ := cc
  obtain ⟨r1, r2, r3, r4, r5⟩ := r
  unfold AltOk
  simp only [DmA, Mach.c, Cal.c, Cmd.c, Rep.c, st6, st7, st8, codeOf, nthAlt, List.getD_cons_succ, List.getD_cons_zero] at h2 hcm ⊢
  repeat' (first | (with_reducible first | refine Cn (fun h => ?_) fun h => ?_ | refine And.intro ?_ ?_ | refine wR ?_ | exact wr _ _ | refine weak_autoC ?_ | apply awp_join | refine q hpk ?_ | refine qd hpk ?_ | refine qz hpk ?_ | refine q hcm ?_ | refine qd hcm ?_ | refine qz hcm ?_ | refine q h2 ?_ | refine qd h2 ?_ | refine qz h2 ?_) | (with_reducible refine CallZ.z ?_) | simp -dsimp [go_sem, hr, Raw.row, w2, w3, clean_nil, clean_cons, clean_yes, clean_no])
theorem alts_of {P : Program} {Q : Exit → S → Prop} {s s' : S} : ∀ (l : List (List AOp × List (Nat × Nat))), (∀ j, j < l.length → AltOk P (.regD l) j s s') → allAlts P s (fun q => Weak 0 q s') l
  | [], _ => trivial
  | (al, ps) :: r, h => ⟨h 0 (by simp), alts_of (Q := Q) r fun j hj => by have := h (j + 1) (by simpa using hj); unfold AltOk nthAlt at this ⊢; simpa using this⟩
def AllOk (P : Program) (c : ACode) (s s' : S) : Nat → Prop
  | 0 => True
  | n + 1 => AltOk P c n s s' ∧ AllOk P c s s' n
theorem AllOk.get {P : Program} {c : ACode} {s s' : S} : ∀ {n : Nat}, AllOk P c s s' n → ∀ j, j < n → AltOk P c j s s'
  | 0, _, j, hj => by omega
  | n + 1, h, j, hj => by
    by_cases e : j = n
    · subst e; exact h.1
    · exact AllOk.get h.2 j (by omega)
theorem reg_of {P : Program} {Q : Exit → S → Prop} {s s' : S} {c : ACode} (l : List (List AOp × List (Nat × Nat))) (n : Nat) (hc : c = .regD l) (hn : l.length = n) (h : AllOk P c s s' n) (hq : Q .normal s') : awp P 0 c Q s := by
  subst hc
  exact awp_join s' (alts_of (Q := Q) l fun j hj => h.get j (by omega)) hq
theorem seq_r6 {l : List Raw} {n : Int} {i : Nat} {r : Raw} {m : Mach} {x : Mach} {R : Rep} {cc : Cmd} (hr : l[i]? = some r) (w1 : IntKind.i64.wrap ((i : Int) + 1) = (i : Int) + 1) (hcm : PCall Tryz.prog G 17 [.agg [iC r.kind, iC r.key, iC r.field, iC r.n, sC r.text]] (.agg cc.c))
    (h1 : PCall Tryz.prog G 12 [.agg m.c, iV m.sto.now, .agg (Cal.mk 1 ((i : Int) + 1) cc).c] (DmA (x, R, 0))) {Q : Exit → S → Prop} (hq : Q .normal (st7 G l n i m x R)) : awp Tryz.prog 0 (codeOf pt6) Q (st6 G l n i m) :=
  reg_of _ 12 rfl rfl ⟨seq_r6_11 hr w1 hcm h1, seq_r6_10 hr w1 hcm h1, seq_r6_9 hr w1 hcm h1, seq_r6_8 hr w1 hcm h1, seq_r6_7 hr w1 hcm h1, seq_r6_6 hr w1 hcm h1, seq_r6_5 hr w1 hcm h1, seq_r6_4 hr w1 hcm h1, seq_r6_3 hr w1 hcm h1, seq_r6_2 hr w1 hcm h1, seq_r6_1 hr w1 hcm h1, seq_r6_0 hr w1 hcm h1, trivial⟩ hq
theorem seq_r7 {l : List Raw} {n : Int} {i : Nat} {r : Raw} {m : Mach} {x y : Mach} {R R' : Rep} {cc : Cmd} {p : Int} (hr : l[i]? = some r) (w2 : IntKind.i64.wrap ((i : Int) + 3) = (i : Int) + 3) (w3 : IntKind.i64.wrap ((i : Int) + 3 + p) = (i : Int) + 3 + p)
    (hpk : PCall Tryz.prog G 18 [iV n, iV 9] (iV p)) (hcm : PCall Tryz.prog G 17 [.agg [iC r.kind, iC r.key, iC r.field, iC r.n, sC r.text]] (.agg cc.c))
    (h2 : PCall Tryz.prog G 12 [.agg x.c, iV m.sto.now, .agg (Cal.mk 1 ((i : Int) + 3 + p) cc).c] (DmA (y, R', 0))) {Q : Exit → S → Prop} (hq : Q .normal (st8 G l n i m x R y R')) : awp Tryz.prog 0 (codeOf pt7) Q (st7 G l n i m x R) :=
  reg_of _ 20 rfl rfl ⟨seq_r7_19 hr w2 w3 hpk hcm h2, seq_r7_18 hr w2 w3 hpk hcm h2, seq_r7_17 hr w2 w3 hpk hcm h2, seq_r7_16 hr w2 w3 hpk hcm h2, seq_r7_15 hr w2 w3 hpk hcm h2, seq_r7_14 hr w2 w3 hpk hcm h2, seq_r7_13 hr w2 w3 hpk hcm h2, seq_r7_12 hr w2 w3 hpk hcm h2, seq_r7_11 hr w2 w3 hpk hcm h2, seq_r7_10 hr w2 w3 hpk hcm h2, seq_r7_9 hr w2 w3 hpk hcm h2, seq_r7_8 hr w2 w3 hpk hcm h2, seq_r7_7 hr w2 w3 hpk hcm h2, seq_r7_6 hr w2 w3 hpk hcm h2, seq_r7_5 hr w2 w3 hpk hcm h2, seq_r7_4 hr w2 w3 hpk hcm h2, seq_r7_3 hr w2 w3 hpk hcm h2, seq_r7_2 hr w2 w3 hpk hcm h2, seq_r7_1 hr w2 w3 hpk hcm h2, seq_r7_0 hr w2 w3 hpk hcm h2, trivial⟩ hq
abbrev ptL := PartIs.of ac_rostrumkeep_SeqRuns [1, 1, 1, 0, 1, 0, 0]
abbrev seqSt (G : Nat → AV) (l : List Raw) (n : Int) : Nat × Mach → S := (fun q : Nat × Mach => (⟨[(0, .one (.v (.sl (l.map Raw.row)))), (1, iV n), (5, .one (.ptr 0 0)), (6, iV 1), (7, iV q.1)], G, [some (.box 32 q.2.c)]⟩ : S))
abbrev seqA (l : List Raw) : Nat × Mach → Prop := (fun q => q.1 ≤ l.length ∧ q.1 ≤ 20 ∧ SeqInv q.1 q.2)
abbrev pt8 := PartIs.of ac_rostrumkeep_SeqRuns [1, 1, 1, 0, 1, 0, 0, 1, 0, 0, 1, 1]
abbrev ptA := PartIs.of ac_rostrumkeep_SeqRuns [1, 1, 1, 0, 1, 0, 0, 0]
abbrev pt5 := PartIs.of ac_rostrumkeep_SeqRuns [1, 1, 1, 0, 1, 0, 0, 1, 1]
theorem seq_A {l : List Raw} {n : Int} {i : Nat} {m : Mach} (hlt : i < l.length ∧ i < 20) {N : S → Prop} {Q : Exit → S → Prop} (hN : N (st6 G l n i m)) : awp Tryz.prog 0 (codeOf ptA) (thenA N Q) (seqSt G l n (i, m)) := by
  have q1 : decide (i < l.length) = true := by simp; omega
  have q2 : decide ((i : Int) < 20) = true := by simp; omega
  obtain ⟨⟨mn, me⟩, mx, ml⟩ := m
  simp only [codeOf, seqSt, st6, Mach.c] at hN ⊢
  repeat' (first | (with_reducible first | refine Cn (fun h => ?_) fun h => ?_ | refine And.intro ?_ ?_ | refine wR ?_ | exact wr _ _ | refine wa ?_ | apply awp_join) | (with_reducible refine CallZ.z ?_) | simp -dsimp [go_sem, q1, q2])
  all_goals exact hN
theorem seq_C {l : List Raw} {n : Int} {i : Nat} {m y : Mach} {Sn : Int} {Se : List Ent} {R R' : Rep} (hlt : i < l.length ∧ i < 20) (w1 : IntKind.i64.wrap ((i : Int) + 1) = (i : Int) + 1) (hR : R'.code = 10) (hy : y = ⟨⟨Sn, Se⟩, 2, [⟨1, (i : Int) + 1, Sn, R⟩]⟩)
    (h4 : PCall Tryz.prog G 19 [.agg R.c, .agg R.c] (bV true)) (h5 : PCall Tryz.prog G 20 [.agg y.c, .agg y.c] (bV true)) (hnx : SeqInv (i + 1) y) {Q : Exit → S → Prop} :
    awp Tryz.prog 0 (codeOf pt8) (blockA 1 (thenA (awp Tryz.prog 0 (codeOf pt5) (thenA (Again 0 (seqSt G l n) (seqA l) (fun q => 20 - q.1) (i, m)) Q)) (thenA (Again 0 (seqSt G l n) (seqA l) (fun q => 20 - q.1) (i, m)) Q))) (st8 G l n i m y R y R') := by
  obtain ⟨⟨mn, me⟩, mx, ml⟩ := m
  obtain ⟨rc, rt, rn, rl⟩ := R
  obtain ⟨rc', rt', rn', rl'⟩ := R'
  simp only at hR
  subst hR
  subst hy
  simp only [codeOf, st8, Mach.c, Rep.c, Cli.row, List.map_nil, List.map_cons] at h4 h5 ⊢
  repeat' (first | (with_reducible first | refine Cn (fun h => ?_) fun h => ?_ | refine And.intro ?_ ?_ | refine wR ?_ | exact wr _ _ | refine weak_autoC ?_ | apply awp_join | refine q h4 ?_ | refine qd h4 ?_ | refine qz h4 ?_ | refine q h5 ?_ | refine qd h5 ?_ | refine qz h5 ?_) | (with_reducible refine CallZ.z ?_) | simp -dsimp [go_sem, w1, clean_nil, clean_cons, clean_yes, clean_no])
  all_goals first
    | omega
    | (refine Again.auto (i + 1, ⟨⟨Sn, Se⟩, 2, [⟨1, (i : Int) + 1, Sn, ⟨rc, rt, rn, rl⟩⟩]⟩) ?_ ⟨hlt.1, hlt.2, hnx⟩ ?_
       · simp -dsimp [go_sem, seqSt, Mach.c, Cli.row]
       · show 20 - (i + 1) < 20 - i; omega)
    | trace_state
theorem seq_round (hG : Noth G) {l : List Raw} {n : Int} (hl : ∀ x ∈ l, x.Ok) (hn : i64 n) {i : Nat} {m : Mach} (b3 : SeqInv i m) (hlt : i < l.length ∧ i < 20) {Q : Exit → S → Prop} :
    awp Tryz.prog 0 (codeOf ptL) (thenA (Again 0 (seqSt G l n) (seqA l) (fun q => 20 - q.1) (i, m)) Q) (seqSt G l n (i, m)) := by
  have hp := pk_range (n := n) (m := 9) (by omega)
  have hpk := picked_c (G := G) n 9 hn (by omega)
  have b1 : i ≤ l.length := by omega
  have b2 : i ≤ 20 := by omega
  have w1 : IntKind.i64.wrap ((i : Int) + 1) = (i : Int) + 1 := IntWalk.i64_in _ (by omega)
  obtain ⟨r, hr⟩ : ∃ r, l[i]? = some r := ⟨_, List.getElem?_eq_getElem hlt.1⟩
  have hok := hl r (List.mem_of_getElem? hr)
  have hcm := commandR_c (G := G) r hok
  have hcok := cmdR_ok hok
  generalize cmdR r = cc at *
  obtain ⟨S, R, e1, e2, hnx, o2⟩ := seq_step b3 b2 hcok hp.1 (by omega)
  obtain ⟨f1, f2, f3⟩ := b3.ok.dom
  obtain ⟨g1, g2, g3⟩ := hnx.ok.dom
  have h1 := doM_c hG m m.sto.now ⟨1, (i : Int) + 1, cc⟩ f1 f2
  rw [e1] at h1
  have h2 := doM_c hG _ m.sto.now ⟨1, (i : Int) + 3 + pk n 9, cc⟩ g1 g2
  rw [e2] at h2
  have h4 := sameR_c (G := G) R R (by have := o2.len; omega)
  rw [repEq_self] at h4
  have h5 := sameSelf_c (G := G) hnx.ok
  have w2 : IntKind.i64.wrap ((i : Int) + 3) = (i : Int) + 3 := IntWalk.i64_in _ (by omega)
  have w3 : IntKind.i64.wrap ((i : Int) + 3 + pk n 9) = (i : Int) + 3 + pk n 9 := IntWalk.i64_in _ (by omega)
  have q1 : decide (i < l.length) = true := by simp; omega
  have q2 : decide ((i : Int) < 20) = true := by simp; omega
  clear e1 e2 f1 f2 f3 g1 g2 g3 b3
  have hC := fun Q => seq_C (G := G) (n := n) (m := m) (R' := failR 10) (Q := Q) hlt w1 rfl rfl h4 h5 hnx
  exact seq_A hlt (seq_r6 hr w1 hcm h1 (seq_r7 hr w2 w3 hpk hcm h2 (hC _)))
theorem seqRuns_c (hG : Noth G) (l : List Raw) (n : Int) (hl : ∀ x ∈ l, x.Ok) (hll : (l.length : Int) ≤ 9223372036854775807) (hn : i64 n) : PCall Tryz.prog G 10 [.one (.v (.sl (l.map Raw.row))), iV n] (bV true) := by
  have hop := openedK_c hG [] (fun d hd => by cases hd) (by simp)
  have hz := seq_zero
  have hone : (openedV []).next = 2 := rfl
  generalize openedV [] = m0 at *
  simp only [List.map_nil] at hop
  have hp := pk_range (n := n) (m := 9) (by omega)
  have hpk := picked_c (G := G) n 9 hn (by omega)
  have w0 : IntKind.i64.wrap (m0.next - 1) = 1 := by rw [hone]; rfl
  refine pcallc mixed Tryz.func10 ac_rostrumkeep_SeqRuns ?_
  obtain ⟨⟨zn, ze⟩, zx, zl⟩ := m0
  simp only at hone w0
  simp only [Mach.c] at hop
  repeat' (first | (with_reducible first | refine Cn (fun h => ?_) fun h => ?_ | refine And.intro ?_ ?_ | refine wR ?_ | exact wr _ _ | refine wa ?_ | apply awp_join | refine q hop ?_ | refine qd hop ?_ | refine qz hop ?_) | (with_reducible refine CallZ.z ?_) | simp -dsimp [go_sem, w0])
  refine awp_loop (seqSt G l n) (seqA l) (fun q => 20 - q.1) (0, ⟨⟨zn, ze⟩, zx, zl⟩) (weak_auto ?_) ⟨Nat.zero_le _, Nat.zero_le _, hz⟩ ?_
  · simp -dsimp [go_sem, Mach.c]
  · rintro ⟨i, m⟩ ⟨b1, b2, b3⟩
    simp only at b1 b2 b3
    have w1 : IntKind.i64.wrap ((i : Int) + 1) = (i : Int) + 1 := IntWalk.i64_in _ (by omega)
    by_cases hlt : i < l.length ∧ i < 20
    · exact seq_round hG hl hn b3 hlt
    · have hcs := checkM_c (G := G) m b3.ok.sto.small (by have := b3.ok.len; omega)
      rw [checkM_iff.2 b3.ok] at hcs
      obtain ⟨ok, hx, t, R, e⟩ := b3
      clear ok
      obtain ⟨⟨mn, me⟩, mx, ml⟩ := m
      simp only at e
      subst e
      simp only [seqSt, Mach.c, Cli.row, List.map_nil, List.map_cons] at hcs ⊢
      by_cases h : i < l.length
      · have q1 : decide (i < l.length) = true := by simpa using h
        have q2 : decide ((i : Int) < 20) = false := by simp; omega
        repeat' (first | (with_reducible first | refine Cn (fun h => ?_) fun h => ?_ | refine And.intro ?_ ?_ | refine wR ?_ | exact wr _ _ | refine wa ?_ | apply awp_join | refine q hcs ?_ | refine qd hcs ?_ | refine qz hcs ?_) | (with_reducible refine CallZ.z ?_) | simp -dsimp [go_sem, q1, q2])
        all_goals trace_state
      · have q1 : decide (i < l.length) = false := by simpa using h
        repeat' (first | (with_reducible first | refine Cn (fun h => ?_) fun h => ?_ | refine And.intro ?_ ?_ | refine wR ?_ | exact wr _ _ | refine wa ?_ | apply awp_join | refine q hcs ?_ | refine qd hcs ?_ | refine qz hcs ?_) | (with_reducible refine CallZ.z ?_) | simp -dsimp [go_sem, q1])
        all_goals trace_state
/-! ### raw commands from outside -/
theorem raws_of : ∀ (rows : List (List V)), (∀ r ∈ rows, WT Tryz.prog 3 24 r) → ∃ rs : List Raw, rows = rs.map Raw.row ∧ ∀ r ∈ rs, r.Ok
  | [], _ => ⟨[], rfl, fun d h => by cases h⟩
  | r :: rows, h => by
    obtain ⟨rs, h1, h2⟩ := raws_of rows fun r hr => h r (List.mem_cons_of_mem _ hr)
    obtain ⟨kind, key, field, n, text, rfl, a, b, c, d, _⟩ := raw_wt (h r (List.mem_cons_self ..))
    refine ⟨⟨kind, key, field, n, text⟩ :: rs, by rw [h1]; rfl, fun x hx => ?_⟩
    rcases List.mem_cons.1 hx with rfl | hx
    · exact ⟨a, b, c, d⟩
    · exact h2 x hx
end Go.Proofs.YtmaiphnabebplaaGreatDoor
