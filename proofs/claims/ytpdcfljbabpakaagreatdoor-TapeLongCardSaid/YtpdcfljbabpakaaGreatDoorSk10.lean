/- Texts joined. -/
import Derived.Test.YtpdcfljbabpakaaGreatDoorSk9
import Derived.Test.YtpdcfljbabpakaaGreatDoorSk5
set_option linter.unusedVariables false
set_option linter.unusedSimpArgs false
set_option maxRecDepth 100000
set_option maxHeartbeats 8000000
namespace Go.Proofs.YtpdcfljbabpakaaGreatDoor
open Go Go.RowKit Go.Proofs.AE
variable {G : Nat → AV}
theorem OkM.dom2 {m : Mach} (h : OkM m) : m.sto.Small ∧ m.clis.length ≤ 1000000 := ⟨h.sto.small, by have := h.len; omega⟩
theorem valB_le {v : Val} (h : SizV v) : (valB v).length ≤ 270000 := by
  have p := many_le (g := prB) (b := 512) h.pairs.1 fun p hp => prB_le (h.pairs.2 p hp).1 (h.pairs.2 p hp).2
  have i := many_le (g := textB) (b := 256) h.items.1 fun t ht => textB_le (h.items.2 t ht)
  have s := many_le (g := scB) (b := 264) h.scores.1 fun s hs => scB_le (h.scores.2 s hs).1
  have t := textB_le h.text
  unfold valB
  simp only [List.length_append, numB_len, List.length_cons, List.length_nil]
  omega
theorem entB_len {now : Int} {e : Ent} (h : OkE now e) : (entB e).length ≤ 930 := by
  have a := okF_size h.key; have b := valB_len' h.val
  unfold entB; simp only [List.length_append, textB_len, numB_len]; omega
theorem cliB_len {next now : Int} {x : Cli} (h : OkC next now x) : (cliB x).length ≤ 500 := by
  have hr := checkR_iff.1 h.reply
  have a := okT_size hr.text
  have b := many_len (g := textB) (b := 21) (l := x.reply.list) fun t ht => by have := okT_size (hr.list t ht); rw [textB_len]; omega
  have l := hr.len
  unfold cliB; simp only [List.length_append, textB_len, numB_len, List.length_cons, List.length_nil]; omega
theorem encode_c (m : Mach) (h : OkM m) : PCall Tryz.prog G 25 [.agg m.c] (.tup [.one (.v (.sl (bR (machB m)))), iV 0]) := by
  have hck := checkM_c (G := G) m h.dom2.1 h.dom2.2
  rw [checkM_iff.2 h] at hck
  have hel := flat_take (g := entB) (b := 930) (xs := m.sto.ents) fun e he => entB_len (h.sto.all e he)
  have hcl := flat_take (g := cliB) (b := 500) (xs := m.clis) fun x hx => cliB_len (h.all x hx)
  have hn := h.sto.now; have hx := h.next; have n1 := h.sto.len; have n2 := h.len
  have hes : ∀ e ∈ m.sto.ents, SizE e := fun e he => (h.sto.all e he).siz hn.1
  have hcs : ∀ x ∈ m.clis, SizC x := fun x hc => (h.all x hc).siz hx.2 hn.2
  clear h
  unfold machB manyB
  obtain ⟨⟨now, es⟩, next, cs⟩ := m
  simp only at hel hcl hn hx n1 n2 hes hcs
  simp only [Mach.c] at hck ⊢
  have a1 := wnumber_c (G := G) [] now (by simp) (by unfold inNum; omega)
  rw [List.nil_append] at a1
  have a2 := wsmall_c (G := G) (numB now) es.length (by rw [numB_len]; omega)
  obtain ⟨l0, hl0⟩ : ∃ l, numB now ++ [smallB es.length] = l := ⟨_, rfl⟩
  have hl0n : l0.length = 9 := by rw [← hl0]; rfl
  rw [hl0] at a2
  have hfin : numB now ++ ((smallB es.length :: es.flatMap entB) ++ (numB next ++ (smallB cs.length :: cs.flatMap cliB))) = l0 ++ es.flatMap entB ++ numB next ++ [smallB cs.length] ++ cs.flatMap cliB := by rw [← hl0]; simp
  rw [hfin]
  have hen : (eR es).length = es.length := by simp
  have hcn : (clR cs).length = cs.length := by simp
  refine pcallc mixed Tryz.func25 ac_wire_Encode ?_
  unfold wHp at *
  repeat' (first | (with_reducible first | refine Cn (fun h => ?_) fun h => ?_ | refine And.intro ?_ ?_ | refine wR ?_ | exact wr _ _ | refine wa ?_ | apply awp_join | refine q hck ?_ | refine qd hck ?_ | refine qz hck ?_ | refine qg a1 ?_ | refine qgd a1 ?_ | refine qg a2 ?_ | refine qgd a2 ?_) | (refine CallZ.l (CallK.thaw 1 0 5 1 rfl rfl (by decide) ?_); simp -dsimp [go_sem]) | (with_reducible refine CallZ.z ?_) | simp -dsimp [go_sem, hen])
  refine awp_loop (fun i : Nat => ⟨[(1, .one (.ptr 0 0)), (5, .one (.ptr 1 0)), (30, .one (.v (.sl (eR es)))), (31, iV es.length), (32, iV i)], G, [some (.box 28 [iC now, .v (.sl (eR es)), iC next, .v (.sl (clR cs))]), some (.box 112 [.ar 2]), some (.arr 5 1 (bR (l0 ++ (es.take i).flatMap entB)))]⟩) (fun i => i ≤ es.length) (fun i => es.length - i) 0 (weak_auto ?_) (Nat.zero_le _) ?_
  · simp -dsimp [go_sem]
  · intro i hi
    by_cases hilt : i < es.length
    · obtain ⟨e, hx⟩ : ∃ p, es[i]? = some p := ⟨_, List.getElem?_eq_getElem hilt⟩
      have hr : (eR es)[i]? = some e.row := by simp [hx]
      have hse := hes e (List.mem_of_getElem? hx)
      have hfi := hel i
      have hb3 := valB_le hse.val
      obtain ⟨y0, g0⟩ : ∃ x, l0 ++ (es.take i).flatMap entB = x := ⟨_, rfl⟩
      have g0n : y0.length ≤ 12000 := by rw [← g0, List.length_append]; omega
      have b1 := wtext_c (G := G) y0 e.key (by omega) (by have := hse.key; omega)
      obtain ⟨y1, g1⟩ : ∃ x, y0 ++ textB e.key = x := ⟨_, rfl⟩
      have g1n : y1.length ≤ 13000 := by rw [← g1, List.length_append]; have := textB_le hse.key; omega
      have b2 := wvalue_c (G := G) y1 e.val (by omega) hse.val
      obtain ⟨y2, g2⟩ : ∃ x, y1 ++ valB e.val = x := ⟨_, rfl⟩
      have g2n : y2.length ≤ 300000 := by rw [← g2, List.length_append]; omega
      have b3 := wnumber_c (G := G) y2 e.till (by omega) hse.till
      have e1 : y2 ++ numB e.till = l0 ++ (es.take (i + 1)).flatMap entB := by rw [flat_succ hx, ← g2, ← g1, ← g0]; simp [entB]
      obtain ⟨b, hb⟩ : ∃ b, l0 ++ (es.take (i + 1)).flatMap entB = b := ⟨_, rfl⟩
      rw [g1] at b1
      rw [g2] at b2
      rw [e1, hb] at b3
      rw [g0]
      clear g1 g2 e1 g0
      have q1 : decide (i < es.length) = true := by simpa using hilt
      have w1 : IntKind.i64.wrap ((i : Int) + 1) = (i : Int) + 1 := IntWalk.i64_in _ (by omega)
      clear hck a1 a2
      obtain ⟨key, ⟨vk, vt, vn, vp, vi, vs⟩, till⟩ := e
      simp only [Val.c] at b1 b2 b3
      simp only [Ent.row] at hr
      unfold wHp at b1 b2 b3
      repeat' (first | (with_reducible first | refine Cn (fun h => ?_) fun h => ?_ | refine And.intro ?_ ?_ | refine wR ?_ | exact wr _ _ | refine wa ?_ | apply awp_join | refine qg b1 ?_ | refine qgd b1 ?_ | refine qg b2 ?_ | refine qgd b2 ?_ | refine qg b3 ?_ | refine qgd b3 ?_) | (with_reducible refine CallZ.z ?_) | simp -dsimp [go_sem, hr, q1, w1])
      all_goals first
        | omega
        | (refine Again.auto (i + 1) ?_ hilt ?_
           · simp -dsimp [go_sem, hb]
           · show es.length - (i + 1) < es.length - i; omega)
        | trace_state
    · have hie : i = es.length := by omega
      subst hie
      rw [List.take_length]
      have hel0 := hel es.length
      rw [List.take_length] at hel0
      clear hck a1 a2
      obtain ⟨y1, g1⟩ : ∃ x, l0 ++ es.flatMap entB = x := ⟨_, rfl⟩
      have g1n : y1.length ≤ 12000 := by rw [← g1, List.length_append]; omega
      rw [g1]
      have c1 := wnumber_c (G := G) y1 next (by omega) (by unfold inNum; omega)
      obtain ⟨y2, g2⟩ : ∃ x, y1 ++ numB next = x := ⟨_, rfl⟩
      have g2n : y2.length ≤ 13000 := by rw [← g2, List.length_append, numB_len]; omega
      rw [g2] at c1 ⊢
      have c2 := wsmall_c (G := G) y2 cs.length (by omega)
      obtain ⟨l1, hl1⟩ : ∃ l1, y2 ++ [smallB cs.length] = l1 := ⟨_, rfl⟩
      have hl1n : l1.length ≤ 14000 := by rw [← hl1]; simp; omega
      rw [hl1] at c2 ⊢
      unfold wHp at c1 c2
      repeat' (first | (with_reducible first | refine Cn (fun h => ?_) fun h => ?_ | refine And.intro ?_ ?_ | refine wR ?_ | exact wr _ _ | refine wa ?_ | apply awp_join | refine qg c1 ?_ | refine qgd c1 ?_ | refine qg c2 ?_ | refine qgd c2 ?_) | (with_reducible refine CallZ.z ?_) | simp -dsimp [go_sem, hcn])
      refine awp_loop (fun i : Nat => ⟨[(5, .one (.ptr 0 0)), (59, .one (.v (.sl (clR cs)))), (60, iV cs.length), (61, iV i)], G, wHp (l1 ++ (cs.take i).flatMap cliB)⟩) (fun i => i ≤ cs.length) (fun i => cs.length - i) 0 (weak_auto ?_) (Nat.zero_le _) ?_
      · simp -dsimp [go_sem]
      · intro i hi
        by_cases hilt : i < cs.length
        · obtain ⟨x, hx⟩ : ∃ p, cs[i]? = some p := ⟨_, List.getElem?_eq_getElem hilt⟩
          have hr : (clR cs)[i]? = some x.row := by simp [hx]
          have hsc := hcs x (List.mem_of_getElem? hx)
          have hfi := hcl i
          have htl := textB_le hsc.text
          obtain ⟨y0, g0⟩ : ∃ y, l1 ++ (cs.take i).flatMap cliB = y := ⟨_, rfl⟩
          have g0n : y0.length ≤ 20000 := by rw [← g0, List.length_append]; omega
          have b1 := wnumber_c (G := G) y0 x.id (by omega) hsc.id
          obtain ⟨y1, g1⟩ : ∃ y, y0 ++ numB x.id = y := ⟨_, rfl⟩
          have g1n : y1.length ≤ 20008 := by rw [← g1, List.length_append, numB_len]; omega
          have b2 := wnumber_c (G := G) y1 x.seq (by omega) hsc.seq
          obtain ⟨y2, g2⟩ : ∃ y, y1 ++ numB x.seq = y := ⟨_, rfl⟩
          have g2n : y2.length ≤ 20016 := by rw [← g2, List.length_append, numB_len]; omega
          have b3 := wnumber_c (G := G) y2 x.time (by omega) hsc.time
          obtain ⟨y3, g3⟩ : ∃ y, y2 ++ numB x.time = y := ⟨_, rfl⟩
          have g3n : y3.length ≤ 20024 := by rw [← g3, List.length_append, numB_len]; omega
          have b4 := wsmall_c (G := G) y3 x.reply.code (by omega)
          obtain ⟨y4, g4⟩ : ∃ y, y3 ++ [smallB x.reply.code] = y := ⟨_, rfl⟩
          have g4n : y4.length ≤ 20025 := by rw [← g4]; simp; omega
          have b5 := wtext_c (G := G) y4 x.reply.text (by omega) (by have := hsc.text; omega)
          obtain ⟨y5, g5⟩ : ∃ y, y4 ++ textB x.reply.text = y := ⟨_, rfl⟩
          have g5n : y5.length ≤ 20300 := by rw [← g5, List.length_append]; omega
          have b6 := wnumber_c (G := G) y5 x.reply.n (by omega) hsc.n
          obtain ⟨y6, g6⟩ : ∃ y, y5 ++ numB x.reply.n = y := ⟨_, rfl⟩
          have g6n : y6.length ≤ 20308 := by rw [← g6, List.length_append, numB_len]; omega
          have b7 := wtexts_c (G := G) y6 x.reply.list (by omega) hsc.list.1 hsc.list.2
          have e1 : y6 ++ manyB textB x.reply.list = l1 ++ (cs.take (i + 1)).flatMap cliB := by rw [flat_succ hx, ← g6, ← g5, ← g4, ← g3, ← g2, ← g1, ← g0]; simp [cliB]
          obtain ⟨b, hb⟩ : ∃ b, l1 ++ (cs.take (i + 1)).flatMap cliB = b := ⟨_, rfl⟩
          rw [g1] at b1
          rw [g2] at b2
          rw [g3] at b3
          rw [g4] at b4
          rw [g5] at b5
          rw [g6] at b6
          rw [e1, hb] at b7
          rw [g0]
          clear g1 g2 g3 g4 g5 g6 e1 g0
          have q1 : decide (i < cs.length) = true := by simpa using hilt
          have w1 : IntKind.i64.wrap ((i : Int) + 1) = (i : Int) + 1 := IntWalk.i64_in _ (by omega)
          clear c1 c2
          obtain ⟨id, seq, time, ⟨rc, rt, rn, rl⟩⟩ := x
          simp only [Cli.row] at hr
          simp only at b1 b2 b3 b4 b5 b6 b7
          unfold wHp at b1 b2 b3 b4 b5 b6 b7 ⊢
          repeat' (first | (with_reducible first | refine Cn (fun h => ?_) fun h => ?_ | refine And.intro ?_ ?_ | refine wR ?_ | exact wr _ _ | refine wa ?_ | apply awp_join | refine qg b1 ?_ | refine qgd b1 ?_ | refine qg b2 ?_ | refine qgd b2 ?_ | refine qg b3 ?_ | refine qgd b3 ?_ | refine qg b4 ?_ | refine qgd b4 ?_ | refine qg b5 ?_ | refine qgd b5 ?_ | refine qg b6 ?_ | refine qgd b6 ?_ | refine qg b7 ?_ | refine qgd b7 ?_) | (with_reducible refine CallZ.z ?_) | simp -dsimp [go_sem, hr, q1, w1])
          all_goals first
            | omega
            | (refine Again.auto (i + 1) ?_ hilt ?_
               · simp -dsimp [go_sem, hb]
               · show cs.length - (i + 1) < cs.length - i; omega)
            | trace_state
        · have hie : i = cs.length := by omega
          subst hie
          rw [List.take_length]
          generalize l1 ++ cs.flatMap cliB = a
          unfold wHp
          repeat' (first | (with_reducible first | refine Cn (fun h => ?_) fun h => ?_ | refine And.intro ?_ ?_ | refine wR ?_ | exact wr _ _ | refine wa ?_ | apply awp_join) | (with_reducible refine CallZ.z ?_) | simp -dsimp [go_sem])
          all_goals trace_state
end Go.Proofs.YtpdcfljbabpakaaGreatDoor
set_option linter.unusedVariables false
set_option linter.unusedSimpArgs false
set_option maxRecDepth 100000
set_option maxHeartbeats 8000000
namespace Go.Proofs.YtpdcfljbabpakaaGreatDoor
open Go Go.RowKit Go.Proofs.AE
def cleanF : List Nat → List (Nat × AV) → List (Nat × AV)
  | _, [] => []
  | seen, (t, v) :: r => bif memB t seen then cleanF seen r else (t, v) :: cleanF (t :: seen) r
theorem getF_cleanF : ∀ (fr : List (Nat × AV)) (seen : List Nat) (t : Nat), t ∉ seen → getF (cleanF seen fr) t = getF fr t
  | [], _, _, _ => rfl
  | (u, v) :: r, seen, t, h => by
    unfold cleanF
    cases hm : memB u seen with
    | true =>
      have hu : u ∈ seen := memB_iff.1 hm
      have hne : u ≠ t := fun e => h (e ▸ hu)
      simp only [cond_true]
      rw [getF_cleanF r seen t h]
      simp only [getF, hne, if_false]
    | false =>
      simp only [cond_false, getF]
      by_cases e : u = t
      · simp [e]
      · simp only [e, if_false]
        exact getF_cleanF r (u :: seen) t (by simp only [List.mem_cons, not_or]; exact ⟨fun h => e h.symm, h⟩)
theorem clean_nil (seen : List Nat) : cleanF seen [] = [] := rfl
def cleanS (b : Bool) (seen : List Nat) (t : Nat) (v : AV) (r : List (Nat × AV)) : List (Nat × AV) := bif b then cleanF seen r else (t, v) :: cleanF (t :: seen) r
theorem clean_cons {seen : List Nat} {t : Nat} {v : AV} {r : List (Nat × AV)} : cleanF seen ((t, v) :: r) = cleanS (memB t seen) seen t v r := rfl
theorem clean_yes {seen : List Nat} {t : Nat} {v : AV} {r : List (Nat × AV)} : cleanS true seen t v r = cleanF seen r := rfl
theorem clean_no {seen : List Nat} {t : Nat} {v : AV} {r : List (Nat × AV)} : cleanS false seen t v r = (t, v) :: cleanF (t :: seen) r := rfl
theorem weak_autoC {k : Nat} {s s' : S} (h : WA k s ⟨cleanF [] s'.fr, s'.gl, s'.hp⟩) : Weak k s s' := by
  refine Weak.trans (weak_auto h) ⟨rfl, fun n w ok μ a hst => ⟨ok, μ, ⟨hst.hr, hst.size, hst.defers, fun t => ?_, hst.gl⟩, (Go.Proofs.AE.Step.refl hst.hr).far⟩⟩
  have := hst.fr t
  rw [getF_cleanF _ _ _ (by simp)] at this
  exact this
end Go.Proofs.YtpdcfljbabpakaaGreatDoor
set_option linter.unusedVariables false
set_option linter.unusedSimpArgs false
set_option maxRecDepth 100000
set_option maxHeartbeats 8000000
namespace Go.Proofs.YtpdcfljbabpakaaGreatDoor
open Go Go.RowKit Go.Proofs.AE
def subC : List Nat → ACode → ACode
  | [], c => c
  | i :: r, .seq a b => subC r (if i = 0 then a else b)
  | i :: r, .cond _ t e => subC r (if i = 0 then t else e)
  | _ :: r, .block _ c => subC r c
  | _ :: r, .loop c => subC r c
  | _, c => c
structure PartIs (d : ACode) : Prop where
theorem PartIs.of {f : Func} {c : ACode} {rs : List ResultVar} {d : ACode} (cc : CC f c rs) (p : List Nat) (h : subC p c = d := by (conv => lhs; simp [subC]); all_goals exact rfl) : PartIs d := ⟨⟩
def nthAlt : ACode → Nat → List AOp × List (Nat × Nat)
  | .regD l, j => l.getD j ([], [])
  | _, _ => ([], [])
def AltOk (P : Program) (c : ACode) (j : Nat) (s s' : S) : Prop := aopsD P (nthAlt c j).1 [] s (fun h q => stables P (nthAlt c j).1 (s :: h) (nthAlt c j).2 ∧ Weak 0 q s')
def AllOk (P : Program) (c : ACode) (s s' : S) : Nat → Prop
  | 0 => True
  | n + 1 => AltOk P c n s s' ∧ AllOk P c s s' n
theorem AllOk.get {P : Program} {c : ACode} {s s' : S} : ∀ {n : Nat}, AllOk P c s s' n → ∀ j, j < n → AltOk P c j s s'
  | 0, _, j, hj => by omega
  | n + 1, h, j, hj => by
    by_cases e : j = n
    · subst e; exact h.1
    · exact AllOk.get h.2 j (by omega)
end Go.Proofs.YtpdcfljbabpakaaGreatDoor
set_option linter.unusedVariables false
set_option linter.unusedSimpArgs false
set_option maxRecDepth 100000
set_option maxHeartbeats 8000000
namespace Go.Proofs.YtpdcfljbabpakaaGreatDoor
open Go Go.RowKit Go.Proofs.AE
variable {G : Nat → AV}
theorem eachN_len {α : Type} (f : Rd → α × Rd) : ∀ (n : Nat) (r : Rd), (eachN f n r).1.length ≤ n
  | 0, r => Nat.le_refl _
  | n + 1, r => by
    unfold eachN
    split
    · simp
    · have := eachN_len f n (f r).2
      simp only [List.length_cons]; omega
theorem smallR_lt (r : Rd) : (smallR r).1 < 256 := by
  unfold smallR
  split
  · rename_i c _ _
    have := c.toNat_lt
    exact this
  · simp
theorem eachR_len {α : Type} (f : Rd → α × Rd) (r : Rd) : (eachR f r).1.length ≤ 255 := by
  unfold eachR
  have h1 := eachN_len f (smallR r).1 (smallR r).2
  have h2 := smallR_lt r
  omega
structure OnWay {α : Type} (f : Rd → α × Rd) (r0 : Rd) (n : Nat) (r : Rd) (l : List α) : Prop where
  eq : eachR f r0 = (l ++ (eachN f n r).1, (eachN f n r).2)
  le : l.length + n ≤ 255
theorem OnWay.first {α : Type} (f : Rd → α × Rd) (r0 : Rd) : OnWay f r0 (smallR r0).1 (smallR r0).2 [] := ⟨rfl, by have := smallR_lt r0; simp; omega⟩
theorem OnWay.next {α : Type} {f : Rd → α × Rd} {r0 r : Rd} {n : Nat} {l : List α} (h : OnWay f r0 (n + 1) r l) (hs : r.short = false) : OnWay f r0 n (f r).2 (l ++ [(f r).1]) := by
  refine ⟨?_, by have := h.le; simp; omega⟩
  have e : eachN f (n + 1) r = ((f r).1 :: (eachN f n (f r).2).1, (eachN f n (f r).2).2) := by
    show (if r.short = true then _ else _) = _
    rw [if_neg (by rw [hs]; simp)]
  rw [h.eq, e]
  simp
theorem OnWay.stop {α : Type} {f : Rd → α × Rd} {r0 r : Rd} {n : Nat} {l : List α} (h : OnWay f r0 n r l) (hs : n = 0 ∨ r.short = true) : eachR f r0 = (l, r) := by
  rw [h.eq]
  rcases hs with rfl | hs
  · simp [eachN]
  · cases n with
    | zero => simp [eachN]
    | succ n => unfold eachN; rw [if_pos hs]; simp
abbrev tHp (r : Rd) (l : List ByteArray) : Hp := [some (.box 128 [.v (.sl (bR r.rest)), .v (.lit (.bool r.short))]), some (.box 125 [.ptr 0 0]), some (.box 104 [.ar 3]), some (.arr 9 1 (strRows l))]
theorem strRows_snoc (l : List ByteArray) (t : ByteArray) : strRows (l ++ [t]) = strRows l ++ [[.lit (.string t)]] := by simp [strRows]
theorem strRows_ul (l : List ByteArray) : UL 1 (strRows l) := by
  intro r hr
  obtain ⟨y, _, rfl⟩ := List.mem_map.1 hr
  rfl
theorem txStep_c (r : Rd) (l : List ByteArray) (hl : l.length ≤ 1000) : DetCall Tryz.prog G 91 3 (tHp r l) [.one (.ptr 2 0), .one (.ptr 1 0)] (.tup []) (tHp (txtR r).2 (l ++ [(txtR r).1])) := by
  have ht := rtext_c (G := G) r
  have h1 : (strRows l).length = l.length := by simp [strRows]
  have h2 := strRows_ul l
  generalize txtR r = q at *
  obtain ⟨t, r2⟩ := q
  simp only at ht
  have h3 := strRows_snoc l t
  unfold tHp
  rw [h3]
  unfold rHp at ht
  refine gcallc mixed Tryz.func91 ac_wire_reader_texts_1 ?_
  repeat' (first | (with_reducible first | refine Cn (fun h => ?_) fun h => ?_ | refine And.intro ?_ ?_ | refine wR ?_ | exact wr _ _ | refine wa ?_ | apply awp_join | refine qg ht ?_ | refine qgd ht ?_) | (with_reducible refine CallZ.z ?_) | simp -dsimp [go_sem, h1, h2])
  all_goals first | omega | (simp [UL]; done) | trace_state
theorem txEach_c  (r0 : Rd) : DetCall Tryz.prog G 56 3 (tHp  r0 []) [.one (.ptr 0 0), .fn 91 [] [.ptr 2 0, .ptr 1 0]] (.tup []) (tHp  (eachR txtR r0).2 (eachR txtR r0).1) := by
  have hsm := rsmall_c (G := G) r0
  have hle := smallR_lt r0
  have hen := en91
  have hfirst := OnWay.first txtR r0
  generalize smallR r0 = q at *
  obtain ⟨n, r⟩ := q
  simp only at hle hfirst
  refine gcallc mixed Tryz.func56 ac_wire_reader_each ?_
  unfold tHp
  unfold rHp at hsm
  repeat' (first | (with_reducible first | refine Cn (fun h => ?_) fun h => ?_ | refine And.intro ?_ ?_ | refine wR ?_ | exact wr _ _ | refine wa ?_ | apply awp_join | refine qg hsm ?_ | refine qgd hsm ?_) | (with_reducible refine CallZ.z ?_) | simp -dsimp [go_sem])
  refine awp_loop (fun x : Nat × Rd × List ByteArray => ⟨[(0, .one (.ptr 0 0)), (1, .fn 91 [] [.ptr 2 0, .ptr 1 0]), (4, iV x.1)], G, tHp  x.2.1 x.2.2⟩) (fun x => OnWay txtR r0 x.1 x.2.1 x.2.2) (fun x => x.1) (n, r, []) (weak_auto ?_) hfirst ?_
  · simp -dsimp [go_sem, strRows]
  · rintro ⟨n, r, l⟩ hw
    simp only at hw
    have hwl := hw.le
    unfold tHp
    cases n with
    | zero =>
      rw [hw.stop (.inl rfl)]
      repeat' (first | (with_reducible first | refine Cn (fun h => ?_) fun h => ?_ | refine And.intro ?_ ?_ | refine wR ?_ | exact wr _ _ | refine wa ?_ | apply awp_join) | (with_reducible refine CallZ.z ?_) | simp -dsimp [go_sem])
      all_goals trace_state
    | succ n =>
      have w1 : IntKind.i64.wrap (n : Int) = (n : Int) := IntWalk.i64_in _ (by omega)
      have w2 : ((n + 1 : Nat) : Int) - 1 = (n : Int) := by omega
      have q1 : decide (0 < ((n + 1 : Nat) : Int)) = true := decide_eq_true (by omega)
      have q2 : decide (0 < (n : Int) + 1) = true := decide_eq_true (by omega)
      by_cases hs : r.short = true
      · rw [hw.stop (.inr hs)]
        repeat' (first | (with_reducible first | refine Cn (fun h => ?_) fun h => ?_ | refine And.intro ?_ ?_ | refine wR ?_ | exact wr _ _ | refine wa ?_ | apply awp_join) | (with_reducible refine CallZ.z ?_) | simp -dsimp [go_sem, hs, q1, q2])
        all_goals trace_state
      · have hs : r.short = false := by simpa using hs
        have hst := txStep_c (G := G)  r l (by omega)
        have hnx := hw.next hs
        generalize txtR r = q at *
        obtain ⟨t, r2⟩ := q
        simp only at hst hnx
        clear hsm
        unfold tHp at hst
        rw [hs] at hst
        repeat' (first | (with_reducible first | refine Cn (fun h => ?_) fun h => ?_ | refine And.intro ?_ ?_ | refine wR ?_ | exact wr _ _ | refine wa ?_ | apply awp_join | refine qg hst ?_ | refine qgd hst ?_) | (with_reducible refine CallZ.z ?_) | simp -dsimp [go_sem, hs, q1, q2, w1, w2, hen])
        all_goals first
          | omega
          | (refine Again.auto (n, r2, l ++ [t]) ?_ hnx ?_
             · simp -dsimp [go_sem]
             · show n < n + 1; omega)
          | trace_state
theorem rtexts_c (r : Rd) : DetCall Tryz.prog G 62 1 (rHp r) [.one (.ptr 0 0)] (.one (.v (.sl (strRows (eachR txtR r).1)))) (rHp (eachR txtR r).2) := by
  have he := txEach_c (G := G) r
  generalize eachR txtR r = q at *
  obtain ⟨l, r2⟩ := q
  simp only at he
  unfold tHp at he
  have h0 : strRows [] = [] := rfl
  rw [h0] at he
  unfold rHp
  refine gcallc mixed Tryz.func62 ac_wire_reader_texts ?_
  repeat' (first | (with_reducible first | refine Cn (fun h => ?_) fun h => ?_ | refine And.intro ?_ ?_ | refine wR ?_ | exact wr _ _ | refine wa ?_ | apply awp_join | refine qg he ?_ | refine qgd he ?_) | (refine CallZ.l (CallK.thaw 2 0 9 1 rfl rfl (by decide) ?_); simp -dsimp [go_sem]) | (with_reducible refine CallZ.z ?_) | simp -dsimp [go_sem])
  all_goals trace_state
abbrev pHp (k : Int) (t : ByteArray) (c : Int) (r : Rd) (l : List Pr) : Hp := [some (.box 128 [.v (.sl (bR r.rest)), .v (.lit (.bool r.short))]), some (.box 125 [.ptr 0 0]), some (.box 117 [iC k, sC t, iC c, .ar 3, .ar 4, .ar 5]), some (.arr 165 2 (pR l)), some (.arr 9 1 []), some (.arr 167 2 [])]
theorem pR_ul (l : List Pr) : UL 2 (pR l) := by
  intro r hr
  obtain ⟨y, _, rfl⟩ := List.mem_map.1 hr
  rfl
theorem sR_ul (l : List Sc) : UL 2 (sR l) := by
  intro r hr
  obtain ⟨y, _, rfl⟩ := List.mem_map.1 hr
  rfl
theorem prStep_c (k : Int) (t : ByteArray) (c : Int) (r : Rd) (l : List Pr) (hl : l.length ≤ 1000) : DetCall Tryz.prog G 89 3 (pHp k t c r l) [.one (.ptr 2 0), .one (.ptr 1 0)] (.tup []) (pHp k t c (prR r).2 (l ++ [(prR r).1])) := by
  have e : prR r = (((txtR r).1, (txtR (txtR r).2).1), (txtR (txtR r).2).2) := rfl
  rw [e]
  have h1 := rtext_c (G := G) r
  generalize txtR r = q at *
  obtain ⟨f, r1⟩ := q
  simp only at h1 ⊢
  have h2 := rtext_c (G := G) r1
  generalize txtR r1 = q at *
  obtain ⟨x, r2⟩ := q
  simp only at h2 ⊢
  have h3 : (pR l).length = l.length := by simp
  have h4 := pR_ul l
  have h5 : pR (l ++ [(f, x)]) = pR l ++ [[.lit (.string f), .lit (.string x)]] := by simp
  unfold pHp
  rw [h5]
  unfold rHp at h1 h2
  refine gcallc mixed Tryz.func89 ac_wire_reader_value_1 ?_
  repeat' (first | (with_reducible first | refine Cn (fun h => ?_) fun h => ?_ | refine And.intro ?_ ?_ | refine wR ?_ | exact wr _ _ | refine wa ?_ | apply awp_join | refine qg h1 ?_ | refine qgd h1 ?_ | refine qg h2 ?_ | refine qgd h2 ?_) | (with_reducible refine CallZ.z ?_) | simp -dsimp [go_sem, h3, h4])
  all_goals first | omega | (simp [UL]; done) | trace_state
theorem prEach_c (k : Int) (t : ByteArray) (c : Int) (r0 : Rd) : DetCall Tryz.prog G 56 3 (pHp k t c r0 []) [.one (.ptr 0 0), .fn 89 [] [.ptr 2 0, .ptr 1 0]] (.tup []) (pHp k t c (eachR prR r0).2 (eachR prR r0).1) := by
  have hsm := rsmall_c (G := G) r0
  have hle := smallR_lt r0
  have hen := en89
  have hfirst := OnWay.first prR r0
  generalize smallR r0 = q at *
  obtain ⟨n, r⟩ := q
  simp only at hle hfirst
  refine gcallc mixed Tryz.func56 ac_wire_reader_each ?_
  unfold pHp
  unfold rHp at hsm
  repeat' (first | (with_reducible first | refine Cn (fun h => ?_) fun h => ?_ | refine And.intro ?_ ?_ | refine wR ?_ | exact wr _ _ | refine wa ?_ | apply awp_join | refine qg hsm ?_ | refine qgd hsm ?_) | (with_reducible refine CallZ.z ?_) | simp -dsimp [go_sem])
  refine awp_loop (fun x : Nat × Rd × List Pr => ⟨[(0, .one (.ptr 0 0)), (1, .fn 89 [] [.ptr 2 0, .ptr 1 0]), (4, iV x.1)], G, pHp k t c x.2.1 x.2.2⟩) (fun x => OnWay prR r0 x.1 x.2.1 x.2.2) (fun x => x.1) (n, r, []) (weak_auto ?_) hfirst ?_
  · simp -dsimp [go_sem]
  · rintro ⟨n, r, l⟩ hw
    simp only at hw
    have hwl := hw.le
    unfold pHp
    cases n with
    | zero =>
      rw [hw.stop (.inl rfl)]
      repeat' (first | (with_reducible first | refine Cn (fun h => ?_) fun h => ?_ | refine And.intro ?_ ?_ | refine wR ?_ | exact wr _ _ | refine wa ?_ | apply awp_join) | (with_reducible refine CallZ.z ?_) | simp -dsimp [go_sem])
      all_goals trace_state
    | succ n =>
      have w1 : IntKind.i64.wrap (n : Int) = (n : Int) := IntWalk.i64_in _ (by omega)
      have w2 : ((n + 1 : Nat) : Int) - 1 = (n : Int) := by omega
      have q1 : decide (0 < ((n + 1 : Nat) : Int)) = true := decide_eq_true (by omega)
      have q2 : decide (0 < (n : Int) + 1) = true := decide_eq_true (by omega)
      by_cases hs : r.short = true
      · rw [hw.stop (.inr hs)]
        repeat' (first | (with_reducible first | refine Cn (fun h => ?_) fun h => ?_ | refine And.intro ?_ ?_ | refine wR ?_ | exact wr _ _ | refine wa ?_ | apply awp_join) | (with_reducible refine CallZ.z ?_) | simp -dsimp [go_sem, hs, q1, q2])
        all_goals trace_state
      · have hs : r.short = false := by simpa using hs
        have hst := prStep_c (G := G) k t c r l (by omega)
        have hnx := hw.next hs
        generalize prR r = q at *
        obtain ⟨t, r2⟩ := q
        simp only at hst hnx
        clear hsm
        unfold pHp at hst
        rw [hs] at hst
        repeat' (first | (with_reducible first | refine Cn (fun h => ?_) fun h => ?_ | refine And.intro ?_ ?_ | refine wR ?_ | exact wr _ _ | refine wa ?_ | apply awp_join | refine qg hst ?_ | refine qgd hst ?_) | (with_reducible refine CallZ.z ?_) | simp -dsimp [go_sem, hs, q1, q2, w1, w2, hen])
        all_goals first
          | omega
          | (refine Again.auto (n, r2, l ++ [t]) ?_ hnx ?_
             · simp -dsimp [go_sem]
             · show n < n + 1; omega)
          | trace_state
abbrev sHp (k : Int) (t : ByteArray) (c : Int) (ps : List Pr) (is : List ByteArray) (r : Rd) (l : List Sc) : Hp := [some (.box 128 [.v (.sl (bR r.rest)), .v (.lit (.bool r.short))]), some (.box 125 [.ptr 0 0]), some (.box 117 [iC k, sC t, iC c, .ar 3, .v (.sl (strRows is)), .ar 4]), some (.arr 165 2 (pR ps)), some (.arr 167 2 (sR l))]
theorem scStep_c (k : Int) (t : ByteArray) (c : Int) (ps : List Pr) (is : List ByteArray) (r : Rd) (l : List Sc) (hl : l.length ≤ 1000) : DetCall Tryz.prog G 90 3 (sHp k t c ps is r l) [.one (.ptr 2 0), .one (.ptr 1 0)] (.tup []) (sHp k t c ps is (scR r).2 (l ++ [(scR r).1])) := by
  have e : scR r = (((txtR r).1, (numR (txtR r).2).1), (numR (txtR r).2).2) := rfl
  rw [e]
  have h1 := rtext_c (G := G) r
  generalize txtR r = q at *
  obtain ⟨f, r1⟩ := q
  simp only at h1 ⊢
  have h2 := rnumber_c (G := G) r1
  generalize numR r1 = q at *
  obtain ⟨x, r2⟩ := q
  simp only at h2 ⊢
  have h3 : (sR l).length = l.length := by simp
  have h4 := sR_ul l
  have h5 : sR (l ++ [(f, x)]) = sR l ++ [[.lit (.string f), .lit (.int .i64 x)]] := by simp
  unfold sHp
  rw [h5]
  unfold rHp at h1 h2
  refine gcallc mixed Tryz.func90 ac_wire_reader_value_2 ?_
  repeat' (first | (with_reducible first | refine Cn (fun h => ?_) fun h => ?_ | refine And.intro ?_ ?_ | refine wR ?_ | exact wr _ _ | refine wa ?_ | apply awp_join | refine qg h1 ?_ | refine qgd h1 ?_ | refine qg h2 ?_ | refine qgd h2 ?_) | (with_reducible refine CallZ.z ?_) | simp -dsimp [go_sem, h3, h4])
  all_goals first | omega | (simp [UL]; done) | trace_state
theorem scEach_c (k : Int) (t : ByteArray) (c : Int) (ps : List Pr) (is : List ByteArray) (r0 : Rd) : DetCall Tryz.prog G 56 3 (sHp k t c ps is r0 []) [.one (.ptr 0 0), .fn 90 [] [.ptr 2 0, .ptr 1 0]] (.tup []) (sHp k t c ps is (eachR scR r0).2 (eachR scR r0).1) := by
  have hsm := rsmall_c (G := G) r0
  have hle := smallR_lt r0
  have hen := en90
  have hfirst := OnWay.first scR r0
  generalize smallR r0 = q at *
  obtain ⟨n, r⟩ := q
  simp only at hle hfirst
  refine gcallc mixed Tryz.func56 ac_wire_reader_each ?_
  unfold sHp
  unfold rHp at hsm
  repeat' (first | (with_reducible first | refine Cn (fun h => ?_) fun h => ?_ | refine And.intro ?_ ?_ | refine wR ?_ | exact wr _ _ | refine wa ?_ | apply awp_join | refine qg hsm ?_ | refine qgd hsm ?_) | (with_reducible refine CallZ.z ?_) | simp -dsimp [go_sem])
  refine awp_loop (fun x : Nat × Rd × List Sc => ⟨[(0, .one (.ptr 0 0)), (1, .fn 90 [] [.ptr 2 0, .ptr 1 0]), (4, iV x.1)], G, sHp k t c ps is x.2.1 x.2.2⟩) (fun x => OnWay scR r0 x.1 x.2.1 x.2.2) (fun x => x.1) (n, r, []) (weak_auto ?_) hfirst ?_
  · simp -dsimp [go_sem]
  · rintro ⟨n, r, l⟩ hw
    simp only at hw
    have hwl := hw.le
    unfold sHp
    cases n with
    | zero =>
      rw [hw.stop (.inl rfl)]
      repeat' (first | (with_reducible first | refine Cn (fun h => ?_) fun h => ?_ | refine And.intro ?_ ?_ | refine wR ?_ | exact wr _ _ | refine wa ?_ | apply awp_join) | (with_reducible refine CallZ.z ?_) | simp -dsimp [go_sem])
      all_goals trace_state
    | succ n =>
      have w1 : IntKind.i64.wrap (n : Int) = (n : Int) := IntWalk.i64_in _ (by omega)
      have w2 : ((n + 1 : Nat) : Int) - 1 = (n : Int) := by omega
      have q1 : decide (0 < ((n + 1 : Nat) : Int)) = true := decide_eq_true (by omega)
      have q2 : decide (0 < (n : Int) + 1) = true := decide_eq_true (by omega)
      by_cases hs : r.short = true
      · rw [hw.stop (.inr hs)]
        repeat' (first | (with_reducible first | refine Cn (fun h => ?_) fun h => ?_ | refine And.intro ?_ ?_ | refine wR ?_ | exact wr _ _ | refine wa ?_ | apply awp_join) | (with_reducible refine CallZ.z ?_) | simp -dsimp [go_sem, hs, q1, q2])
        all_goals trace_state
      · have hs : r.short = false := by simpa using hs
        have hst := scStep_c (G := G) k t c ps is r l (by omega)
        have hnx := hw.next hs
        generalize scR r = q at *
        obtain ⟨t, r2⟩ := q
        simp only at hst hnx
        clear hsm
        unfold sHp at hst
        rw [hs] at hst
        repeat' (first | (with_reducible first | refine Cn (fun h => ?_) fun h => ?_ | refine And.intro ?_ ?_ | refine wR ?_ | exact wr _ _ | refine wa ?_ | apply awp_join | refine qg hst ?_ | refine qgd hst ?_) | (with_reducible refine CallZ.z ?_) | simp -dsimp [go_sem, hs, q1, q2, w1, w2, hen])
        all_goals first
          | omega
          | (refine Again.auto (n, r2, l ++ [t]) ?_ hnx ?_
             · simp -dsimp [go_sem]
             · show n < n + 1; omega)
          | trace_state
theorem valR_eq (r : Rd) : valR r = (⟨((smallR r).1 : Int), (txtR (smallR r).2).1, (numR (txtR (smallR r).2).2).1, (eachR prR (numR (txtR (smallR r).2).2).2).1, (eachR txtR (eachR prR (numR (txtR (smallR r).2).2).2).2).1, (eachR scR (eachR txtR (eachR prR (numR (txtR (smallR r).2).2).2).2).2).1⟩, (eachR scR (eachR txtR (eachR prR (numR (txtR (smallR r).2).2).2).2).2).2) := id rfl
theorem rvalue_c (r : Rd) : DetCall Tryz.prog G 59 1 (rHp r) [.one (.ptr 0 0)] (.agg (valR r).1.c) (rHp (valR r).2) := by
  rw [valR_eq]
  have h1 := rsmall_c (G := G) r
  generalize smallR r = q at *
  obtain ⟨k, r1⟩ := q
  simp only at h1 ⊢
  have h2 := rtext_c (G := G) r1
  generalize txtR r1 = q at *
  obtain ⟨t, r2⟩ := q
  simp only at h2 ⊢
  have h3 := rnumber_c (G := G) r2
  generalize numR r2 = q at *
  obtain ⟨c, r3⟩ := q
  simp only at h3 ⊢
  have h4 := prEach_c (G := G) k t c r3
  generalize eachR prR r3 = q at *
  obtain ⟨ps, r4⟩ := q
  simp only at h4 ⊢
  have h5 := rtexts_c (G := G) r4
  generalize eachR txtR r4 = q at *
  obtain ⟨is, r5⟩ := q
  simp only at h5 ⊢
  have h6 := scEach_c (G := G) k t c ps is r5
  generalize eachR scR r5 = q at *
  obtain ⟨ss, r6⟩ := q
  simp only at h6 ⊢
  unfold rHp at *
  unfold pHp at h4
  unfold sHp at h6
  simp only [Val.c]
  refine gcallc mixed Tryz.func59 ac_wire_reader_value ?_
  repeat' (first | (with_reducible first | refine Cn (fun h => ?_) fun h => ?_ | refine And.intro ?_ ?_ | refine wR ?_ | exact wr _ _ | refine wa ?_ | apply awp_join | refine qg h1 ?_ | refine qgd h1 ?_ | refine qg h2 ?_ | refine qgd h2 ?_ | refine qg h3 ?_ | refine qgd h3 ?_ | refine qg h4 ?_ | refine qgd h4 ?_ | refine qg h5 ?_ | refine qgd h5 ?_ | refine qg h6 ?_ | refine qgd h6 ?_ | refine q (simp -dsimp [go_sem]) ?_ | refine qd (simp -dsimp [go_sem]) ?_ | refine qz (simp -dsimp [go_sem]) ?_) | (refine CallZ.l (CallK.thaw 3 3 165 2 rfl rfl (by decide) (CallK.thaw 3 4 9 1 rfl rfl (by decide) (CallK.thaw 3 5 167 2 rfl rfl (by decide) ?_)))) | (with_reducible refine CallZ.z ?_) | simp -dsimp [go_sem])
  all_goals trace_state
end Go.Proofs.YtpdcfljbabpakaaGreatDoor
set_option linter.unusedVariables false
set_option linter.unusedSimpArgs false
set_option maxRecDepth 100000
set_option maxHeartbeats 8000000
namespace Go.Proofs.YtpdcfljbabpakaaGreatDoor
open Go Go.RowKit Go.Proofs.AE
variable {G : Nat → AV}
abbrev eHp (now nx : Int) (cs : List Cli) (r : Rd) (l : List Ent) : Hp := [some (.box 128 [.v (.sl (bR r.rest)), .v (.lit (.bool r.short))]), some (.box 125 [.ptr 0 0]), some (.box 28 [iC now, .ar 3, iC nx, .ar 4]), some (.arr 119 8 (eR l)), some (.arr 123 7 (clR cs))]
theorem entR_eq (r : Rd) : entR r = (⟨(txtR r).1, (valR (txtR r).2).1, (numR (valR (txtR r).2).2).1⟩, (numR (valR (txtR r).2).2).2) := id rfl
theorem enStep_c (now nx : Int) (cs : List Cli) (r : Rd) (l : List Ent) (hl : l.length ≤ 1000) : DetCall Tryz.prog G 57 3 (eHp now nx cs r l) [.one (.ptr 2 0), .one (.ptr 1 0)] (.tup []) (eHp now nx cs (entR r).2 (l ++ [(entR r).1])) := by
  rw [entR_eq]
  have h1 := rtext_c (G := G) r
  generalize txtR r = q at *
  obtain ⟨f, r1⟩ := q
  simp only at h1 ⊢
  have h2 := rvalue_c (G := G) r1
  generalize valR r1 = q at *
  obtain ⟨⟨vk, vt, vn, vp, vi, vs⟩, r2⟩ := q
  simp only [Val.c] at h2 ⊢
  have h3 := rnumber_c (G := G) r2
  generalize numR r2 = q at *
  obtain ⟨x, r3⟩ := q
  simp only at h3 ⊢
  have h4 : (eR l).length = l.length := by simp
  have h5 := ul_e l
  have h6 : eR (l ++ [⟨f, ⟨vk, vt, vn, vp, vi, vs⟩, x⟩]) = eR l ++ [[.lit (.string f), .lit (.int .i64 vk), .lit (.string vt), .lit (.int .i64 vn), .sl (pR vp), .sl (strRows vi), .sl (sR vs), .lit (.int .i64 x)]] := by simp [Ent.row]
  unfold eHp
  rw [h6]
  unfold rHp at h1 h2 h3
  refine gcallc mixed Tryz.func57 ac_wire_Decode_1 ?_
  repeat' (first | (with_reducible first | refine Cn (fun h => ?_) fun h => ?_ | refine And.intro ?_ ?_ | refine wR ?_ | exact wr _ _ | refine wa ?_ | apply awp_join | refine qg h1 ?_ | refine qgd h1 ?_ | refine qg h2 ?_ | refine qgd h2 ?_ | refine qg h3 ?_ | refine qgd h3 ?_) | (with_reducible refine CallZ.z ?_) | simp -dsimp [go_sem, h4, h5])
  all_goals first | omega | (simp [UL]; done) | trace_state
theorem enEach_c (now nx : Int) (cs : List Cli) (r0 : Rd) : DetCall Tryz.prog G 56 3 (eHp now nx cs r0 []) [.one (.ptr 0 0), .fn 57 [] [.ptr 2 0, .ptr 1 0]] (.tup []) (eHp now nx cs (eachR entR r0).2 (eachR entR r0).1) := by
  have hsm := rsmall_c (G := G) r0
  have hle := smallR_lt r0
  have hen := en57
  have hfirst := OnWay.first entR r0
  generalize smallR r0 = q at *
  obtain ⟨n, r⟩ := q
  simp only at hle hfirst
  refine gcallc mixed Tryz.func56 ac_wire_reader_each ?_
  unfold eHp
  unfold rHp at hsm
  repeat' (first | (with_reducible first | refine Cn (fun h => ?_) fun h => ?_ | refine And.intro ?_ ?_ | refine wR ?_ | exact wr _ _ | refine wa ?_ | apply awp_join | refine qg hsm ?_ | refine qgd hsm ?_) | (with_reducible refine CallZ.z ?_) | simp -dsimp [go_sem])
  refine awp_loop (fun x : Nat × Rd × List Ent => ⟨[(0, .one (.ptr 0 0)), (1, .fn 57 [] [.ptr 2 0, .ptr 1 0]), (4, iV x.1)], G, eHp now nx cs x.2.1 x.2.2⟩) (fun x => OnWay entR r0 x.1 x.2.1 x.2.2) (fun x => x.1) (n, r, []) (weak_auto ?_) hfirst ?_
  · simp -dsimp [go_sem]
  · rintro ⟨n, r, l⟩ hw
    simp only at hw
    have hwl := hw.le
    unfold eHp
    cases n with
    | zero =>
      rw [hw.stop (.inl rfl)]
      repeat' (first | (with_reducible first | refine Cn (fun h => ?_) fun h => ?_ | refine And.intro ?_ ?_ | refine wR ?_ | exact wr _ _ | refine wa ?_ | apply awp_join) | (with_reducible refine CallZ.z ?_) | simp -dsimp [go_sem])
      all_goals trace_state
    | succ n =>
      have w1 : IntKind.i64.wrap (n : Int) = (n : Int) := IntWalk.i64_in _ (by omega)
      have w2 : ((n + 1 : Nat) : Int) - 1 = (n : Int) := by omega
      have q1 : decide (0 < ((n + 1 : Nat) : Int)) = true := decide_eq_true (by omega)
      have q2 : decide (0 < (n : Int) + 1) = true := decide_eq_true (by omega)
      by_cases hs : r.short = true
      · rw [hw.stop (.inr hs)]
        repeat' (first | (with_reducible first | refine Cn (fun h => ?_) fun h => ?_ | refine And.intro ?_ ?_ | refine wR ?_ | exact wr _ _ | refine wa ?_ | apply awp_join) | (with_reducible refine CallZ.z ?_) | simp -dsimp [go_sem, hs, q1, q2])
        all_goals trace_state
      · have hs : r.short = false := by simpa using hs
        have hst := enStep_c (G := G) now nx cs r l (by omega)
        have hnx := hw.next hs
        generalize entR r = q at *
        obtain ⟨t, r2⟩ := q
        simp only at hst hnx
        clear hsm
        unfold eHp at hst
        rw [hs] at hst
        repeat' (first | (with_reducible first | refine Cn (fun h => ?_) fun h => ?_ | refine And.intro ?_ ?_ | refine wR ?_ | exact wr _ _ | refine wa ?_ | apply awp_join | refine qg hst ?_ | refine qgd hst ?_) | (with_reducible refine CallZ.z ?_) | simp -dsimp [go_sem, hs, q1, q2, w1, w2, hen])
        all_goals first
          | omega
          | (refine Again.auto (n, r2, l ++ [t]) ?_ hnx ?_
             · simp -dsimp [go_sem]
             · show n < n + 1; omega)
          | trace_state
abbrev cHp (now nx : Int) (es : List Ent) (r : Rd) (l : List Cli) : Hp := [some (.box 128 [.v (.sl (bR r.rest)), .v (.lit (.bool r.short))]), some (.box 125 [.ptr 0 0]), some (.box 28 [iC now, .ar 3, iC nx, .ar 4]), some (.arr 119 8 (eR es)), some (.arr 123 7 (clR l))]
def cliR3 (r : Rd) : (Int × Int × Int) × Rd := (((numR r).1, (numR (numR r).2).1, (numR (numR (numR r).2).2).1), (numR (numR (numR r).2).2).2)
def repR3 (r : Rd) : (Int × ByteArray × Int) × Rd := ((((smallR r).1 : Int), (txtR (smallR r).2).1, (numR (txtR (smallR r).2).2).1), (numR (txtR (smallR r).2).2).2)
theorem cliR_eq (r : Rd) : cliR r = (⟨(cliR3 r).1.1, (cliR3 r).1.2.1, (cliR3 r).1.2.2, ⟨(repR3 (cliR3 r).2).1.1, (repR3 (cliR3 r).2).1.2.1, (repR3 (cliR3 r).2).1.2.2, (eachR txtR (repR3 (cliR3 r).2).2).1⟩⟩, (eachR txtR (repR3 (cliR3 r).2).2).2) := id rfl
theorem cl_ul (l : List Cli) : UL 7 (clR l) := by
  intro r hr
  obtain ⟨y, _, rfl⟩ := List.mem_map.1 hr
  rfl
theorem clStep_c (now nx : Int) (es : List Ent) (r : Rd) (l : List Cli) (hl : l.length ≤ 1000) : DetCall Tryz.prog G 60 3 (cHp now nx es r l) [.one (.ptr 1 0), .one (.ptr 2 0)] (.tup []) (cHp now nx es (cliR r).2 (l ++ [(cliR r).1])) := by
  rw [cliR_eq]
  unfold cliR3 repR3
  have h1 := rnumber_c (G := G) r
  generalize numR r = q at *
  obtain ⟨id, r1⟩ := q
  simp only at h1 ⊢
  have h2 := rnumber_c (G := G) r1
  generalize numR r1 = q at *
  obtain ⟨seq, r2⟩ := q
  simp only at h2 ⊢
  have h3 := rnumber_c (G := G) r2
  generalize numR r2 = q at *
  obtain ⟨time, r3⟩ := q
  simp only at h3 ⊢
  have h4 := rsmall_c (G := G) r3
  generalize smallR r3 = q at *
  obtain ⟨code, r4⟩ := q
  simp only at h4 ⊢
  have h5 := rtext_c (G := G) r4
  generalize txtR r4 = q at *
  obtain ⟨tx, r5⟩ := q
  simp only at h5 ⊢
  have h6 := rnumber_c (G := G) r5
  generalize numR r5 = q at *
  obtain ⟨n, r6⟩ := q
  simp only at h6 ⊢
  have h7 := rtexts_c (G := G) r6
  generalize eachR txtR r6 = q at *
  obtain ⟨li, r7⟩ := q
  simp only at h7 ⊢
  have k1 : (clR l).length = l.length := by simp
  have k2 := cl_ul l
  have k3 : clR (l ++ [⟨id, seq, time, ⟨(code : Int), tx, n, li⟩⟩]) = clR l ++ [[.lit (.int .i64 id), .lit (.int .i64 seq), .lit (.int .i64 time), .lit (.int .i64 (code : Int)), .lit (.string tx), .lit (.int .i64 n), .sl (strRows li)]] := by simp [Cli.row]
  unfold cHp
  rw [k3]
  unfold rHp at *
  refine gcallc mixed Tryz.func60 ac_wire_Decode_2 ?_
  repeat' (first | (with_reducible first | refine Cn (fun h => ?_) fun h => ?_ | refine And.intro ?_ ?_ | refine wR ?_ | exact wr _ _ | refine wa ?_ | apply awp_join | refine qg h1 ?_ | refine qgd h1 ?_ | refine qg h2 ?_ | refine qgd h2 ?_ | refine qg h3 ?_ | refine qgd h3 ?_ | refine qg h4 ?_ | refine qgd h4 ?_ | refine qg h5 ?_ | refine qgd h5 ?_ | refine qg h6 ?_ | refine qgd h6 ?_ | refine qg h7 ?_ | refine qgd h7 ?_) | (with_reducible refine CallZ.z ?_) | simp -dsimp [go_sem, k1, k2])
  all_goals first | omega | (simp [UL]; done) | trace_state
theorem clEach_c (now nx : Int) (es : List Ent) (r0 : Rd) : DetCall Tryz.prog G 56 3 (cHp now nx es r0 []) [.one (.ptr 0 0), .fn 60 [] [.ptr 1 0, .ptr 2 0]] (.tup []) (cHp now nx es (eachR cliR r0).2 (eachR cliR r0).1) := by
  have hsm := rsmall_c (G := G) r0
  have hle := smallR_lt r0
  have hen := en60
  have hfirst := OnWay.first cliR r0
  generalize smallR r0 = q at *
  obtain ⟨n, r⟩ := q
  simp only at hle hfirst
  refine gcallc mixed Tryz.func56 ac_wire_reader_each ?_
  unfold cHp
  unfold rHp at hsm
  repeat' (first | (with_reducible first | refine Cn (fun h => ?_) fun h => ?_ | refine And.intro ?_ ?_ | refine wR ?_ | exact wr _ _ | refine wa ?_ | apply awp_join | refine qg hsm ?_ | refine qgd hsm ?_) | (with_reducible refine CallZ.z ?_) | simp -dsimp [go_sem])
  refine awp_loop (fun x : Nat × Rd × List Cli => ⟨[(0, .one (.ptr 0 0)), (1, .fn 60 [] [.ptr 1 0, .ptr 2 0]), (4, iV x.1)], G, cHp now nx es x.2.1 x.2.2⟩) (fun x => OnWay cliR r0 x.1 x.2.1 x.2.2) (fun x => x.1) (n, r, []) (weak_auto ?_) hfirst ?_
  · simp -dsimp [go_sem]
  · rintro ⟨n, r, l⟩ hw
    simp only at hw
    have hwl := hw.le
    unfold cHp
    cases n with
    | zero =>
      rw [hw.stop (.inl rfl)]
      repeat' (first | (with_reducible first | refine Cn (fun h => ?_) fun h => ?_ | refine And.intro ?_ ?_ | refine wR ?_ | exact wr _ _ | refine wa ?_ | apply awp_join) | (with_reducible refine CallZ.z ?_) | simp -dsimp [go_sem])
      all_goals trace_state
    | succ n =>
      have w1 : IntKind.i64.wrap (n : Int) = (n : Int) := IntWalk.i64_in _ (by omega)
      have w2 : ((n + 1 : Nat) : Int) - 1 = (n : Int) := by omega
      have q1 : decide (0 < ((n + 1 : Nat) : Int)) = true := decide_eq_true (by omega)
      have q2 : decide (0 < (n : Int) + 1) = true := decide_eq_true (by omega)
      by_cases hs : r.short = true
      · rw [hw.stop (.inr hs)]
        repeat' (first | (with_reducible first | refine Cn (fun h => ?_) fun h => ?_ | refine And.intro ?_ ?_ | refine wR ?_ | exact wr _ _ | refine wa ?_ | apply awp_join) | (with_reducible refine CallZ.z ?_) | simp -dsimp [go_sem, hs, q1, q2])
        all_goals trace_state
      · have hs : r.short = false := by simpa using hs
        have hst := clStep_c (G := G) now nx es r l (by omega)
        have hnx := hw.next hs
        generalize cliR r = q at *
        obtain ⟨t, r2⟩ := q
        simp only at hst hnx
        clear hsm
        unfold cHp at hst
        rw [hs] at hst
        repeat' (first | (with_reducible first | refine Cn (fun h => ?_) fun h => ?_ | refine And.intro ?_ ?_ | refine wR ?_ | exact wr _ _ | refine wa ?_ | apply awp_join | refine qg hst ?_ | refine qgd hst ?_) | (with_reducible refine CallZ.z ?_) | simp -dsimp [go_sem, hs, q1, q2, w1, w2, hen])
        all_goals first
          | omega
          | (refine Again.auto (n, r2, l ++ [t]) ?_ hnx ?_
             · simp -dsimp [go_sem]
             · show n < n + 1; omega)
          | trace_state
end Go.Proofs.YtpdcfljbabpakaaGreatDoor
set_option linter.unusedVariables false
set_option linter.unusedSimpArgs false
set_option maxRecDepth 100000
set_option maxHeartbeats 8000000
namespace Go.Proofs.YtpdcfljbabpakaaGreatDoor
open Go Go.RowKit Go.Proofs.AE
variable {G : Nat → AV}
theorem eachN_of {α : Type} {f : Rd → α × Rd} : ∀ (n : Nat) (r : Rd), ∀ a ∈ (eachN f n r).1, ∃ r', a = (f r').1
  | 0, r, a, h => by cases h
  | n + 1, r, a, h => by
    unfold eachN at h
    split at h
    · cases h
    · rcases List.mem_cons.1 h with rfl | h
      · exact ⟨r, rfl⟩
      · exact eachN_of n _ a h
theorem mach_small (r : Rd) : (machR r).1.sto.Small ∧ (machR r).1.clis.length ≤ 1000000 := by
  refine ⟨⟨?_, fun e he => ?_⟩, ?_⟩
  · show (eachR entR (numR r).2).1.length ≤ 1000
    have := eachR_len entR (numR r).2; omega
  · obtain ⟨r', rfl⟩ := eachN_of _ _ e he
    rw [entR_eq]
    show (valR (txtR r').2).1.Small
    rw [valR_eq]
    have h1 := eachR_len prR (numR (txtR (smallR (txtR r').2).2).2).2
    have h2 := eachR_len txtR (eachR prR (numR (txtR (smallR (txtR r').2).2).2).2).2
    have h3 := eachR_len scR (eachR txtR (eachR prR (numR (txtR (smallR (txtR r').2).2).2).2).2).2
    unfold Val.Small
    simp only
    omega
  · have := eachR_len cliR (numR (eachR entR (numR r).2).2).2
    show (eachR cliR (numR (eachR entR (numR r).2).2).2).1.length ≤ 1000000
    omega
theorem cloneB_c (l : List UInt8) (hx : l.length ≤ 1000000) : PCall Tryz.prog G 54 [.one (.v (.sl (bR l)))] (.one (.v (.sl (bR l)))) := by
  have h1 := bR_ul l
  have h2 := bR_len l
  refine pcallc mixed Tryz.func54 ac_slices_Clone_byte ?_
  repeat' (first | (with_reducible first | refine Cn (fun h => ?_) fun h => ?_ | refine And.intro ?_ ?_ | refine wR ?_ | exact wr _ _ | refine wa ?_ | apply awp_join | refine q (cases q) ?_ | refine qd (cases q) ?_ | refine qz (cases q) ?_) | (intro q hq) | (with_reducible refine CallZ.z ?_) | simp -dsimp [go_sem, h1, h2])
  all_goals first | omega | exact h1 | trace_state
theorem machR_eq (r : Rd) : machR r = (⟨⟨(numR r).1, (eachR entR (numR r).2).1⟩, (numR (eachR entR (numR r).2).2).1, (eachR cliR (numR (eachR entR (numR r).2).2).2).1⟩, (eachR cliR (numR (eachR entR (numR r).2).2).2).2) := id rfl
theorem endR_eq (r : Rd) : (if r.short then 9 else if true = false ∨ 0 < r.rest.length then 8 else 0 : Int) = endR r := by unfold endR; simp
theorem decode_c (l : List UInt8) : PCall Tryz.prog G 26 [.one (.v (.sl (bR l)))] (.tup [.agg (decM l).1.c, iV (decM l).2]) := by
  have hlen := bR_len l
  unfold decM
  by_cases h0 : 20000 < l.length
  · rw [if_pos h0]
    have q0 : decide (20000 < (l.length : Int)) = true := decide_eq_true (by omega)
    simp only [zeroM, zeroS, Mach.c, List.map_nil]
    refine pcallc mixed Tryz.func26 ac_wire_Decode ?_
    repeat' (first | (with_reducible first | refine Cn (fun h => ?_) fun h => ?_ | refine And.intro ?_ ?_ | refine wR ?_ | exact wr _ _ | refine wa ?_ | apply awp_join) | (with_reducible refine CallZ.z ?_) | simp -dsimp [go_sem, hlen, q0])
    all_goals trace_state
  · rw [if_neg h0]
    have q0 : decide (20000 < (l.length : Int)) = false := decide_eq_false (by omega)
    have hcl := cloneB_c (G := G) l (by omega)
    obtain ⟨hs1, hs2⟩ := mach_small ⟨l, false⟩
    have hck := checkM_c (G := G) (machR ⟨l, false⟩).1 hs1 hs2
    clear hs1 hs2
    rw [machR_eq] at hck ⊢
    have h1 := rnumber_c (G := G) ⟨l, false⟩
    generalize numR ⟨l, false⟩ = q at *
    obtain ⟨now, r1⟩ := q
    simp only at h1 hck ⊢
    have h2 := enEach_c (G := G) now 0 [] r1
    generalize eachR entR r1 = q at *
    obtain ⟨es, r2⟩ := q
    simp only at h2 hck ⊢
    have h3 := rnumber_c (G := G) r2
    generalize numR r2 = q at *
    obtain ⟨nx, r3⟩ := q
    simp only at h3 hck ⊢
    have h4 := clEach_c (G := G) now nx es r3
    generalize eachR cliR r3 = q at *
    obtain ⟨cs, r4⟩ := q
    simp only at h4 hck ⊢
    have h5 := rend_c (G := G) r4 true
    rw [endR_eq] at h5
    generalize endR r4 = e at *
    have he0 : eR [] = [] := rfl
    unfold rHp at h1 h3 h5
    unfold eHp at h2
    unfold cHp at h4
    simp only [Mach.c] at hck
    by_cases he : e ≠ 0
    · rw [if_pos he]
      have q1 : (e != 0) = true := by simpa using he
      simp only [zeroM, zeroS, Mach.c, List.map_nil]
      refine pcallc mixed Tryz.func26 ac_wire_Decode ?_
      repeat' (first | (with_reducible first | refine Cn (fun h => ?_) fun h => ?_ | refine And.intro ?_ ?_ | refine wR ?_ | exact wr _ _ | refine wa ?_ | apply awp_join | refine q hcl ?_ | refine qd hcl ?_ | refine qz hcl ?_ | refine qg h1 ?_ | refine qgd h1 ?_ | refine qg h2 ?_ | refine qgd h2 ?_ | refine qg h3 ?_ | refine qgd h3 ?_ | refine qg h4 ?_ | refine qgd h4 ?_ | refine qg h5 ?_ | refine qgd h5 ?_ | refine q (simp -dsimp [go_sem]) ?_ | refine qd (simp -dsimp [go_sem]) ?_ | refine qz (simp -dsimp [go_sem]) ?_) | (refine CallZ.l (CallK.thaw 3 1 119 8 rfl rfl (by decide) (CallK.thaw 3 3 123 7 rfl rfl (by decide) ?_))) | (with_reducible refine CallZ.z ?_) | simp -dsimp [go_sem, hlen, q0, q1])
      all_goals trace_state
    · rw [if_neg he]
      have q1 : (e != 0) = false := by simpa using he
      generalize checkM (⟨⟨now, es⟩, nx, cs⟩ : Mach) = v at *
      by_cases hv : v ≠ 0
      · rw [if_pos hv]
        have q2 : (v != 0) = true := by simpa using hv
        simp only [zeroM, zeroS, Mach.c, List.map_nil]
        refine pcallc mixed Tryz.func26 ac_wire_Decode ?_
        repeat' (first | (with_reducible first | refine Cn (fun h => ?_) fun h => ?_ | refine And.intro ?_ ?_ | refine wR ?_ | exact wr _ _ | refine wa ?_ | apply awp_join | refine q hcl ?_ | refine qd hcl ?_ | refine qz hcl ?_ | refine qg h1 ?_ | refine qgd h1 ?_ | refine qg h2 ?_ | refine qgd h2 ?_ | refine qg h3 ?_ | refine qgd h3 ?_ | refine qg h4 ?_ | refine qgd h4 ?_ | refine qg h5 ?_ | refine qgd h5 ?_ | refine q hck ?_ | refine qd hck ?_ | refine qz hck ?_ | refine q (simp -dsimp [go_sem]) ?_ | refine qd (simp -dsimp [go_sem]) ?_ | refine qz (simp -dsimp [go_sem]) ?_) | (refine CallZ.l (CallK.thaw 3 1 119 8 rfl rfl (by decide) (CallK.thaw 3 3 123 7 rfl rfl (by decide) ?_))) | (with_reducible refine CallZ.z ?_) | simp -dsimp [go_sem, hlen, q0, q1, q2])
        all_goals trace_state
      · rw [if_neg hv]
        have q2 : (v != 0) = false := by simpa using hv
        simp only [Mach.c]
        refine pcallc mixed Tryz.func26 ac_wire_Decode ?_
        repeat' (first | (with_reducible first | refine Cn (fun h => ?_) fun h => ?_ | refine And.intro ?_ ?_ | refine wR ?_ | exact wr _ _ | refine wa ?_ | apply awp_join | refine q hcl ?_ | refine qd hcl ?_ | refine qz hcl ?_ | refine qg h1 ?_ | refine qgd h1 ?_ | refine qg h2 ?_ | refine qgd h2 ?_ | refine qg h3 ?_ | refine qgd h3 ?_ | refine qg h4 ?_ | refine qgd h4 ?_ | refine qg h5 ?_ | refine qgd h5 ?_ | refine q hck ?_ | refine qd hck ?_ | refine qz hck ?_ | refine q (simp -dsimp [go_sem]) ?_ | refine qd (simp -dsimp [go_sem]) ?_ | refine qz (simp -dsimp [go_sem]) ?_) | (refine CallZ.l (CallK.thaw 3 1 119 8 rfl rfl (by decide) (CallK.thaw 3 3 123 7 rfl rfl (by decide) ?_))) | (with_reducible refine CallZ.z ?_) | simp -dsimp [go_sem, hlen, q0, q1, q2])
        all_goals trace_state
end Go.Proofs.YtpdcfljbabpakaaGreatDoor
set_option linter.unusedVariables false
set_option linter.unusedSimpArgs false
set_option maxRecDepth 100000
set_option maxHeartbeats 8000000
namespace Go.Proofs.YtpdcfljbabpakaaGreatDoor
open Go Go.RowKit Go.Proofs.AE
variable {G : Nat → AV}
end Go.Proofs.YtpdcfljbabpakaaGreatDoor
set_option linter.unusedVariables false
set_option linter.unusedSimpArgs false
set_option maxRecDepth 100000
set_option maxHeartbeats 8000000
namespace Go.Proofs.YtpdcfljbabpakaaGreatDoor
open Go Go.RowKit Go.Proofs.AE
variable {G : Nat → AV}
theorem bR_three (n : Int) : bR (threeB n) = [[.lit (.int .u8 ((smallB (n / 65536)).toNat : Int))], [.lit (.int .u8 ((smallB (n / 256)).toNat : Int))], [.lit (.int .u8 ((smallB n).toNat : Int))]] := rfl
theorem three_c (n : Int) : PCall Tryz.prog G 76 [iV n] (.one (.v (.sl (bR (threeB n))))) := by
  have h1 := wrap_u8 (n / 65536)
  have h2 := wrap_u8 (n / 256)
  have h3 := wrap_u8 n
  have f1 : n.fdiv 65536 = n / 65536 := Int.fdiv_eq_ediv_of_nonneg _ (by omega)
  have f2 : n.fdiv 256 = n / 256 := Int.fdiv_eq_ediv_of_nonneg _ (by omega)
  rw [bR_three]
  refine pcallc mixed Tryz.func76 ac_tape_three ?_
  repeat' (first | (with_reducible first | refine Cn (fun h => ?_) fun h => ?_ | refine And.intro ?_ ?_ | refine wR ?_ | exact wr _ _ | refine wa ?_ | apply awp_join) | (with_reducible refine CallZ.z ?_) | simp -dsimp [go_sem, h1, h2, h3, f1, f2])
  all_goals trace_state
theorem or_i64 (a b i : Nat) (hb : b < 2 ^ i) (h : a * 2 ^ i + b < 1099511627776) : bitsV .or .i64 ((a * 2 ^ i : Nat) : Int) (b : Int) = ((a * 2 ^ i + b : Nat) : Int) := by
  unfold bitsV
  simp only [IntKind.bits]
  have e1 : (BitVec.ofInt 64 ((a * 2 ^ i : Nat) : Int)) = BitVec.ofNat 64 (a * 2 ^ i) := rfl
  have e2 : (BitVec.ofInt 64 (b : Int)) = BitVec.ofNat 64 b := rfl
  rw [e1, e2]
  change IntKind.i64.wrap (((BitVec.ofNat 64 (a * 2 ^ i) ||| BitVec.ofNat 64 b : BitVec 64).toNat : Nat) : Int) = _
  simp only [BitVec.toNat_or, BitVec.toNat_ofNat]
  rw [Nat.mod_eq_of_lt (by omega), Nat.mod_eq_of_lt (by omega)]
  have e3 : a * 2 ^ i ||| b = a * 2 ^ i + b := by
    have := Nat.shiftLeft_add_eq_or_of_lt (i := i) (b := b) hb a
    rw [Nat.shiftLeft_eq] at this
    exact this.symm
  rw [e3, IntWalk.i64_in _ (by omega)]
theorem value3_c (x y z : UInt8) (t : List UInt8) : PCall Tryz.prog G 72 [.one (.v (.sl (bR (x :: y :: z :: t))))] (iV (valB3 x y z)) := by
  have g0 : (bR (x :: y :: z :: t))[0]? = some [.lit (.int .u8 (x.toNat : Int))] := rfl
  have g1 : (bR (x :: y :: z :: t))[1]? = some [.lit (.int .u8 (y.toNat : Int))] := rfl
  have g2 : (bR (x :: y :: z :: t))[2]? = some [.lit (.int .u8 (z.toNat : Int))] := rfl
  have hx := x.toNat_lt; have hy := y.toNat_lt; have hz := z.toNat_lt
  have wx : IntKind.i64.wrap (x.toNat : Int) = x.toNat := IntWalk.i64_in _ (by omega)
  have wy : IntKind.i64.wrap (y.toNat : Int) = y.toNat := IntWalk.i64_in _ (by omega)
  have wz : IntKind.i64.wrap (z.toNat : Int) = z.toNat := IntWalk.i64_in _ (by omega)
  have sx : IntKind.i64.wrap ((x.toNat : Int) * 65536) = (x.toNat : Int) * 65536 := IntWalk.i64_in _ (by omega)
  have sy : IntKind.i64.wrap ((y.toNat : Int) * 256) = (y.toNat : Int) * 256 := IntWalk.i64_in _ (by omega)
  have o1 : bitsV .or .i64 ((x.toNat : Int) * 65536) ((y.toNat : Int) * 256) = ((x.toNat * 256 + y.toNat) * 256 : Nat) := by
    have := or_i64 x.toNat (y.toNat * 256) 16 (by omega) (by omega)
    rw [show ((x.toNat : Int) * 65536) = ((x.toNat * 2 ^ 16 : Nat) : Int) by omega, show ((y.toNat : Int) * 256) = ((y.toNat * 256 : Nat) : Int) by omega, this]
    omega
  have o2 : bitsV .or .i64 (((x.toNat * 256 + y.toNat) * 256 : Nat) : Int) (z.toNat : Int) = valB3 x y z := by
    have := or_i64 (x.toNat * 256 + y.toNat) z.toNat 8 (by omega) (by omega)
    rw [show (((x.toNat * 256 + y.toNat) * 256 : Nat) : Int) = (((x.toNat * 256 + y.toNat) * 2 ^ 8 : Nat) : Int) by omega, this]
    unfold valB3
    omega
  generalize bR (x :: y :: z :: t) = rows at *
  refine pcallc mixed Tryz.func72 ac_tape_value ?_
  repeat' (first | (with_reducible first | refine Cn (fun h => ?_) fun h => ?_ | refine And.intro ?_ ?_ | refine wR ?_ | exact wr _ _ | refine wa ?_ | apply awp_join) | (with_reducible refine CallZ.z ?_) | simp -dsimp [go_sem, g0, g1, g2, wx, wy, wz, sx, sy])
  rw [o1, o2]
end Go.Proofs.YtpdcfljbabpakaaGreatDoor
set_option linter.unusedVariables false
set_option linter.unusedSimpArgs false
set_option maxRecDepth 100000
set_option maxHeartbeats 8000000
namespace Go.Proofs.YtpdcfljbabpakaaGreatDoor
open Go Go.RowKit Go.Proofs.AE
variable {G : Nat → AV}
theorem detNil {P : Program} {f e m : Nat} {rest : List AV} {r : AV} {hp' : Hp} (hm : 0 < m) (h : DetCall P G f 0 [some (.arj e m 0 [])] (.one (.sub 0 m 0 0 0) :: rest) r hp') : DetCall P G f 0 [] (.one .nil :: rest) r hp' := by
  intro w ok μ xs hr hg hargs
  cases hargs with | cons ha ht =>
  rename_i x xs
  have hx : x = .slice none 0 0 := by cases ha with | one hc => cases hc; rfl
  subst hx
  have hμ : μ = [] := List.eq_nil_of_length_eq_zero hr.len
  subst hμ
  have hno : ∀ b, ¬ OwnL [some (.arj e m 0 [])] [MB.arr (.slice none 0 0)] b := by
    rintro b ⟨i, blk, mm, h1, h2, h3⟩
    cases i with
    | zero => simp at h2; subst h2; cases h3
    | succ i => simp at h1
  have hr' : HR w ok [MB.arr (.slice none 0 0)] [some (.arj e m 0 [])] := by
    refine ⟨rfl, ?_, ?_, ?_⟩
    · intro j b hj
      cases j with
      | zero => simp at hj; subst hj; exact ⟨_, rfl, ⟨hm, (fun _ h => by cases h), .inl ⟨rfl, rfl, rfl⟩⟩⟩
      | succ j => simp at hj
    · intro j1 j2 b c q1 q2 k' hij h1 h2
      cases j1 <;> cases j2 <;> simp at h1 h2 hij
    · intro k' hk
      refine ⟨(hr.okn k' hk).1, fun j b q hj hq hown => ?_⟩
      exact hno k' ⟨j, b, q, hj, hq, hown⟩
  have hargs' : AVRels w ok [MB.arr (.slice none 0 0)] (.one (.sub 0 m 0 0 0) :: rest) (.slice none 0 0 :: xs) :=
    .cons (.one (.sub _ _ _ _ rfl (.nil rfl rfl))) (ht.ext (fun i q hq => by simp at hq))
  refine (h w ok _ _ hr' hg hargs').mono ?_
  rintro e' w' ⟨y, r', hp1, ok', μ', rfl, hf, hrel, hk'⟩
  refine ⟨y, r', hp1, ok', μ', rfl, ⟨hf.hr, hf.os, hf.tape, hf.output, hf.size, fun b hb _ => hf.frame b hb (hno b), hf.oksub, fun b hb => ?_, fun b hb => ?_, fun i q hi => by omega⟩, hrel, hk'⟩
  · rcases hf.okfrom b hb with h3 | h3 | h3
    · exact .inl h3
    · exact .inr (.inl h3)
    · exact absurd h3 (hno b)
  · rcases hf.ownfrom b hb with h3 | h3
    · exact .inl h3
    · exact absurd h3 (hno b)
theorem qgi {P : Program} {G : Nat → AV} {Q} [CQ Q] {f : Nat} {hp' hp1 hpc : Hp} {args : List AV} {r r1 : AV} {K : AV → Hp → Prop} {x : Held K} (h : DetCall P G f 0 [] args r hp') (hk : K r1 hp1)
    (hi : idAVs args = true := by with_unfolding_all rfl)
    (e5 : renAV (sig [] 0 hpc.length) r = r1 := by (try conv => lhs; simp -dsimp [go_sem]); all_goals rfl)
    (e6 : mergeH hpc [] 0 hp' = hp1 := by (try conv => lhs; simp -dsimp [go_sem]); all_goals rfl) : Q P G f hpc args K x := by
  subst e5; subst e6
  have hc := gcall_sub (ρ := []) (hpc := hpc) h rfl (Nat.zero_le _) List.nodup_nil (fun j hj => by cases hj) trivial (idAVs_coe hi)
  exact CQ.up (hc.mono fun r1 hp1 ⟨r2, hp2, ⟨e1, e2⟩, e3, e4⟩ => by subst e1; subst e2; exact ⟨e3, e4⟩) hk
theorem grow_c (n : Int) (h0 : 0 ≤ n) (h1 : n ≤ 1000000000) : DetCall Tryz.prog G 97 0 [] [.one .nil, iV n] (.one (.ar 0)) [some (.arr 5 1 [])] := by
  refine detNil (e := 5) (m := 1) (by decide) ?_
  have w1 : IntKind.i64.wrap n = n := IntWalk.i64_in _ (by omega)
  have w0 : IntKind.i64.wrap 0 = 0 := IntWalk.i64_in _ (by omega)
  have q0 : decide (n < 0) = false := decide_eq_false (by omega)
  by_cases hn : 0 < n
  · have q1 : decide (0 < n) = true := decide_eq_true hn
    refine gcallc mixed Tryz.func97 ac_slices_Grow_byte ?_
    repeat' (first | (with_reducible first | refine Cn (fun h => ?_) fun h => ?_ | refine And.intro ?_ ?_ | refine wR ?_ | exact wr _ _ | refine wa ?_ | apply awp_join) | (intro (c1 : Nat) hq1 hq2) | (with_reducible refine CallZ.z ?_) | simp -dsimp [go_sem, w0, w1, q0, q1])
    all_goals first | omega | assumption | trace_state
  · have q1 : decide (0 < n) = false := decide_eq_false hn
    refine gcallc mixed Tryz.func97 ac_slices_Grow_byte ?_
    repeat' (first | (with_reducible first | refine Cn (fun h => ?_) fun h => ?_ | refine And.intro ?_ ?_ | refine wR ?_ | exact wr _ _ | refine wa ?_ | apply awp_join) | (with_reducible refine CallZ.z ?_) | simp -dsimp [go_sem, w0, w1, q0, q1])
    all_goals first | omega | assumption | trace_state
def bL (L : List (List UInt8)) : List (List V) := L.map fun b => [.sl (bR b)]
def sumL (L : List (List UInt8)) : Nat := (L.map List.length).sum
theorem sumL_flat (L : List (List UInt8)) : L.flatten.length = sumL L := by unfold sumL; rw [List.length_flatten]
theorem sumL_take (L : List (List UInt8)) (i : Nat) : sumL (L.take i) ≤ sumL L := by
  have h := congrArg sumL (List.take_append_drop i L)
  have e : sumL (L.take i ++ L.drop i) = sumL (L.take i) + sumL (L.drop i) := by unfold sumL; rw [List.map_append, List.sum_append]
  omega
theorem sumL_succ {L : List (List UInt8)} {i : Nat} {b : List UInt8} (h : L[i]? = some b) : sumL (L.take (i + 1)) = sumL (L.take i) + b.length := by
  unfold sumL; rw [List.take_add_one, h, Option.toList_some]; simp
theorem flatL_succ {L : List (List UInt8)} {i : Nat} {b : List UInt8} (h : L[i]? = some b) : bR (L.take (i + 1)).flatten = bR (L.take i).flatten ++ bR b := by
  rw [List.take_add_one, h, Option.toList_some, List.flatten_append, bR_app]; simp
theorem concat_c (L : List (List UInt8)) (h1 : L.length ≤ 1000) (h2 : sumL L ≤ 1000000) : PCall Tryz.prog G 75 [.one (.v (.sl (bL L)))] (.one (.v (.sl (bR L.flatten)))) := by
  have hlen : (bL L).length = L.length := by unfold bL; simp
  have hat : ∀ (i : Nat) b, L[i]? = some b → (bL L)[i]? = some [.sl (bR b)] := fun i b h => by unfold bL; simp [h]
  have hst := sumL_take L
  have hzero : sumL (L.take 0) = 0 := rfl
  generalize bL L = rows at *
  refine pcallc mixed Tryz.func75 ac_slices_Concat_byte ?_
  repeat' (first | (with_reducible first | refine Cn (fun h => ?_) fun h => ?_ | refine And.intro ?_ ?_ | refine wR ?_ | exact wr _ _ | refine wa ?_ | apply awp_join) | (with_reducible refine CallZ.z ?_) | simp -dsimp [go_sem, hlen])
  refine awp_loop (fun i : Nat => ⟨[(0, .one (.v (.sl rows))), (3, iV (sumL (L.take i))), (9, .one (.v (.sl rows))), (10, iV L.length), (11, iV i)], G, []⟩) (fun i => i ≤ L.length) (fun i => L.length - i) 0 (weak_auto ?_) (Nat.zero_le _) ?_
  · simp -dsimp [go_sem, hzero, show sumL [] = 0 from rfl]
  · intro i hi
    have hsi := hst i
    by_cases hil : i < L.length
    · obtain ⟨b, hx⟩ : ∃ b, L[i]? = some b := ⟨_, List.getElem?_eq_getElem hil⟩
      have hr := hat i b hx
      have hsu := sumL_succ hx
      have hs2 := hst (i + 1)
      have hbl := bR_len b
      have q1 : decide (i < L.length) = true := decide_eq_true hil
      have w1 : IntKind.i64.wrap ((i : Int) + 1) = (i : Int) + 1 := IntWalk.i64_in _ (by omega)
      have w2 : IntKind.i64.wrap ((sumL (L.take i) : Int) + b.length) = ((sumL (L.take (i + 1)) : Nat) : Int) := by rw [IntWalk.i64_in _ (by omega)]; omega
      have q2 : decide (((sumL (L.take (i + 1)) : Nat) : Int) < 0) = false := decide_eq_false (by omega)
      generalize sumL (L.take (i + 1)) = S1 at *
      obtain ⟨S0, hS0⟩ : ∃ S0, sumL (L.take i) = S0 := ⟨_, rfl⟩
      rw [hS0] at w2 ⊢
      repeat' (first | (with_reducible first | refine Cn (fun h => ?_) fun h => ?_ | refine And.intro ?_ ?_ | refine wR ?_ | exact wr _ _ | refine wa ?_ | apply awp_join) | (with_reducible refine CallZ.z ?_) | simp -dsimp [go_sem, hr, hbl, q1, q2, w1, w2])
      all_goals first
        | omega
        | (refine Again.auto (i + 1) ?_ hil ?_
           · have hS1 : sumL (L.take (i + 1)) = S1 := by have := sumL_succ hx; omega
             simp -dsimp [go_sem, hS1]
           · show L.length - (i + 1) < L.length - i; omega)
        | trace_state
    · have hie : i = L.length := by omega
      subst hie
      rw [List.take_length]
      have q1 : decide (L.length < L.length) = false := decide_eq_false (by omega)
      have hg := grow_c (G := G) (sumL L : Int) (by omega) (by omega)
      repeat' (first | (with_reducible first | refine Cn (fun h => ?_) fun h => ?_ | refine And.intro ?_ ?_ | refine wR ?_ | exact wr _ _ | refine wa ?_ | apply awp_join) | (((with_reducible refine CallZ.l ?_); with_reducible refine qgi hg ?_)) | ((with_reducible refine qgi hg ?_)) | (with_reducible refine CallZ.z ?_) | simp -dsimp [go_sem, q1, hlen])
      refine awp_loop (fun i : Nat => ⟨[(6, .one (.ar 0)), (25, .one (.v (.sl rows))), (26, iV L.length), (27, iV i)], G, [some (.arr 5 1 (bR (L.take i).flatten))]⟩) (fun i => i ≤ L.length) (fun i => L.length - i) 0 (weak_auto ?_) (Nat.zero_le _) ?_
      · simp -dsimp [go_sem, bR]
      · intro i hi
        have hsi := hst i
        by_cases hil : i < L.length
        · obtain ⟨b, hx⟩ : ∃ b, L[i]? = some b := ⟨_, List.getElem?_eq_getElem hil⟩
          have hr := hat i b hx
          have hfs := flatL_succ hx
          have hs2 := hst (i + 1)
          have hsu := sumL_succ hx
          have hbl := bR_len b
          have hbu := bR_ul b
          have hfu := bR_ul (L.take i).flatten
          have hfl : (bR (L.take i).flatten).length = sumL (L.take i) := by rw [bR_len, sumL_flat]
          have q1 : decide (i < L.length) = true := decide_eq_true hil
          have w1 : IntKind.i64.wrap ((i : Int) + 1) = (i : Int) + 1 := IntWalk.i64_in _ (by omega)
          clear hg
          obtain ⟨R0, hR0⟩ : ∃ R, bR (L.take i).flatten = R := ⟨_, rfl⟩
          obtain ⟨R1, hR1⟩ : ∃ R, bR (L.take (i + 1)).flatten = R := ⟨_, rfl⟩
          rw [hR0] at hfs hfu hfl ⊢
          rw [hR1] at hfs
          generalize bR b = B at *
          repeat' (first | (with_reducible first | refine Cn (fun h => ?_) fun h => ?_ | refine And.intro ?_ ?_ | refine wR ?_ | exact wr _ _ | refine wa ?_ | apply awp_join) | (with_reducible refine CallZ.z ?_) | simp -dsimp [go_sem, hr, hbl, hbu, hfu, hfl, q1, w1])
          all_goals first
            | omega
            | (refine Again.auto (i + 1) ?_ hil ?_
               · simp -dsimp [go_sem, hR1, hfs]
               · show L.length - (i + 1) < L.length - i; omega)
            | trace_state
        · have hie : i = L.length := by omega
          subst hie
          rw [List.take_length]
          generalize bR L.flatten = R
          repeat' (first | (with_reducible first | refine Cn (fun h => ?_) fun h => ?_ | refine And.intro ?_ ?_ | refine wR ?_ | exact wr _ _ | refine wa ?_ | apply awp_join) | (with_reducible refine CallZ.z ?_) | simp -dsimp [go_sem, q1])
          all_goals trace_state
end Go.Proofs.YtpdcfljbabpakaaGreatDoor
set_option linter.unusedVariables false
set_option linter.unusedSimpArgs false
set_option maxRecDepth 100000
set_option maxHeartbeats 8000000
namespace Go.Proofs.YtpdcfljbabpakaaGreatDoor
open Go Go.RowKit Go.Proofs.AE
variable {G : Nat → AV}
abbrev tpC (d : List UInt8) (s : Int) : List C := [.v (.sl (bR d)), iC s]
structure TOk (d : List UInt8) (s : Int) : Prop where
  s0 : 0 ≤ s
  s1 : s ≤ d.length
  le : d.length ≤ 400000
theorem topen_c (d : List UInt8) (s : Int) (h : TOk d s) : PCall Tryz.prog G 67 [.agg (tpC d s)] (.tup [.agg (tpC d s), bV true]) := by
  have hs0 := h.s0; have hs1 := h.s1; have hle := h.le
  have q1 : decide (s < 0) = false := decide_eq_false (by omega)
  have q2 : decide ((d.length : Int) < s) = false := decide_eq_false (by omega)
  have q3 : decide (400000 < (d.length : Int)) = false := decide_eq_false (by omega)
  have hc := cloneB_c (G := G) d (by omega)
  have hl := bR_len d
  simp only [tpC]
  generalize bR d = R at *
  refine pcallc mixed Tryz.func67 ac_tape_open ?_
  repeat' (first | (with_reducible first | refine Cn (fun h => ?_) fun h => ?_ | refine And.intro ?_ ?_ | refine wR ?_ | exact wr _ _ | refine wa ?_ | apply awp_join | refine q hc ?_ | refine qd hc ?_ | refine qz hc ?_) | (with_reducible refine CallZ.z ?_) | simp -dsimp [go_sem, hl, q1, q2, q3])
  all_goals trace_state
theorem openBad_c (s : Int) (h : 0 < s) : PCall Tryz.prog G 67 [.agg [.v (.sl []), iC s]] (.tup [.agg [.v (.sl []), iC 0], bV false]) := by
  have q1 : decide (s < 0) = false := decide_eq_false (by omega)
  have q2 : decide (0 < s) = true := decide_eq_true h
  refine pcallc mixed Tryz.func67 ac_tape_open ?_
  repeat' (first | (with_reducible first | refine Cn (fun h => ?_) fun h => ?_ | refine And.intro ?_ ?_ | refine wR ?_ | exact wr _ _ | refine wa ?_ | apply awp_join) | (with_reducible refine CallZ.z ?_) | simp -dsimp [go_sem, q1, q2])
  all_goals trace_state
theorem sync_c (d : List UInt8) (s : Int) (h : TOk d s) : PCall Tryz.prog G 31 [.agg (tpC d s)] (.tup [.agg (tpC d d.length), iV 0]) := by
  have ho := topen_c (G := G) d s h
  have hl := bR_len d
  simp only [tpC] at ho ⊢
  generalize bR d = R at *
  refine pcallc mixed Tryz.func31 ac_tape_Sync ?_
  repeat' (first | (with_reducible first | refine Cn (fun h => ?_) fun h => ?_ | refine And.intro ?_ ?_ | refine wR ?_ | exact wr _ _ | refine wa ?_ | apply awp_join | refine q ho ?_ | refine qd ho ?_ | refine qz ho ?_) | (with_reducible refine CallZ.z ?_) | simp -dsimp [go_sem, hl])
  all_goals trace_state
theorem syncBad_c (s : Int) (h : 0 < s) : PCall Tryz.prog G 31 [.agg [.v (.sl []), iC s]] (.tup [.agg [.v (.sl []), iC 0], iV 13]) := by
  have ho := openBad_c (G := G) s h
  refine pcallc mixed Tryz.func31 ac_tape_Sync ?_
  repeat' (first | (with_reducible first | refine Cn (fun h => ?_) fun h => ?_ | refine And.intro ?_ ?_ | refine wR ?_ | exact wr _ _ | refine wa ?_ | apply awp_join | refine q ho ?_ | refine qd ho ?_ | refine qz ho ?_) | (with_reducible refine CallZ.z ?_) | simp -dsimp [go_sem])
  all_goals trace_state
def crashN (d : List UInt8) (s k : Int) : Nat := (if k < (d.length : Int) - s then s + k else (d.length : Int)).toNat
theorem crash_c (d : List UInt8) (s k : Int) (h : TOk d s) (hk : 0 ≤ k) : PCall Tryz.prog G 32 [.agg (tpC d s), iV k] (.tup [.agg (tpC (d.take (crashN d s k)) (crashN d s k)), iV 0]) := by
  have hs0 := h.s0; have hs1 := h.s1; have hle := h.le
  have ho := topen_c (G := G) d s h
  have hl := bR_len d
  have hul := bR_ul d
  obtain ⟨n, hn⟩ : ∃ n, crashN d s k = n := ⟨_, rfl⟩
  have hnl : n ≤ d.length := by unfold crashN at hn; split at hn <;> omega
  have q1 : decide (k < 0) = false := decide_eq_false (by omega)
  have w1 : IntKind.i64.wrap ((d.length : Int) - s) = (d.length : Int) - s := IntWalk.i64_in _ (by omega)
  obtain ⟨mn, hmn⟩ : ∃ mn, (if (d.length : Int) - s < k then (d.length : Int) - s else k) = mn := ⟨_, rfl⟩
  have hmn2 : s + mn = (n : Int) := by unfold crashN at hn; split at hn <;> split at hmn <;> omega
  have w2 : IntKind.i64.wrap (s + mn) = (n : Int) := by rw [IntWalk.i64_in _ (by omega)]; exact hmn2
  have hmx : ∀ a b : Int, (if b < a then b else a) = (if b < a then b else a) := fun _ _ => rfl
  simp only [tpC] at ho ⊢
  rw [hn, show bR (d.take n) = (bR d).take n from (bR_take d n).symm]
  generalize bR d = R at *
  refine pcallc mixed Tryz.func32 ac_tape_Crash ?_
  repeat' (first | (with_reducible first | refine Cn (fun h => ?_) fun h => ?_ | refine And.intro ?_ ?_ | refine wR ?_ | exact wr _ _ | refine wa ?_ | apply awp_join | refine q ho ?_ | refine qd ho ?_ | refine qz ho ?_) | (with_reducible refine CallZ.z ?_) | simp -dsimp [go_sem, hl, hul, q1, w1, hmn, w2])
  all_goals first | omega | trace_state
theorem crashBad_c (d : List UInt8) (s k : Int) (h : TOk d s) (hk : k < 0) : PCall Tryz.prog G 32 [.agg (tpC d s), iV k] (.tup [.agg [.v (.sl []), iC 0], iV 2]) := by
  have ho := topen_c (G := G) d s h
  have q1 : decide (k < 0) = true := decide_eq_true hk
  simp only [tpC] at ho ⊢
  generalize bR d = R at *
  refine pcallc mixed Tryz.func32 ac_tape_Crash ?_
  repeat' (first | (with_reducible first | refine Cn (fun h => ?_) fun h => ?_ | refine And.intro ?_ ?_ | refine wR ?_ | exact wr _ _ | refine wa ?_ | apply awp_join | refine q ho ?_ | refine qd ho ?_ | refine qz ho ?_) | (with_reducible refine CallZ.z ?_) | simp -dsimp [go_sem, q1])
  all_goals trace_state
theorem bR_cons (x : UInt8) (l : List UInt8) : bR (x :: l) = [.lit (.int .u8 (x.toNat : Int))] :: bR l := rfl
theorem tencode_c (r : Rcd) (h : checkRc r = 0) : PCall Tryz.prog G 74 [.agg r.c] (.one (.v (.sl (bR (encRc r))))) := by
  rcases rc_cases h with ⟨t, f, rfl, h1, h2, h3⟩ | ⟨i, x, rfl, h1, h2⟩ | ⟨i, t, m, rfl, h1, h2, h3⟩
  · have e : bR (encRc ⟨1, t, f, 0, zeroItem, 0, 0, zeroM⟩) = [[.lit (.int .u8 1)]] ++ bR (threeB t) ++ [[.lit (.int .u8 ((smallB (f + 1)).toNat : Int))]] := by
      unfold encRc; rw [if_pos (show (1 : Int) = 1 from rfl), bR_cons, bR_app]; simp [bR]
    have c1 := three_c (G := G) t
    have w1 : IntKind.i64.wrap (f + 1) = f + 1 := IntWalk.i64_in _ (by omega)
    have w2 := wrap_u8 (f + 1)
    have hul := bR_ul (threeB t)
    have hl : (bR (threeB t)).length = 3 := rfl
    rw [e]
    simp only [Rcd.c, zeroItem, zeroM, zeroS, List.map_nil]
    generalize bR (threeB t) = T at *
    refine pcallc mixed Tryz.func74 ac_tape_encode ?_
    repeat' (first | (with_reducible first | refine Cn (fun h => ?_) fun h => ?_ | refine And.intro ?_ ?_ | refine wR ?_ | exact wr _ _ | refine weak_autoC ?_ | apply awp_join | refine q c1 ?_ | refine qd c1 ?_ | refine qz c1 ?_) | (with_reducible refine CallZ.z ?_) | simp -dsimp [go_sem, w1, w2, hul, hl, clean_nil, clean_cons, clean_yes, clean_no])
    all_goals first | omega | (simp [UL]; done) | trace_state
  · have e : bR (encRc ⟨2, 0, 0, i, x, 0, 0, zeroM⟩) = [[.lit (.int .u8 2)]] ++ bR (threeB i) ++ bR (itemB x) := by
      unfold encRc; rw [if_neg (show ¬ (2 : Int) = 1 by omega), if_pos (show (2 : Int) = 2 from rfl), bR_cons, bR_app]; rfl
    have c1 := three_c (G := G) i
    have c2 := encodeItem_c (G := G) x h2
    have hul := bR_ul (threeB i)
    have hul2 := bR_ul (itemB x)
    have hl : (bR (threeB i)).length = 3 := rfl
    have hl2 : (bR (itemB x)).length ≤ 200 := by rw [bR_len]; exact itemB_short h2
    rw [e]
    obtain ⟨xt, xm, xn, xc, xs, xk, xa, xb, xd, xx⟩ := x
    simp only [Rcd.c, zeroM, zeroS, List.map_nil, Item.row, List.map_cons] at *
    generalize bR (threeB i) = T at *
    generalize bR (itemB ⟨xt, xm, xn, xc, xs, xk, xa, xb, xd, xx⟩) = B at *
    refine pcallc mixed Tryz.func74 ac_tape_encode ?_
    repeat' (first | (with_reducible first | refine Cn (fun h => ?_) fun h => ?_ | refine And.intro ?_ ?_ | refine wR ?_ | exact wr _ _ | refine weak_autoC ?_ | apply awp_join | refine q c1 ?_ | refine qd c1 ?_ | refine qz c1 ?_ | refine q c2 ?_ | refine qd c2 ?_ | refine qz c2 ?_) | (with_reducible refine CallZ.z ?_) | simp -dsimp [go_sem, hul, hl, hul2, clean_nil, clean_cons, clean_yes, clean_no])
    all_goals first | omega | (simp [UL]; done) | trace_state
  · have e : encRc ⟨3, 0, 0, 0, zeroItem, i, t, m⟩ = [[3], threeB i, threeB t, machB m].flatten := by
      unfold encRc; rw [if_neg (show ¬ (3 : Int) = 1 by omega), if_neg (show ¬ (3 : Int) = 2 by omega)]; simp
    have c1 := three_c (G := G) i
    have c2 := three_c (G := G) t
    have c3 := encode_c (G := G) m h3
    have hml := machB_len h3
    have c4 := concat_c (G := G) [[3], threeB i, threeB t, machB m] (by simp) (by unfold sumL threeB; simp; omega)
    rw [← e] at c4
    have e2 : bL [[3], threeB i, threeB t, machB m] = [[.sl [[.lit (.int .u8 3)]]], [.sl (bR (threeB i))], [.sl (bR (threeB t))], [.sl (bR (machB m))]] := rfl
    rw [e2] at c4
    obtain ⟨⟨now, es⟩, next, cs⟩ := m
    simp only [Rcd.c, zeroItem, Mach.c] at *
    generalize bR (threeB i) = T1 at *
    generalize bR (threeB t) = T2 at *
    generalize bR (machB ⟨⟨now, es⟩, next, cs⟩) = B at *
    generalize bR (encRc ⟨3, 0, 0, 0, ⟨0, 0, false, 0, 0, 0, ⟨#[]⟩, ⟨#[]⟩, ⟨#[]⟩, 0⟩, i, t, ⟨⟨now, es⟩, next, cs⟩⟩) = R at *
    refine pcallc mixed Tryz.func74 ac_tape_encode ?_
    repeat' (first | (with_reducible first | refine Cn (fun h => ?_) fun h => ?_ | refine And.intro ?_ ?_ | refine wR ?_ | exact wr _ _ | refine weak_autoC ?_ | apply awp_join | refine q c1 ?_ | refine qd c1 ?_ | refine qz c1 ?_ | refine q c2 ?_ | refine qd c2 ?_ | refine qz c2 ?_ | refine q c3 ?_ | refine qd c3 ?_ | refine qz c3 ?_ | refine q c4 ?_ | refine qd c4 ?_ | refine qz c4 ?_) | (with_reducible refine CallZ.z ?_) | simp -dsimp [go_sem, clean_nil, clean_cons, clean_yes, clean_no])
    all_goals first | omega | (simp [UL]; done) | trace_state
end Go.Proofs.YtpdcfljbabpakaaGreatDoor
set_option linter.unusedVariables false
set_option linter.unusedSimpArgs false
set_option maxRecDepth 100000
set_option maxHeartbeats 8000000
namespace Go.Proofs.YtpdcfljbabpakaaGreatDoor
open Go Go.RowKit Go.Proofs.AE
variable {G : Nat → AV}
theorem zeroM_sm : (zeroM).sto.Small ∧ (zeroM).clis.length ≤ 1000000 := ⟨⟨by decide, fun e he => by cases he⟩, by decide⟩
theorem decM_small (l : List UInt8) : (decM l).1.sto.Small ∧ (decM l).1.clis.length ≤ 1000000 := by
  unfold decM
  split
  · exact zeroM_sm
  · split
    · exact zeroM_sm
    · split
      · exact zeroM_sm
      · exact mach_small _
theorem append_c (d : List UInt8) (s : Int) (r : Rcd) (h : TOk d s) (h1 : r.mach.sto.Small) (h2 : r.mach.clis.length ≤ 1000000) (he : checkRc r = 0) (hf : d.length + 3 + (encRc r).length ≤ 400000) : PCall Tryz.prog G 38 [.agg (tpC d s), .agg r.c] (.tup [.agg (tpC (d ++ frameB r) s), iV 0]) := by
  have hle := h.le
  have ho := topen_c (G := G) d s h
  have hc := checkRc_c (G := G) r h1 h2
  have hen := tencode_c (G := G) r he
  rw [he] at hc
  have hl := bR_len d
  have hl2 := bR_len (encRc r)
  have w1 : IntKind.i64.wrap ((d.length : Int) + 3) = (d.length : Int) + 3 := IntWalk.i64_in _ (by omega)
  have w2 : IntKind.i64.wrap ((d.length : Int) + 3 + (encRc r).length) = (d.length : Int) + 3 + (encRc r).length := IntWalk.i64_in _ (by omega)
  have q1 : decide (400000 < (d.length : Int) + 3 + (encRc r).length) = false := decide_eq_false (by omega)
  have ht := three_c (G := G) ((encRc r).length : Int)
  have hcc := concat_c (G := G) [d, threeB (encRc r).length, encRc r] (by simp) (by unfold sumL threeB; simp; omega)
  have e2 : bL [d, threeB (encRc r).length, encRc r] = [[.sl (bR d)], [.sl (bR (threeB (encRc r).length))], [.sl (bR (encRc r))]] := rfl
  have e3 : [d, threeB (encRc r).length, encRc r].flatten = d ++ frameB r := by unfold frameB; simp
  rw [e2, e3] at hcc
  clear he e2 e3
  generalize d ++ frameB r = o at *
  generalize threeB (encRc r).length = T at *
  generalize encRc r = b at *
  obtain ⟨k, t, f, ix, ⟨xt, xm, xn, xc, xs, xk, xa, xb, xd, xx⟩, si, st, ⟨⟨mn, me⟩, mx, mc⟩⟩ := r
  simp only [tpC, Rcd.c] at *
  generalize bR d = R at *
  generalize bR b = B at *
  generalize bR T = T at *
  generalize bR o = O at *
  refine pcallc mixed Tryz.func38 ac_tape_Append ?_
  repeat' (first | (with_reducible first | refine Cn (fun h => ?_) fun h => ?_ | refine And.intro ?_ ?_ | refine wR ?_ | exact wr _ _ | refine weak_autoC ?_ | apply awp_join | refine q ho ?_ | refine qd ho ?_ | refine qz ho ?_ | refine q hc ?_ | refine qd hc ?_ | refine qz hc ?_ | refine q hen ?_ | refine qd hen ?_ | refine qz hen ?_ | refine q ht ?_ | refine qd ht ?_ | refine qz ht ?_ | refine q hcc ?_ | refine qd hcc ?_ | refine qz hcc ?_) | (with_reducible refine CallZ.z ?_) | simp -dsimp [go_sem, hl, hl2, w1, w2, q1, clean_nil, clean_cons, clean_yes, clean_no])
  all_goals trace_state
theorem dec_none {b : List UInt8} (h1 : ¬ (b.length = 5 ∧ b[0]? = some 1)) (h2 : ¬ (4 < b.length ∧ b[0]? = some 2)) (h3 : ¬ (7 < b.length ∧ b[0]? = some 3)) : decRc b = (zeroRc, false) := by
  unfold decRc
  split
  · exact absurd ⟨rfl, rfl⟩ h1
  · rename_i t
    by_cases ht : t = []
    · rw [if_pos ht]
    · exact absurd ⟨by cases t with | nil => exact absurd rfl ht | cons a t => simp, rfl⟩ h2
  · rename_i t
    by_cases ht : t = []
    · rw [if_pos ht]
    · exact absurd ⟨by cases t with | nil => exact absurd rfl ht | cons a t => simp, rfl⟩ h3
  · rfl
theorem tdecode_c (b : List UInt8) (hb : b.length ≤ 400000) : PCall Tryz.prog G 73 [.one (.v (.sl (bR b)))] (.tup [.agg (decRc b).1.c, bV (decRc b).2]) := by
  by_cases hA : b.length = 5 ∧ b[0]? = some 1
  · obtain ⟨x, y, z, f, rfl⟩ : ∃ x y z f, b = [1, x, y, z, f] := by
      match b, hA with
      | [a, x, y, z, f], ⟨_, h⟩ => exact ⟨x, y, z, f, by simp at h; rw [h]⟩
    have e : decRc [1, x, y, z, f] = (markRc (valB3 x y z) ((f.toNat : Int) - 1), checkRc (markRc (valB3 x y z) ((f.toNat : Int) - 1)) == 0) := rfl
    rw [e]
    have c1 := value3_c (G := G) x y z [f]
    have c2 := checkRc_c (G := G) (markRc (valB3 x y z) ((f.toNat : Int) - 1)) zeroM_sm.1 zeroM_sm.2
    have hf := f.toNat_lt
    have w1 : IntKind.i64.wrap (f.toNat : Int) = f.toNat := IntWalk.i64_in _ (by omega)
    have w2 : IntKind.i64.wrap ((f.toNat : Int) - 1) = (f.toNat : Int) - 1 := IntWalk.i64_in _ (by omega)
    generalize checkRc (markRc (valB3 x y z) ((f.toNat : Int) - 1)) = v at *
    generalize valB3 x y z = N at *
    obtain ⟨B, hB⟩ : ∃ B, bR [1, x, y, z, f] = B := ⟨_, rfl⟩
    have hul : UL 1 B := by rw [← hB]; exact bR_ul _
    have hl : B.length = 5 := by rw [← hB]; rfl
    have g0 : B[0]? = some [.lit (.int .u8 1)] := by rw [← hB]; rfl
    have g4 : B[4]? = some [.lit (.int .u8 (f.toNat : Int))] := by rw [← hB]; rfl
    have g0b : ∀ h : 0 < B.length, B[0]'h = [.lit (.int .u8 1)] := fun h => by have e := g0; rw [List.getElem?_eq_getElem h] at e; exact Option.some.inj e
    have g4b : ∀ h : 4 < B.length, B[4]'h = [.lit (.int .u8 (f.toNat : Int))] := fun h => by have e := g4; rw [List.getElem?_eq_getElem h] at e; exact Option.some.inj e
    have s1 : B.take 5 = B := List.take_of_length_le (by omega)
    have d1 : B.tail = bR [x, y, z, f] := by rw [← hB]; rfl
    have d2 : B.drop 1 = bR [x, y, z, f] := by rw [← hB]; rfl
    rw [hB]
    generalize bR [x, y, z, f] = R1 at *
    clear hB e hA
    simp only [markRc, Rcd.c, zeroItem, zeroM, zeroS, List.map_nil] at *
    refine pcallc mixed Tryz.func73 ac_tape_decode ?_
    repeat' (first | (with_reducible first | refine Cn (fun h => ?_) fun h => ?_ | refine And.intro ?_ ?_ | refine wR ?_ | exact wr _ _ | refine wa ?_ | apply awp_join | refine q c1 ?_ | refine qd c1 ?_ | refine qz c1 ?_ | refine q c2 ?_ | refine qd c2 ?_ | refine qz c2 ?_) | (with_reducible refine CallZ.z ?_) | simp -dsimp [go_sem, w1, w2, hul, hl, g0, g4, g0b, g4b, s1, d1, d2])
    all_goals first | omega | trace_state
  · by_cases hB : 4 < b.length ∧ b[0]? = some 2
    · obtain ⟨x, y, z, t, ht, rfl⟩ : ∃ x y z t, t ≠ [] ∧ b = 2 :: x :: y :: z :: t := by
        match b, hB with
        | a :: x :: y :: z :: g :: t, ⟨_, h⟩ => exact ⟨x, y, z, g :: t, by simp, by simp at h; rw [h]⟩
      obtain ⟨r, hr⟩ : ∃ r : Rcd, r = ⟨2, 0, 0, valB3 x y z, (decItem t).1, 0, 0, zeroM⟩ := ⟨_, rfl⟩
      have e : decRc (2 :: x :: y :: z :: t) = (r, (decItem t).2 == 0 && checkRc r == 0) := by
        show (if t = [] then (zeroRc, false) else _) = _
        rw [if_neg ht, hr]
      rw [e]
      have c1 := value3_c (G := G) x y z t
      have c2 := checkRc_c (G := G) r (by rw [hr]; exact zeroM_sm.1) (by rw [hr]; exact zeroM_sm.2)
      have c3 := decodeItem_c (G := G) t
      generalize checkRc r = v at *
      subst hr
      generalize valB3 x y z = N at *
      generalize decItem t = q at *
      obtain ⟨⟨xt, xm, xn, xc, xs, xk, xa, xb, xd, xx⟩, w⟩ := q
      obtain ⟨B, hBe⟩ : ∃ B, bR (2 :: x :: y :: z :: t) = B := ⟨_, rfl⟩
      obtain ⟨n, hn⟩ : ∃ n, (2 :: x :: y :: z :: t).length = n := ⟨_, rfl⟩
      have hul : UL 1 B := by rw [← hBe]; exact bR_ul _
      have hl : B.length = n := by rw [← hBe, bR_len, hn]
      have g0 : B[0]? = some [.lit (.int .u8 2)] := by rw [← hBe]; rfl
      have s1 : B.take n = B := List.take_of_length_le (by omega)
      have d1 : B.tail = bR (x :: y :: z :: t) := by rw [← hBe]; rfl
      have d2 : B.drop 1 = bR (x :: y :: z :: t) := by rw [← hBe]; rfl
      have d4 : B.drop 4 = bR t := by rw [← hBe]; rfl
      have hn4 : 4 < n := by rw [← hn]; exact hB.1
      have q4 : decide (4 < (n : Int)) = true := decide_eq_true (by omega)
      rw [hBe]
      generalize bR (x :: y :: z :: t) = R1 at *
      generalize bR t = T at *
      clear e hA hB hBe hn
      simp only [Rcd.c, zeroM, zeroS, Item.row, List.map_cons, List.map_nil] at *
      by_cases hw : w = 0
      · subst hw
        refine pcallc mixed Tryz.func73 ac_tape_decode ?_
        repeat' (first | (with_reducible first | refine Cn (fun h => ?_) fun h => ?_ | refine And.intro ?_ ?_ | refine wR ?_ | exact wr _ _ | refine wa ?_ | apply awp_join | refine q c1 ?_ | refine qd c1 ?_ | refine qz c1 ?_ | refine q c2 ?_ | refine qd c2 ?_ | refine qz c2 ?_ | refine q c3 ?_ | refine qd c3 ?_ | refine qz c3 ?_) | (with_reducible refine CallZ.z ?_) | simp -dsimp [go_sem, hul, hl, g0, s1, d1, d2, d4, q4])
        all_goals first | omega | trace_state
      · have q0 : (w == 0) = false := by simpa using hw
        refine pcallc mixed Tryz.func73 ac_tape_decode ?_
        repeat' (first | (with_reducible first | refine Cn (fun h => ?_) fun h => ?_ | refine And.intro ?_ ?_ | refine wR ?_ | exact wr _ _ | refine wa ?_ | apply awp_join | refine q c1 ?_ | refine qd c1 ?_ | refine qz c1 ?_ | refine q c2 ?_ | refine qd c2 ?_ | refine qz c2 ?_ | refine q c3 ?_ | refine qd c3 ?_ | refine qz c3 ?_) | (with_reducible refine CallZ.z ?_) | simp -dsimp [go_sem, hul, hl, g0, s1, d1, d2, d4, q4, q0])
        all_goals first | omega | trace_state
    · by_cases hC : 7 < b.length ∧ b[0]? = some 3
      · obtain ⟨x, y, z, x2, y2, z2, t, ht, rfl⟩ : ∃ x y z x2 y2 z2 t, t ≠ [] ∧ b = 3 :: x :: y :: z :: x2 :: y2 :: z2 :: t := by
          match b, hC with
          | a :: x :: y :: z :: x2 :: y2 :: z2 :: g :: t, ⟨_, h⟩ => exact ⟨x, y, z, x2, y2, z2, g :: t, by simp, by simp at h; rw [h]⟩
        obtain ⟨r, hr⟩ : ∃ r : Rcd, r = ⟨3, 0, 0, 0, zeroItem, valB3 x y z, valB3 x2 y2 z2, (decM t).1⟩ := ⟨_, rfl⟩
        have e : decRc (3 :: x :: y :: z :: x2 :: y2 :: z2 :: t) = (r, (decM t).2 == 0 && checkRc r == 0) := by
          show (if t = [] then (zeroRc, false) else _) = _
          rw [if_neg ht, hr]
        rw [e]
        have c1 := value3_c (G := G) x y z (x2 :: y2 :: z2 :: t)
        have c1b := value3_c (G := G) x2 y2 z2 t
        have c2 := checkRc_c (G := G) r (by rw [hr]; exact (decM_small t).1) (by rw [hr]; exact (decM_small t).2)
        have c3 := decode_c (G := G) t
        generalize checkRc r = v at *
        subst hr
        generalize valB3 x y z = N at *
        generalize valB3 x2 y2 z2 = N2 at *
        generalize decM t = q at *
        obtain ⟨⟨⟨mn, me⟩, mx, mc⟩, w⟩ := q
        obtain ⟨B, hBe⟩ : ∃ B, bR (3 :: x :: y :: z :: x2 :: y2 :: z2 :: t) = B := ⟨_, rfl⟩
        obtain ⟨n, hn⟩ : ∃ n, (3 :: x :: y :: z :: x2 :: y2 :: z2 :: t).length = n := ⟨_, rfl⟩
        have hul : UL 1 B := by rw [← hBe]; exact bR_ul _
        have hl : B.length = n := by rw [← hBe, bR_len, hn]
        have g0 : B[0]? = some [.lit (.int .u8 3)] := by rw [← hBe]; rfl
        have s1 : B.take n = B := List.take_of_length_le (by omega)
        have d1 : B.tail = bR (x :: y :: z :: x2 :: y2 :: z2 :: t) := by rw [← hBe]; rfl
        have d2 : B.drop 1 = bR (x :: y :: z :: x2 :: y2 :: z2 :: t) := by rw [← hBe]; rfl
        have d4 : B.drop 4 = bR (x2 :: y2 :: z2 :: t) := by rw [← hBe]; rfl
        have d7 : B.drop 7 = bR t := by rw [← hBe]; rfl
        have hn7 : 7 < n := by rw [← hn]; exact hC.1
        have q5 : ((n : Int) == 5) = false := by rw [beq_eq_false_iff_ne]; omega
        have q4 : decide (4 < (n : Int)) = true := decide_eq_true (by omega)
        have q7 : decide (7 < (n : Int)) = true := decide_eq_true (by omega)
        rw [hBe]
        generalize bR (x :: y :: z :: x2 :: y2 :: z2 :: t) = R1 at *
        generalize bR (x2 :: y2 :: z2 :: t) = R2 at *
        generalize bR t = T at *
        clear e hA hB hC hBe hn
        simp only [Rcd.c, zeroItem, Mach.c, List.map_nil] at *
        by_cases hw : w = 0
        · subst hw
          refine pcallc mixed Tryz.func73 ac_tape_decode ?_
          repeat' (first | (with_reducible first | refine Cn (fun h => ?_) fun h => ?_ | refine And.intro ?_ ?_ | refine wR ?_ | exact wr _ _ | refine wa ?_ | apply awp_join | refine q c1 ?_ | refine qd c1 ?_ | refine qz c1 ?_ | refine q c1b ?_ | refine qd c1b ?_ | refine qz c1b ?_ | refine q c2 ?_ | refine qd c2 ?_ | refine qz c2 ?_ | refine q c3 ?_ | refine qd c3 ?_ | refine qz c3 ?_) | (with_reducible refine CallZ.z ?_) | simp -dsimp [go_sem, hul, hl, g0, s1, d1, d2, d4, d7, q4, q5, q7])
          all_goals first | omega | trace_state
        · have q0 : (w == 0) = false := by simpa using hw
          refine pcallc mixed Tryz.func73 ac_tape_decode ?_
          repeat' (first | (with_reducible first | refine Cn (fun h => ?_) fun h => ?_ | refine And.intro ?_ ?_ | refine wR ?_ | exact wr _ _ | refine wa ?_ | apply awp_join | refine q c1 ?_ | refine qd c1 ?_ | refine qz c1 ?_ | refine q c1b ?_ | refine qd c1b ?_ | refine qz c1b ?_ | refine q c2 ?_ | refine qd c2 ?_ | refine qz c2 ?_ | refine q c3 ?_ | refine qd c3 ?_ | refine qz c3 ?_) | (with_reducible refine CallZ.z ?_) | simp -dsimp [go_sem, hul, hl, g0, s1, d1, d2, d4, d7, q4, q5, q7, q0])
          all_goals first | omega | trace_state
      · rw [dec_none hA hB hC]
        simp only [zeroRc, Rcd.c, zeroItem, zeroM, zeroS, List.map_nil]
        cases b with
        | nil =>
          simp only [show bR [] = [] from rfl]
          refine pcallc mixed Tryz.func73 ac_tape_decode ?_
          repeat' (first | (with_reducible first | refine Cn (fun h => ?_) fun h => ?_ | refine And.intro ?_ ?_ | refine wR ?_ | exact wr _ _ | refine wa ?_ | apply awp_join) | (with_reducible refine CallZ.z ?_) | simp -dsimp [go_sem])
          all_goals trace_state
        | cons c t =>
          have hl := bR_len t
          have hcl := c.toNat_lt
          have k1 : ((c.toNat : Int) == 1) = decide (c = 1) := by
            by_cases h : c = 1
            · subst h; rfl
            · have : c.toNat ≠ 1 := fun e => h (UInt8.toNat_inj.1 e)
              simp [h]; omega
          have k2 : ((c.toNat : Int) == 2) = decide (c = 2) := by
            by_cases h : c = 2
            · subst h; rfl
            · have : c.toNat ≠ 2 := fun e => h (UInt8.toNat_inj.1 e)
              simp [h]; omega
          have k3 : ((c.toNat : Int) == 3) = decide (c = 3) := by
            by_cases h : c = 3
            · subst h; rfl
            · have : c.toNat ≠ 3 := fun e => h (UInt8.toNat_inj.1 e)
              simp [h]; omega
          simp only [List.length_cons, List.getElem?_cons_zero, Option.some.injEq] at hA hB hC
          simp only [bR_cons]
          obtain ⟨A, hAe⟩ : ∃ A : Bool, ((t.length : Int) + 1 == 5) = A := ⟨_, rfl⟩
          obtain ⟨B, hBe⟩ : ∃ B : Bool, decide (4 < (t.length : Int) + 1) = B := ⟨_, rfl⟩
          obtain ⟨D, hDe⟩ : ∃ D : Bool, decide (7 < (t.length : Int) + 1) = D := ⟨_, rfl⟩
          have nA : (A && decide (c = 1)) = false := by
            cases A with
            | false => rfl
            | true => have : t.length + 1 = 5 := by have := eq_of_beq hAe; omega
                      simp; exact fun h => hA ⟨this, h⟩
          have nB : (B && decide (c = 2)) = false := by
            cases B with
            | false => rfl
            | true => have : 4 < t.length + 1 := by have := of_decide_eq_true hBe; omega
                      simp; exact fun h => hB ⟨this, h⟩
          have nD : (D && decide (c = 3)) = false := by
            cases D with
            | false => rfl
            | true => have : 7 < t.length + 1 := by have := of_decide_eq_true hDe; omega
                      simp; exact fun h => hC ⟨this, h⟩
          clear hA hB hC
          generalize bR t = T at *
          generalize decide (c = 1) = c1 at *
          generalize decide (c = 2) = c2 at *
          generalize decide (c = 3) = c3 at *
          cases A <;> cases B <;> cases D
          all_goals simp only [Bool.false_and, Bool.true_and] at nA nB nD
          all_goals
            try subst nA
            try subst nB
            try subst nD
          all_goals
            refine pcallc mixed Tryz.func73 ac_tape_decode ?_
            repeat' (first | (with_reducible first | refine Cn (fun h => ?_) fun h => ?_ | refine And.intro ?_ ?_ | refine wR ?_ | exact wr _ _ | refine wa ?_ | apply awp_join) | (with_reducible refine CallZ.z ?_) | simp -dsimp [go_sem, hl, hAe, hBe, hDe, k1, k2, k3])
          all_goals trace_state
end Go.Proofs.YtpdcfljbabpakaaGreatDoor
set_option linter.unusedVariables false
set_option linter.unusedSimpArgs false
set_option maxRecDepth 100000
set_option maxHeartbeats 8000000
namespace Go.Proofs.YtpdcfljbabpakaaGreatDoor
open Go Go.RowKit Go.Proofs.AE
variable {G : Nat → AV}
theorem recs_ul (l : List Rcd) : UL 20 (l.map Rcd.row) := by
  intro r hr
  obtain ⟨y, _, rfl⟩ := List.mem_map.1 hr
  rfl
theorem recGo_short {m : Nat} {l : List UInt8} (h : l.length < 3) : recGo m l = ([], 0) := by
  cases m with
  | zero => rfl
  | succ m =>
    match l, h with
    | [], _ => rfl
    | [_], _ => rfl
    | [_, _], _ => rfl
def recV (d : List UInt8) (s : Int) : AV := .tup [.one (.v (.sl ((recB d).1.map Rcd.row))), .agg [.v (.sl ((bR d).take (recB d).2)), iC (if ((recB d).2 : Int) < s then ((recB d).2 : Int) else s)], iV 0]
theorem recover_c (d : List UInt8) (s : Int) (h : TOk d s) : PCall Tryz.prog G 35 [.agg (tpC d s)] (recV d s) := by
  have hs0 := h.s0; have hs1 := h.s1; have hle := h.le
  have ho := topen_c (G := G) d s h
  have hl := bR_len d
  have hul := bR_ul d
  unfold recV
  obtain ⟨RB, hRB⟩ : ∃ q, recB d = q := ⟨_, rfl⟩
  rw [hRB]
  have hdrop : ∀ a, (bR d).drop a = bR (d.drop a) := fun a => bR_drop d a
  have hinit : RB = ([] ++ (recGo (d.length - 0) (d.drop 0)).1, 0 + (recGo (d.length - 0) (d.drop 0)).2) := by rw [← hRB]; simp [recB]
  simp only [tpC] at ho ⊢
  obtain ⟨D, hD⟩ : ∃ D, bR d = D := ⟨_, rfl⟩
  rw [hD] at ho hl hul hdrop ⊢
  refine pcallc mixed Tryz.func35 ac_tape_Recover ?_
  repeat' (first | (with_reducible first | refine Cn (fun h => ?_) fun h => ?_ | refine And.intro ?_ ?_ | refine wR ?_ | exact wr _ _ | refine wa ?_ | apply awp_join | refine q ho ?_ | refine qd ho ?_ | refine qz ho ?_) | (with_reducible refine CallZ.z ?_) | simp -dsimp [go_sem, hl])
  refine awp_loop (fun x : Nat × List Rcd => ⟨[(3, .one (.ptr 0 0)), (5, .one (.ptr 1 0)), (7, .one (.ar 2)), (8, iV x.1)], G, [some (.box 68 [.nil, iC 0]), some (.box 68 [.v (.sl D), iC s]), some (.arr 43 20 (x.2.map Rcd.row))]⟩)
    (fun x => x.1 ≤ d.length ∧ 3 * x.2.length ≤ x.1 ∧ RB = (x.2 ++ (recGo (d.length - x.2.length) (d.drop x.1)).1, x.1 + (recGo (d.length - x.2.length) (d.drop x.1)).2)) (fun x => d.length - x.1) (0, []) (Weak.trans (weak_nil 7 43 20 ?_ (by omega)) (weak_auto ?_)) ⟨Nat.zero_le _, by simp, hinit⟩ ?_
  · simp -dsimp [go_sem]
  · simp -dsimp [go_sem]
  · rintro ⟨a, R⟩ ⟨h1, h2, h3⟩
    simp only at h1 h2 h3
    have w1 : IntKind.i64.wrap ((a : Int) + 3) = (a : Int) + 3 := IntWalk.i64_in _ (by omega)
    have hexit : (recGo (d.length - R.length) (d.drop a)) = ([], 0) → RB = (R, a) := fun e => by rw [h3, e]; simp
    by_cases hc1 : a + 3 ≤ d.length
    · have q1 : decide ((a : Int) + 3 ≤ (d.length : Int)) = true := decide_eq_true (by omega)
      obtain ⟨x, y, z, t, ht⟩ : ∃ x y z t, d.drop a = x :: y :: z :: t := by
        have hl3 : 3 ≤ (d.drop a).length := by rw [List.length_drop]; omega
        match d.drop a, hl3 with
        | x :: y :: z :: t, _ => exact ⟨x, y, z, t, rfl⟩
      have htl : t.length = d.length - (a + 3) := by
        have := congrArg List.length ht
        rw [List.length_drop] at this; simp at this; omega
      have ht3 : d.drop (a + 3) = t := by
        rw [← List.drop_drop, ht]; rfl
      obtain ⟨m, hm⟩ : ∃ m, d.length - R.length = m + 1 := ⟨d.length - R.length - 1, by omega⟩
      rw [ht, hm] at h3 hexit
      have hx := x.toNat_lt; have hy := y.toNat_lt; have hz := z.toNat_lt
      have c1 := value3_c (G := G) x y z t
      have hda : D.drop a = bR (x :: y :: z :: t) := by rw [hdrop, ht]
      rw [← hda] at c1
      obtain ⟨N, hN⟩ : ∃ N : Nat, valB3 x y z = N := ⟨(valB3 x y z).toNat, by unfold valB3; omega⟩
      have hNb : N < 16777216 := by unfold valB3 at hN; omega
      have hgo : recGo (m + 1) (x :: y :: z :: t) = if (t.length : Int) < N then ([], 0) else if (decRc (t.take N)).2 = false then ([], 0) else ((decRc (t.take N)).1 :: (recGo m (t.drop N)).1, 3 + N + (recGo m (t.drop N)).2) := by
        simp only [recGo, hN, Int.toNat_natCast]
      rw [hgo] at h3 hexit
      rw [hN] at c1
      have w2 : IntKind.i64.wrap ((a : Int) + 3 + N) = (a : Int) + 3 + N := IntWalk.i64_in _ (by omega)
      have ht1 : D.take d.length = D := List.take_of_length_le (by rw [hl]; omega)
      by_cases hc2 : (t.length : Int) < N
      · have q2 : decide ((d.length : Int) < (a : Int) + 3 + N) = true := decide_eq_true (by omega)
        rw [hexit (by rw [if_pos hc2])]
        repeat' (first | (with_reducible first | refine Cn (fun h => ?_) fun h => ?_ | refine And.intro ?_ ?_ | refine wR ?_ | exact wr _ _ | refine wa ?_ | apply awp_join | refine q c1 ?_ | refine qd c1 ?_ | refine qz c1 ?_) | (with_reducible refine CallZ.z ?_) | simp -dsimp [go_sem, hl, hul, q1, q2, w1, w2, ht1])
        all_goals first | omega | trace_state
      · have q2 : decide ((d.length : Int) < (a : Int) + 3 + N) = false := decide_eq_false (by omega)
        rw [if_neg hc2] at h3 hexit
        have c2 := tdecode_c (G := G) (t.take N) (by rw [List.length_take]; omega)
        have hsl : (D.take (a + 3 + N)).drop (a + 3) = bR (t.take N) := by rw [List.drop_take, show a + 3 + N - (a + 3) = N by omega, hdrop, ht3, bR_take]
        rw [← hsl] at c2
        have hai : ((a : Int) + 3).toNat = a + 3 := by omega
        have hbi : ((a : Int) + 3 + N).toNat = a + 3 + N := by omega
        have hci : a + 3 + N - (a + 3) = N := by omega
        obtain ⟨r, ok⟩ : ∃ q : Rcd × Bool, True := ⟨(zeroRc, false), trivial⟩
        obtain ⟨q, hq⟩ : ∃ q, decRc (t.take N) = q := ⟨_, rfl⟩
        rw [hq] at c2 h3 hexit
        obtain ⟨r, ok⟩ := q
        simp only at c2 h3 hexit
        cases ok with
        | false =>
          rw [hexit (if_pos rfl)]
          obtain ⟨k, t', f, ix, ⟨xt, xm, xn, xc, xs, xk, xa, xb, xd, xx⟩, si, st, ⟨⟨mn, me⟩, mx, mc⟩⟩ := r
          simp only [Rcd.c] at c2
          repeat' (first | (with_reducible first | refine Cn (fun h => ?_) fun h => ?_ | refine And.intro ?_ ?_ | refine wR ?_ | exact wr _ _ | refine wa ?_ | apply awp_join | refine q c1 ?_ | refine qd c1 ?_ | refine qz c1 ?_ | refine q c2 ?_ | refine qd c2 ?_ | refine qz c2 ?_) | (with_reducible refine CallZ.z ?_) | simp -dsimp [go_sem, hl, hul, q1, q2, w1, w2, ht1, hai, hbi, hci])
          all_goals first | omega | trace_state
        | true =>
          rw [if_neg (by simp)] at h3
          have w3 : IntKind.i64.wrap (3 + (N : Int)) = 3 + (N : Int) := IntWalk.i64_in _ (by omega)
          have w4 : IntKind.i64.wrap ((a : Int) + (3 + (N : Int))) = ((a + 3 + N : Nat) : Int) := by rw [IntWalk.i64_in _ (by omega)]; omega
          have hRu := recs_ul R
          have hRl : (R.map Rcd.row).length = R.length := by simp
          have hag : a + 3 + N ≤ d.length ∧ 3 * (R ++ [r]).length ≤ a + 3 + N ∧ RB = ((R ++ [r]) ++ (recGo (d.length - (R ++ [r]).length) (d.drop (a + 3 + N))).1, a + 3 + N + (recGo (d.length - (R ++ [r]).length) (d.drop (a + 3 + N))).2) := by
            have e1 : d.length - (R ++ [r]).length = m := by simp; omega
            have e2 : d.drop (a + 3 + N) = t.drop N := by rw [← List.drop_drop, ht3]
            refine ⟨by omega, by simp; omega, ?_⟩
            rw [h3, e1, e2]
            simp; omega
          have hsu : (R ++ [r]).map Rcd.row = R.map Rcd.row ++ [r.row] := by simp
          obtain ⟨k, t', f, ix, ⟨xt, xm, xn, xc, xs, xk, xa, xb, xd, xx⟩, si, st, ⟨⟨mn, me⟩, mx, mc⟩⟩ := r
          simp only [Rcd.c] at c2
          simp only [Rcd.row] at hsu
          clear h3 hexit hgo hda ht ho
          repeat' (first | (with_reducible first | refine Cn (fun h => ?_) fun h => ?_ | refine And.intro ?_ ?_ | refine wR ?_ | exact wr _ _ | refine wa ?_ | apply awp_join | refine q c1 ?_ | refine qd c1 ?_ | refine qz c1 ?_ | refine q c2 ?_ | refine qd c2 ?_ | refine qz c2 ?_) | (with_reducible refine CallZ.z ?_) | simp -dsimp [go_sem, hl, hul, q1, q2, w1, w2, w3, w4, ht1, hai, hbi, hci, hRu, hRl])
          all_goals first
            | omega
            | (simp [UL]; done)
            | (refine Again.auto (a + 3 + N, R ++ [⟨k, t', f, ix, ⟨xt, xm, xn, xc, xs, xk, xa, xb, xd, xx⟩, si, st, ⟨⟨mn, me⟩, mx, mc⟩⟩]) ?_ hag ?_
               · simp -dsimp [go_sem, hsu]
               · show d.length - (a + 3 + N) < d.length - a; omega)
            | trace_state
    · have q1 : decide ((a : Int) + 3 ≤ (d.length : Int)) = false := decide_eq_false (by omega)
      rw [hexit (recGo_short (by rw [List.length_drop]; omega))]
      repeat' (first | (with_reducible first | refine Cn (fun h => ?_) fun h => ?_ | refine And.intro ?_ ?_ | refine wR ?_ | exact wr _ _ | refine wa ?_ | apply awp_join) | (with_reducible refine CallZ.z ?_) | simp -dsimp [go_sem, hl, hul, q1, w1])
      all_goals first | omega | trace_state
end Go.Proofs.YtpdcfljbabpakaaGreatDoor
set_option linter.unusedVariables false
set_option linter.unusedSimpArgs false
set_option maxRecDepth 100000
set_option maxHeartbeats 8000000
namespace Go.Proofs.YtpdcfljbabpakaaGreatDoor
open Go Go.RowKit Go.Proofs.AE
variable {G : Nat → AV}
def Rcd.Small (r : Rcd) : Prop := r.mach.sto.Small ∧ r.mach.clis.length ≤ 1000000
end Go.Proofs.YtpdcfljbabpakaaGreatDoor
set_option linter.unusedVariables false
set_option linter.unusedSimpArgs false
set_option maxRecDepth 100000
set_option maxHeartbeats 8000000
namespace Go.Proofs.YtpdcfljbabpakaaGreatDoor
open Go Go.RowKit Go.Proofs.AE
variable {G : Nat → AV}
theorem zeroM_small : (zeroM).sto.Small ∧ (zeroM).clis.length ≤ 1000000 := ⟨⟨by decide, fun e he => by cases he⟩, by decide⟩
end Go.Proofs.YtpdcfljbabpakaaGreatDoor
set_option linter.unusedVariables false
set_option linter.unusedSimpArgs false
set_option maxRecDepth 100000
set_option maxHeartbeats 8000000
namespace Go.Proofs.YtpdcfljbabpakaaGreatDoor
open Go Go.RowKit Go.Proofs.AE
variable {G : Nat → AV}
def accE (l : List Ent) (i : Nat) : List (List V) := eR (l.take i)
theorem accE_zero (l : List Ent) : accE l 0 = [] := rfl
theorem accE_all (l : List Ent) {i : Nat} (h : l.length ≤ i) : accE l i = eR l := by unfold accE; rw [List.take_of_length_le h]
theorem accE_len (l : List Ent) {i : Nat} (h : i ≤ l.length) : (accE l i).length = i := by unfold accE; simp; omega
theorem accE_succ {l : List Ent} {i : Nat} {e : Ent} (h : l[i]? = some e) : accE l (i + 1) = accE l i ++ [e.row] := by
  unfold accE
  rw [List.take_add_one, h, Option.toList_some]
  simp
theorem ownS_C (s : Sto) (hs : s.Small) : PCall Tryz.prog G 103 [.agg s.c] (.agg s.c) := by
  obtain ⟨now, l⟩ := s
  obtain ⟨s1, s2⟩ := hs
  simp only at s1 s2
  have hul := ul_e l
  simp only [Sto.c]
  refine pcallc mixed Tryz.func103 ac_store_own ?_
  repeat' (first | (with_reducible first | refine Cn (fun h => ?_) fun h => ?_ | refine And.intro ?_ ?_ | refine wR ?_ | exact wr _ _ | refine wa ?_ | apply awp_join) | (with_reducible refine CallZ.z ?_) | simp -dsimp [go_sem])
  refine awp_loop (fun i : Nat => ⟨[(2, .one (.ptr 0 0)), (3, .one (.ptr 1 0)), (11, .one (.v (.sl (eR l)))), (12, iV l.length), (13, iV i)], G, [some (.box 25 [iC 0, .nil]), some (.box 25 [iC now, .ar 2]), some (.arr 119 8 (accE l i))]⟩) (fun i => i ≤ l.length) (fun i => l.length - i) 0 (Weak.trans (weak_thaw 2 1 119 8 rfl rfl (by omega)) (weak_auto ?_)) (Nat.zero_le _) ?_
  · simp -dsimp [go_sem, accE_zero]
  · intro i hi
    by_cases hlt : i < l.length
    · obtain ⟨e, he⟩ : ∃ e, l[i]? = some e := ⟨_, List.getElem?_eq_getElem hlt⟩
      have e4 : IntKind.i64.wrap ((i : Int) + 1) = (i : Int) + 1 := IntWalk.i64_in _ (by omega)
      have q1 : decide (i < l.length) = true := by simpa using hlt
      obtain ⟨v1, v2, v3⟩ := s2 e (List.mem_of_getElem? he)
      have hrl := accE_len l hi
      have hsu := accE_succ he
      have hul1 : UL 8 [e.row] := fun r hr => by simp at hr; subst hr; rfl
      obtain ⟨key, ⟨vk, vt, vn, vp, vi, vs⟩, till⟩ := e
      simp only at v1 v2 v3
      have c1 := clone_api_Pair (G := G) (pR vp) (ul_p vp) (by simp; omega)
      have c2 := clone_string (G := G) (strRows vi) (ul_i vi) (by simp; omega)
      have c3 := clone_api_Score (G := G) (sR vs) (ul_s vs) (by simp; omega)
      simp only [Ent.row] at hsu hul1
      repeat' (first | (with_reducible first | refine Cn (fun h => ?_) fun h => ?_ | refine And.intro ?_ ?_ | refine wR ?_ | exact wr _ _ | refine wa ?_ | apply awp_join | refine q c1 ?_ | refine qd c1 ?_ | refine qz c1 ?_ | refine q c2 ?_ | refine qd c2 ?_ | refine qz c2 ?_ | refine q c3 ?_ | refine qd c3 ?_ | refine qz c3 ?_) | (with_reducible refine CallZ.z ?_) | simp -dsimp [go_sem, he, Ent.row, e4, q1, hrl])
      all_goals first
        | omega
        | exact hul1
        | (refine Again.auto (i + 1) ?_ ?_ ?_
           · simp -dsimp [go_sem, hsu]
           · exact hlt
           · show l.length - (i + 1) < l.length - i; omega)
    · have q1 : decide (i < l.length) = false := by simpa using hlt
      have hn := accE_all l (i := i) (by omega)
      rw [hn]
      repeat' (first | (with_reducible first | refine Cn (fun h => ?_) fun h => ?_ | refine And.intro ?_ ?_ | refine wR ?_ | exact wr _ _ | refine wa ?_ | apply awp_join) | (with_reducible refine CallZ.z ?_) | simp -dsimp [go_sem, q1])
theorem ownS_G (s : Sto) (hs : s.Small) : DetCall Tryz.prog G 103 0 [] [.agg s.c] (.agg [iC s.now, .ar 0]) [some (.arr 119 8 (eR s.ents))] := by
  obtain ⟨now, l⟩ := s
  obtain ⟨s1, s2⟩ := hs
  simp only at s1 s2
  have hul := ul_e l
  simp only [Sto.c]
  refine gcallc mixed Tryz.func103 ac_store_own ?_
  repeat' (first | (with_reducible first | refine Cn (fun h => ?_) fun h => ?_ | refine And.intro ?_ ?_ | refine wR ?_ | exact wr _ _ | refine wa ?_ | apply awp_join) | (with_reducible refine CallZ.z ?_) | simp -dsimp [go_sem])
  refine awp_loop (fun i : Nat => ⟨[(2, .one (.ptr 0 0)), (3, .one (.ptr 1 0)), (11, .one (.v (.sl (eR l)))), (12, iV l.length), (13, iV i)], G, [some (.box 25 [iC 0, .nil]), some (.box 25 [iC now, .ar 2]), some (.arr 119 8 (accE l i))]⟩) (fun i => i ≤ l.length) (fun i => l.length - i) 0 (Weak.trans (weak_thaw 2 1 119 8 rfl rfl (by omega)) (weak_auto ?_)) (Nat.zero_le _) ?_
  · simp -dsimp [go_sem, accE_zero]
  · intro i hi
    by_cases hlt : i < l.length
    · obtain ⟨e, he⟩ : ∃ e, l[i]? = some e := ⟨_, List.getElem?_eq_getElem hlt⟩
      have e4 : IntKind.i64.wrap ((i : Int) + 1) = (i : Int) + 1 := IntWalk.i64_in _ (by omega)
      have q1 : decide (i < l.length) = true := by simpa using hlt
      obtain ⟨v1, v2, v3⟩ := s2 e (List.mem_of_getElem? he)
      have hrl := accE_len l hi
      have hsu := accE_succ he
      have hul1 : UL 8 [e.row] := fun r hr => by simp at hr; subst hr; rfl
      obtain ⟨key, ⟨vk, vt, vn, vp, vi, vs⟩, till⟩ := e
      simp only at v1 v2 v3
      have c1 := clone_api_Pair (G := G) (pR vp) (ul_p vp) (by simp; omega)
      have c2 := clone_string (G := G) (strRows vi) (ul_i vi) (by simp; omega)
      have c3 := clone_api_Score (G := G) (sR vs) (ul_s vs) (by simp; omega)
      simp only [Ent.row] at hsu hul1
      repeat' (first | (with_reducible first | refine Cn (fun h => ?_) fun h => ?_ | refine And.intro ?_ ?_ | refine wR ?_ | exact wr _ _ | refine wa ?_ | apply awp_join | refine q c1 ?_ | refine qd c1 ?_ | refine qz c1 ?_ | refine q c2 ?_ | refine qd c2 ?_ | refine qz c2 ?_ | refine q c3 ?_ | refine qd c3 ?_ | refine qz c3 ?_) | (with_reducible refine CallZ.z ?_) | simp -dsimp [go_sem, he, Ent.row, e4, q1, hrl])
      all_goals first
        | omega
        | exact hul1
        | (refine Again.auto (i + 1) ?_ ?_ ?_
           · simp -dsimp [go_sem, hsu]
           · exact hlt
           · show l.length - (i + 1) < l.length - i; omega)
    · have q1 : decide (i < l.length) = false := by simpa using hlt
      have hn := accE_all l (i := i) (by omega)
      rw [hn]
      repeat' (first | (with_reducible first | refine Cn (fun h => ?_) fun h => ?_ | refine And.intro ?_ ?_ | refine wR ?_ | exact wr _ _ | refine wa ?_ | apply awp_join) | (with_reducible refine CallZ.z ?_) | simp -dsimp [go_sem, q1])
abbrev bC' (b : Bool) : C := .v (.lit (.bool b))
theorem byKey_c (e : Ent) (k : ByteArray) : PCall Tryz.prog G 148 [.agg e.c, sV k] (iV (cmpB e.key k)) := by
  unfold Ent.c
  refine pcallc mixed Tryz.func148 ac_store_keyed_find_1 ?_
  repeat' (first | (with_reducible first | refine Cn (fun h => ?_) fun h => ?_ | refine And.intro ?_ ?_ | refine wR ?_ | exact wr _ _ | refine wa ?_ | apply awp_join | refine q (stringsCompare_c _ _) ?_ | refine qd (stringsCompare_c _ _) ?_ | refine qz (stringsCompare_c _ _) ?_) | (with_reducible refine CallZ.z ?_) | simp -dsimp [go_sem])
theorem bsearchE (l : List Ent) (key : ByteArray) (hl : l.length ≤ 1000000) (hr : Rise l) :
    PCall Tryz.prog G 147 [.one (.v (.sl (eR l))), sV key, .fn 148 [] []] (.tup [iV (findE l key), bV (inE l key)]) := by
  have he := en148
  obtain ⟨i, hi0⟩ : ∃ i, findE l key = i := ⟨_, rfl⟩
  have hi := findE_le l key
  have h1 : ∀ (j : Nat) a, l[j]? = some a → j < i → cmpB a.key key < 0 := fun j a hj hlt => by
    have := plc_lt (fun e : Ent => decide (cmpB e.key key < 0)) l j a hj (by rw [← hi0] at hlt; exact hlt)
    simpa using this
  have h2 : ∀ (j : Nat) a, l[j]? = some a → i ≤ j → 0 ≤ cmpB a.key key := fun j a hj hle => findE_ge hr j a hj (by rw [hi0]; exact hle)
  unfold inE
  rw [hi0] at hi ⊢
  clear hi0
  refine pcallc mixed Tryz.func147 ac_slices_BinarySearchFunc_api_Entry_string ?_
  repeat' (first | (with_reducible first | refine Cn (fun h => ?_) fun h => ?_ | refine And.intro ?_ ?_ | refine wR ?_ | exact wr _ _ | refine wa ?_ | apply awp_join) | (with_reducible refine CallZ.z ?_) | simp -dsimp [go_sem])
  refine awp_loop (fun q : Nat × Nat => ⟨[(0, .one (.v (.sl (eR l)))), (1, sV key), (2, .fn 148 [] []), (8, iV l.length), (9, iV q.1), (10, iV q.2)], G, []⟩) (fun q => q.1 ≤ i ∧ i ≤ q.2 ∧ q.2 ≤ l.length) (fun q => q.2 - q.1) (0, l.length) (weak_auto ?_) ⟨Nat.zero_le _, hi, Nat.le_refl _⟩ ?_
  · simp -dsimp [go_sem]
  · rintro ⟨lo, up⟩ ⟨q1, q2, q3⟩
    simp only at q1 q2 q3
    have w0 : IntKind.i64.wrap ((lo : Int) + up) = (lo : Int) + up := IntWalk.i64_in _ (by omega)
    simp -dsimp [go_sem]
    refine Cnd.intro (fun h => ?_) (fun h => ?_)
    · have hlt : lo < up := by simpa using h
      obtain ⟨m, hm, m1, m2⟩ : ∃ m : Nat, ((lo : Int) + up).fdiv 2 = m ∧ lo ≤ m ∧ m < up := by
        refine ⟨(lo + up) / 2, ?_, by omega, by omega⟩
        rw [Int.fdiv_eq_ediv_of_nonneg _ (by omega)]; omega
      have w1 : IntKind.u64.wrap ((lo : Int) + up) = (lo : Int) + up := IntWalk.u64_in _ (by omega)
      have w2 : IntKind.i64.wrap (m : Int) = m := IntWalk.i64_in _ (by omega)
      have w3 : IntKind.i64.wrap ((m : Int) + 1) = (m : Int) + 1 := IntWalk.i64_in _ (by omega)
      obtain ⟨a, ha⟩ : ∃ a, l[m]? = some a := ⟨_, List.getElem?_eq_getElem (by omega)⟩
      have hc := byKey_c (G := G) a key
      have k1 := h1 m a ha
      have k2 := h2 m a ha
      obtain ⟨x, hx⟩ : ∃ x, cmpB a.key key = x := ⟨_, rfl⟩
      rw [hx] at hc k1 k2
      simp only [Ent.c] at hc
      repeat' (first | (with_reducible first | refine Cn (fun h => ?_) fun h => ?_ | refine And.intro ?_ ?_ | refine wR ?_ | exact wr _ _ | refine wa ?_ | apply awp_join | refine q hc ?_ | refine qd hc ?_ | refine qz hc ?_) | (with_reducible refine CallZ.z ?_) | simp -dsimp [go_sem, w0, hm, w1, w2, w3, ha, Ent.row, he])
      all_goals first
        | (have hh : x < 0 := by simpa using h
           refine Again.auto (m + 1, up) ?_ ⟨?_, ?_, ?_⟩ ?_
           · simp -dsimp [go_sem]
           · show m + 1 ≤ i; omega
           · show i ≤ up; omega
           · show up ≤ l.length; omega
           · show up - (m + 1) < up - lo; omega)
        | (have hh : ¬ x < 0 := by simpa using h
           refine Again.auto (lo, m) ?_ ⟨?_, ?_, ?_⟩ ?_
           · simp -dsimp [go_sem]
           · show lo ≤ i; omega
           · show i ≤ m; omega
           · show m ≤ l.length; omega
           · show m - lo < up - lo; omega)
        | omega
    · have hge : lo = i := by simp at h; omega
      subst hge
      cases ha : l[lo]? with
      | none =>
        have hn : l.length ≤ lo := by simpa using ha
        have hlt : decide (lo < l.length) = false := by simp; omega
        repeat' (first | (with_reducible first | refine Cn (fun h => ?_) fun h => ?_ | refine And.intro ?_ ?_ | refine wR ?_ | exact wr _ _ | refine wa ?_ | apply awp_join) | (with_reducible refine CallZ.z ?_) | simp -dsimp [go_sem, hlt])
      | some a =>
        have hn : lo < l.length := lt_of_getElem? ha
        have hlt : decide (lo < l.length) = true := by simp; omega
        have hc := byKey_c (G := G) a key
        simp only [Ent.c] at hc
        repeat' (first | (with_reducible first | refine Cn (fun h => ?_) fun h => ?_ | refine And.intro ?_ ?_ | refine wR ?_ | exact wr _ _ | refine wa ?_ | apply awp_join | refine q hc ?_ | refine qd hc ?_ | refine qz hc ?_) | (with_reducible refine CallZ.z ?_) | simp -dsimp [go_sem, hlt, ha, Ent.row, he])
abbrev kHp (now : Int) (l : List (List V)) (at' : Int) (th : Bool) : Hp := [some (.box 185 [iC now, .ar 1, iC at', bC' th]), some (.arr 119 8 l)]
theorem find_c (now a0 : Int) (t0 : Bool) (l : List Ent) (key : ByteArray) (hl : l.length ≤ 1000000) (hr : Rise l) :
    DetCall Tryz.prog G 135 2 (kHp now (eR l) a0 t0) [.one (.ptr 0 0), sV key] (.tup []) (kHp now (eR l) (findE l key) (inE l key)) := by
  have hf := bsearchE (G := G) l key hl hr
  refine gcallc mixed Tryz.func135 ac_store_keyed_find ?_
  repeat' (first | (with_reducible first | refine Cn (fun h => ?_) fun h => ?_ | refine And.intro ?_ ?_ | refine wR ?_ | exact wr _ _ | refine wa ?_ | apply awp_join) | ((with_reducible refine CallZ.b ?_); simp -dsimp [go_sem]; (with_reducible refine PCall.bn (hf) (by with_unfolding_all rfl) (by with_unfolding_all rfl) (by with_unfolding_all rfl) (by with_unfolding_all rfl) ?_)) | (with_reducible refine CallZ.z ?_) | simp -dsimp [go_sem])
theorem remove_c (now : Int) (i : Nat) (th : Bool) (l : List Ent) (hi : i < l.length) (hl : l.length ≤ 1000000) :
    DetCall Tryz.prog G 136 1 (kHp now (eR l) i th) [.one (.ptr 0 0)] (.tup []) (kHp now (eR (delAt l i)) i th) := by
  have hd := delete_api_Entry (G := G) (eR l) i (by simpa using hi) (by simpa using hl)
  rw [map_del] at hd
  have w3 : IntKind.i64.wrap ((i : Int) + 1) = (i : Int) + 1 := IntWalk.i64_in _ (by omega)
  refine gcallc mixed Tryz.func136 ac_store_keyed_remove ?_
  repeat' (first | (with_reducible first | refine Cn (fun h => ?_) fun h => ?_ | refine And.intro ?_ ?_ | refine wR ?_ | exact wr _ _ | refine wa ?_ | apply awp_join | refine qg hd ?_ | refine qgd hd ?_) | (with_reducible refine CallZ.z ?_) | simp -dsimp [go_sem, w3])
theorem set_c (now : Int) (l : List Ent) (c : Cmd) (v : Val) (hl : l.length ≤ 1000) :
    DetCall Tryz.prog G 139 1 (kHp now (eR l) (findE l c.key) (inE l c.key)) [.one (.ptr 0 0), .agg c.c, .agg v.c] (.tup []) (kHp now (eR (setE l c v)) (findE l c.key) (inE l c.key)) := by
  have hle := findE_le l c.key
  unfold setE
  cases hin : inE l c.key with
  | true =>
    obtain ⟨e, he, hk⟩ := inE_some hin
    have hlt := lt_of_getElem? he
    rw [if_pos rfl, he]
    generalize findE l c.key = i at *
    obtain ⟨ck, ckey, cf, ct, cn⟩ := c
    obtain ⟨vk, vt, vn, vp, vi, vs⟩ := v
    obtain ⟨key, ⟨wk, wt, wn, wp, wi, ws⟩, till⟩ := e
    have hgs : ∀ X, ((eR l).set i X)[i]? = some X := fun X => by rw [List.getElem?_set_self (by simpa using hlt)]
    have hm : ∀ y : Ent, eR (l.set i y) = (eR l).set i y.row := fun y => by simp
    simp only [Cmd.c, Val.c, hm, Ent.row]
    by_cases h1 : ck = 1
    · have q1 : (ck == 1) = true := by simpa using h1
      rw [if_pos h1]
      refine gcallc mixed Tryz.func139 ac_store_keyed_set ?_
      repeat' (first | (with_reducible first | refine Cn (fun h => ?_) fun h => ?_ | refine And.intro ?_ ?_ | refine wR ?_ | exact wr _ _ | refine wa ?_ | apply awp_join) | (with_reducible refine CallZ.z ?_) | simp -dsimp [go_sem, he, Ent.row, q1, hgs])
      all_goals omega
    · have q1 : (ck == 1) = false := by simpa using h1
      rw [if_neg h1]
      refine gcallc mixed Tryz.func139 ac_store_keyed_set ?_
      repeat' (first | (with_reducible first | refine Cn (fun h => ?_) fun h => ?_ | refine And.intro ?_ ?_ | refine wR ?_ | exact wr _ _ | refine wa ?_ | apply awp_join) | (with_reducible refine CallZ.z ?_) | simp -dsimp [go_sem, he, Ent.row, q1, hgs])
      all_goals omega
  | false =>
    simp only [Bool.false_eq_true, if_false]
    generalize findE l c.key = i at *
    obtain ⟨ck, ckey, cf, ct, cn⟩ := c
    obtain ⟨vk, vt, vn, vp, vi, vs⟩ := v
    have hd := insert_api_Entry (G := G) (eR l) (Ent.row ⟨ckey, zeroV, 0⟩) i rfl (by simpa using hle) (by simpa using (by omega : l.length ≤ 1000000))
    rw [map_ins] at hd
    have hg : (insAt l i (⟨ckey, zeroV, 0⟩ : Ent))[i]? = some ⟨ckey, zeroV, 0⟩ := by
      unfold insAt
      rw [List.getElem?_append_right (by simp; omega)]
      simp
      rw [Nat.min_eq_left hle]; simp
    have hs : (insAt l i (⟨ckey, zeroV, 0⟩ : Ent)).set i ⟨ckey, ⟨vk, vt, vn, vp, vi, vs⟩, 0⟩ = insAt l i ⟨ckey, ⟨vk, vt, vn, vp, vi, vs⟩, 0⟩ := by
      unfold insAt
      rw [List.set_append_right _ _ (by simp; omega)]
      simp
      rw [Nat.min_eq_left hle]; simp
    have hil : (insAt l i (⟨ckey, zeroV, 0⟩ : Ent)).length = l.length + 1 := insAt_length l i _
    have hgs : ∀ X, ((eR (insAt l i (⟨ckey, zeroV, 0⟩ : Ent))).set i X)[i]? = some X := fun X => by rw [List.getElem?_set_self (by rw [List.length_map, insAt_length]; omega)]
    rw [← hs]
    have hm : ∀ (m : List Ent) (y : Ent), eR (m.set i y) = (eR m).set i y.row := fun m y => by simp
    rw [hm]
    generalize insAt l i (⟨ckey, zeroV, 0⟩ : Ent) = L at *
    simp only [Cmd.c, Val.c, Ent.row, zeroV] at hd ⊢
    by_cases h1 : ck = 1
    · have q1 : (ck == 1) = true := by simpa using h1
      refine gcallc mixed Tryz.func139 ac_store_keyed_set ?_
      repeat' (first | (with_reducible first | refine Cn (fun h => ?_) fun h => ?_ | refine And.intro ?_ ?_ | refine wR ?_ | exact wr _ _ | refine wa ?_ | apply awp_join | refine qg hd ?_ | refine qgd hd ?_) | (with_reducible refine CallZ.z ?_) | simp -dsimp [go_sem, hg, Ent.row, q1, hgs])
      all_goals omega
    · have q1 : (ck == 1) = false := by simpa using h1
      refine gcallc mixed Tryz.func139 ac_store_keyed_set ?_
      repeat' (first | (with_reducible first | refine Cn (fun h => ?_) fun h => ?_ | refine And.intro ?_ ?_ | refine wR ?_ | exact wr _ _ | refine wa ?_ | apply awp_join | refine qg hd ?_ | refine qgd hd ?_) | (with_reducible refine CallZ.z ?_) | simp -dsimp [go_sem, hg, Ent.row, q1, hgs])
      all_goals omega
theorem timed_c (now : Int) (l : List Ent) (c : Cmd) (hl : l.length ≤ 1000) (hn0 : 0 ≤ now) (hn1 : now ≤ 1073741824) (ha : ∀ e ∈ l, OkE now e) (hc : okCount c.n = true) :
    DetCall Tryz.prog G 137 1 (kHp now (eR l) (findE l c.key) (inE l c.key)) [.one (.ptr 0 0), .agg c.c] (.agg (timedE now l c).2.c) (kHp now (eR (timedE now l c).1) (findE l c.key) (inE l c.key)) := by
  have hcn : -1099511627776 ≤ c.n ∧ c.n ≤ 1099511627776 := by unfold okCount at hc; simpa using hc
  unfold timedE
  cases hin : inE l c.key with
  | false =>
    simp only [Bool.false_eq_true, if_false]
    obtain ⟨ck, ckey, cf, ct, cn⟩ := c
    simp only [Cmd.c, Rep.c, failR, List.map_nil]
    refine gcallc mixed Tryz.func137 ac_store_keyed_timed ?_
    repeat' (first | (with_reducible first | refine Cn (fun h => ?_) fun h => ?_ | refine And.intro ?_ ?_ | refine wR ?_ | exact wr _ _ | refine wa ?_ | apply awp_join) | (with_reducible refine CallZ.z ?_) | simp -dsimp [go_sem])
  | true =>
    obtain ⟨e, he, hk⟩ := inE_some hin
    have hlt := lt_of_getElem? he
    have hoe := (ha e (List.mem_of_getElem? he)).till
    rw [if_pos rfl, he]
    simp only
    generalize findE l c.key = i at *
    obtain ⟨ck, ckey, cf, ct, cn⟩ := c
    obtain ⟨key, ⟨wk, wt, wn, wp, wi, ws⟩, till⟩ := e
    simp only at hcn hoe ⊢
    have w1 : IntKind.i64.wrap (till - now) = till - now := IntWalk.i64_in _ (by omega)
    have w2 : IntKind.i64.wrap (1073741824 - now) = 1073741824 - now := IntWalk.i64_in _ (by omega)
    have hm : ∀ y : Ent, eR (l.set i y) = (eR l).set i y.row := fun y => by simp
    by_cases h1 : ck = 21
    · have q1 : (ck == 21) = true := by simpa using h1
      rw [if_pos h1]
      simp only [Cmd.c, Rep.c, toldR, List.map_nil]
      refine gcallc mixed Tryz.func137 ac_store_keyed_timed ?_
      repeat' (first | (with_reducible first | refine Cn (fun h => ?_) fun h => ?_ | refine And.intro ?_ ?_ | refine wR ?_ | exact wr _ _ | refine wa ?_ | apply awp_join) | (with_reducible refine CallZ.z ?_) | simp -dsimp [go_sem, he, Ent.row, q1, w1])
      all_goals first | omega | trace_state
    · have q1 : (ck == 21) = false := by simpa using h1
      rw [if_neg h1]
      by_cases h2 : cn < 1 ∨ 1073741824 - now < cn
      · rw [if_pos h2]
        simp only [Cmd.c, Rep.c, failR, List.map_nil]
        refine gcallc mixed Tryz.func137 ac_store_keyed_timed ?_
        repeat' (first | (with_reducible first | refine Cn (fun h => ?_) fun h => ?_ | refine And.intro ?_ ?_ | refine wR ?_ | exact wr _ _ | refine wa ?_ | apply awp_join) | (with_reducible refine CallZ.z ?_) | simp -dsimp [go_sem, he, Ent.row, q1, w2])
        all_goals first | omega | (exfalso; simp at *; omega) | trace_state
      · rw [if_neg h2]
        have w3 : IntKind.i64.wrap (now + cn) = now + cn := IntWalk.i64_in _ (by omega)
        have q2 : decide (cn < 1) = false := by simp; omega
        have q3 : decide (1073741824 - now < cn) = false := by simp; omega
        simp only [Cmd.c, Rep.c, toldR, List.map_nil, hm, Ent.row]
        refine gcallc mixed Tryz.func137 ac_store_keyed_timed ?_
        repeat' (first | (with_reducible first | refine Cn (fun h => ?_) fun h => ?_ | refine And.intro ?_ ?_ | refine wR ?_ | exact wr _ _ | refine wa ?_ | apply awp_join) | (with_reducible refine CallZ.z ?_) | simp -dsimp [go_sem, he, Ent.row, q1, q2, q3, w2, w3])
        all_goals first | omega | trace_state
abbrev dHp (now : Int) (c : Nat) (rows : List (List V)) : Hp := [some (.box 182 [.ptr 1 0]), some (.box 185 [iC now, .ar 2, iC 0, bC' false]), some (.arj 119 8 c rows)]
theorem goneE_c (now : Int) (c : Nat) (rows : List (List V)) (e : Ent) : DetCall Tryz.prog G 105 3 (dHp now c rows) [.agg e.c, .one (.ptr 0 0)] (bV (goneE now e)) (dHp now c rows) := by
  obtain ⟨key, ⟨wk, wt, wn, wp, wi, ws⟩, till⟩ := e
  unfold goneE
  simp only [Ent.c]
  refine gcallc mixed Tryz.func105 ac_store_Apply_1 ?_
  repeat' (first | (with_reducible first | refine Cn (fun h => ?_) fun h => ?_ | refine And.intro ?_ ?_ | refine wR ?_ | exact wr _ _ | refine wa ?_ | apply awp_join) | (with_reducible refine CallZ.z ?_) | simp -dsimp [go_sem])
  all_goals (simp_all; done)
theorem indexE_c (now : Int) (c : Nat) (l : List Ent) (hl : l.length ≤ 1000000) : DetCall Tryz.prog G 134 3 (dHp now c (eR l)) [.one (.sub 2 8 0 l.length c), .fn 105 [] [.ptr 0 0]] (iV (firstI (goneE now) 0 l)) (dHp now c (eR l)) := by
  have hen := en105
  refine gcallc mixed Tryz.func134 ac_slices_IndexFunc_api_Entry ?_
  repeat' (first | (with_reducible first | refine Cn (fun h => ?_) fun h => ?_ | refine And.intro ?_ ?_ | refine wR ?_ | exact wr _ _ | refine wa ?_ | apply awp_join) | (with_reducible refine CallZ.z ?_) | simp -dsimp [go_sem])
  refine awp_loop (fun i : Nat => ⟨[(0, .one (.sub 2 8 0 l.length c)), (1, .fn 105 [] [.ptr 0 0]), (7, iV l.length), (8, iV i)], G, dHp now c (eR l)⟩) (fun i => i ≤ l.length ∧ firstI (goneE now) 0 l = firstI (goneE now) i (l.drop i)) (fun i => l.length - i) 0 (weak_auto ?_) ⟨Nat.zero_le _, rfl⟩ ?_
  · simp -dsimp [go_sem]
  · rintro i ⟨hi, hx⟩
    rw [hx]
    by_cases hlt : i < l.length
    · obtain ⟨e, he⟩ : ∃ e, l[i]? = some e := ⟨_, List.getElem?_eq_getElem hlt⟩
      have hxe := (List.getElem?_eq_some_iff.1 he).2
      have hg := goneE_c (G := G) now c (eR l) e
      rw [firstI_drop _ l hlt, hxe]
      obtain ⟨b, hb⟩ : ∃ b, goneE now e = b := ⟨_, rfl⟩
      rw [hb] at hg ⊢
      have e4 : IntKind.i64.wrap ((i : Int) + 1) = (i : Int) + 1 := IntWalk.i64_in _ (by omega)
      have q1 : decide (i < l.length) = true := by simpa using hlt
      obtain ⟨key, ⟨wk, wt, wn, wp, wi, ws⟩, till⟩ := e
      simp only [Ent.c] at hg
      cases b with
      | true =>
        simp only [if_true]
        repeat' (first | (with_reducible first | refine Cn (fun h => ?_) fun h => ?_ | refine And.intro ?_ ?_ | refine wR ?_ | exact wr _ _ | refine wa ?_ | apply awp_join | refine qg hg ?_ | refine qgd hg ?_) | (with_reducible refine CallZ.z ?_) | simp -dsimp [go_sem, he, Ent.row, e4, q1, hen])
        all_goals first | omega | trace_state
      | false =>
        simp only [Bool.false_eq_true, if_false]
        repeat' (first | (with_reducible first | refine Cn (fun h => ?_) fun h => ?_ | refine And.intro ?_ ?_ | refine wR ?_ | exact wr _ _ | refine wa ?_ | apply awp_join | refine qg hg ?_ | refine qgd hg ?_) | (with_reducible refine CallZ.z ?_) | simp -dsimp [go_sem, he, Ent.row, e4, q1, hen])
        all_goals first
          | omega
          | (refine Again.auto (i + 1) ?_ ⟨hlt, rfl⟩ ?_
             · simp -dsimp [go_sem]
             · show l.length - (i + 1) < l.length - i; omega)
          | trace_state
    · have q1 : decide (i < l.length) = false := by simpa using hlt
      have hn : l.drop i = [] := List.drop_eq_nil_of_le (by omega)
      rw [hn]
      unfold firstI
      repeat' (first | (with_reducible first | refine Cn (fun h => ?_) fun h => ?_ | refine And.intro ?_ ?_ | refine wR ?_ | exact wr _ _ | refine wa ?_ | apply awp_join) | (with_reducible refine CallZ.z ?_) | simp -dsimp [go_sem, q1])
end Go.Proofs.YtpdcfljbabpakaaGreatDoor
