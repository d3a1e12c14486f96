/- What sameMachine answers. -/
import Derived.Test.YtmaiphnabebplaaGreatDoorCL7
set_option linter.unusedVariables false
set_option linter.unusedSimpArgs false
set_option maxRecDepth 100000
set_option maxHeartbeats 8000000
namespace Go.Proofs.YtmaiphnabebplaaGreatDoor
open Go Go.RowKit Go.Proofs.AE
variable {G : Nat → AV}
def repEq (a b : Rep) : Bool := a.code == b.code && decide (a.text = b.text) && a.n == b.n && decide (a.list = b.list)
theorem repEq_iff {a b : Rep} : repEq a b = true ↔ a = b := by
  obtain ⟨a1, a2, a3, a4⟩ := a; obtain ⟨b1, b2, b3, b4⟩ := b
  unfold repEq
  simp [and_assoc]
theorem repEq_self (a : Rep) : repEq a a = true := repEq_iff.2 rfl
theorem sameR_c (a b : Rep) (hl : a.list.length ≤ 1000) : PCall Tryz.prog G 19 [.agg a.c, .agg b.c] (bV (repEq a b)) := sameReply_c a b hl
theorem sameMachine_c (a b : Mach) (ha : a.sto.Small) (hr : ∀ x ∈ a.clis, x.reply.list.length ≤ 1000) (hl : a.clis.length ≤ 1000000) : PCall Tryz.prog G 20 [.agg a.c, .agg b.c] (bV (decide (a = b))) := by
  have hst := sameStore_c (G := G) a.sto b.sto ha
  obtain ⟨S, n, l⟩ := a
  obtain ⟨S', n', l'⟩ := b
  simp only at hr hl hst
  by_cases hk : n = n' ∧ S = S' ∧ l.length = l'.length
  · obtain ⟨rfl, rfl, hll⟩ := hk
    have hd : decide (Mach.mk S n l = Mach.mk S n l') = decide (l = l') := by simp
    rw [hd]
    rw [decide_eq_true (rfl : S = S)] at hst
    have q0 : ((l.length : Int) == l'.length) = true := by rw [beq_iff_eq]; omega
    obtain ⟨Sn, Se⟩ := S
    simp only [Mach.c, Sto.c] at hst ⊢
    refine pcallc mixed Tryz.func20 ac_rostrumkeep_sameMachine ?_
    repeat' (first | (with_reducible first | refine Cn (fun h => ?_) fun h => ?_ | refine And.intro ?_ ?_ | refine wR ?_ | exact wr _ _ | refine wa ?_ | apply awp_join | refine q hst ?_ | refine qd hst ?_ | refine qz hst ?_) | (with_reducible refine CallZ.z ?_) | simp -dsimp [go_sem, q0, hll])
    refine awp_loop (fun i : Nat => ⟨[(2, .one (.ptr 0 0)), (3, .one (.ptr 1 0)), (5, iV i)], G, [some (.box 32 [iC Sn, .v (.sl (eR Se)), iC n, .v (.sl (clR l))]), some (.box 32 [iC Sn, .v (.sl (eR Se)), iC n, .v (.sl (clR l'))])]⟩) (fun i => i ≤ l.length ∧ l.take i = l'.take i) (fun i => l.length - i) 0 (weak_auto ?_) ⟨Nat.zero_le _, rfl⟩ ?_
    · simp -dsimp [go_sem]
    · rintro i ⟨hi, hx⟩
      by_cases hlt : i < l.length
      · obtain ⟨x, hxa⟩ : ∃ x, l[i]? = some x := ⟨_, List.getElem?_eq_getElem hlt⟩
        obtain ⟨y, hyb⟩ : ∃ y, l'[i]? = some y := ⟨_, List.getElem?_eq_getElem (by omega)⟩
        have e4 : IntKind.i64.wrap ((i : Int) + 1) = (i : Int) + 1 := IntWalk.i64_in _ (by omega)
        have q1 : decide (i < l.length) = true := by simpa using hlt
        have hsr := sameR_c (G := G) x.reply y.reply (hr x (List.mem_of_getElem? hxa))
        by_cases hxy : x = y
        · subst hxy
          have hag := take_same hx hxa hyb rfl
          rw [repEq_self] at hsr
          obtain ⟨xi, xs, xt, ⟨xc, xx, xn, xl⟩⟩ := x
          simp only [Rep.c] at hsr
          repeat' (first | (with_reducible first | refine Cn (fun h => ?_) fun h => ?_ | refine And.intro ?_ ?_ | refine wR ?_ | exact wr _ _ | refine wa ?_ | apply awp_join | refine q hsr ?_ | refine qd hsr ?_ | refine qz hsr ?_) | (with_reducible refine CallZ.z ?_) | simp -dsimp [go_sem, hxa, hyb, Cli.row, e4, q1])
          all_goals first
            | omega
            | (refine Again.auto (i + 1) ?_ ⟨hlt, hag⟩ ?_
               · simp -dsimp [go_sem]
               · show l.length - (i + 1) < l.length - i; omega)
            | trace_state
        · have hne : ¬ l = l' := fun e => by subst e; rw [hxa] at hyb; exact hxy (Option.some.inj hyb)
          have hd : decide (l = l') = false := by simpa using hne
          rw [hd]
          obtain ⟨bb, hbb⟩ : ∃ bb, repEq x.reply y.reply = bb := ⟨_, rfl⟩
          have hor : (x.id == y.id) = false ∨ (x.seq == y.seq) = false ∨ (x.time == y.time) = false ∨ bb = false := by
            by_cases h1 : x.id = y.id
            · by_cases h2 : x.seq = y.seq
              · by_cases h3 : x.time = y.time
                · refine .inr (.inr (.inr ?_))
                  rw [← hbb]
                  cases hb : repEq x.reply y.reply with
                  | false => rfl
                  | true =>
                    have h4 := repEq_iff.1 hb
                    exfalso; apply hxy; obtain ⟨x1, x2, x3, x4⟩ := x; obtain ⟨y1, y2, y3, y4⟩ := y; simp at h1 h2 h3 h4; subst h1; subst h2; subst h3; subst h4; rfl
                · exact .inr (.inr (.inl (by simpa using h3)))
              · exact .inr (.inl (by simpa using h2))
            · exact .inl (by simpa using h1)
          rw [hbb] at hsr
          obtain ⟨xi, xs, xt, ⟨xc, xx, xn, xl⟩⟩ := x
          obtain ⟨yi, ys, yt, ⟨yc, yx, yn, yl⟩⟩ := y
          simp only at hor
          simp only [Rep.c] at hsr
          rcases hor with h | h | h | h
          · repeat' (first | (with_reducible first | refine Cn (fun h => ?_) fun h => ?_ | refine And.intro ?_ ?_ | refine wR ?_ | exact wr _ _ | refine wa ?_ | apply awp_join | refine q hsr ?_ | refine qd hsr ?_ | refine qz hsr ?_) | (with_reducible refine CallZ.z ?_) | simp -dsimp [go_sem, hxa, hyb, Cli.row, e4, q1, h])
            all_goals first | omega | simp_all
          · repeat' (first | (with_reducible first | refine Cn (fun h => ?_) fun h => ?_ | refine And.intro ?_ ?_ | refine wR ?_ | exact wr _ _ | refine wa ?_ | apply awp_join | refine q hsr ?_ | refine qd hsr ?_ | refine qz hsr ?_) | (with_reducible refine CallZ.z ?_) | simp -dsimp [go_sem, hxa, hyb, Cli.row, e4, q1, h])
            all_goals first | omega | simp_all
          · repeat' (first | (with_reducible first | refine Cn (fun h => ?_) fun h => ?_ | refine And.intro ?_ ?_ | refine wR ?_ | exact wr _ _ | refine wa ?_ | apply awp_join | refine q hsr ?_ | refine qd hsr ?_ | refine qz hsr ?_) | (with_reducible refine CallZ.z ?_) | simp -dsimp [go_sem, hxa, hyb, Cli.row, e4, q1, h])
            all_goals first | omega | simp_all
          · subst h
            repeat' (first | (with_reducible first | refine Cn (fun h => ?_) fun h => ?_ | refine And.intro ?_ ?_ | refine wR ?_ | exact wr _ _ | refine wa ?_ | apply awp_join | refine q hsr ?_ | refine qd hsr ?_ | refine qz hsr ?_) | (with_reducible refine CallZ.z ?_) | simp -dsimp [go_sem, hxa, hyb, Cli.row, e4, q1])
            all_goals omega
      · have q1 : decide (i < l.length) = false := by simpa using hlt
        have hab : l = l' := by
          rw [List.take_of_length_le (by omega), List.take_of_length_le (by omega)] at hx
          exact hx
        have hd : decide (l = l') = true := by simpa using hab
        rw [hd]
        repeat' (first | (with_reducible first | refine Cn (fun h => ?_) fun h => ?_ | refine And.intro ?_ ?_ | refine wR ?_ | exact wr _ _ | refine wa ?_ | apply awp_join) | (with_reducible refine CallZ.z ?_) | simp -dsimp [go_sem, q1])
  · have hd : decide (Mach.mk S n l = Mach.mk S' n' l') = false := by
      simp only [decide_eq_false_iff_not]
      intro h
      cases h
      exact hk ⟨rfl, rfl, rfl⟩
    rw [hd]
    obtain ⟨bs, hbs⟩ : ∃ bs, decide (S = S') = bs := ⟨_, rfl⟩
    rw [hbs] at hst
    have hor : (n == n') = false ∨ (n = n' ∧ bs = false) ∨ (n = n' ∧ bs = true ∧ ((l.length : Int) == l'.length) = false) := by
      by_cases h1 : n = n'
      · by_cases h2 : S = S'
        · refine .inr (.inr ⟨h1, by rw [← hbs]; simpa using h2, ?_⟩)
          rw [beq_eq_false_iff_ne]; intro h3; exact hk ⟨h1, h2, by omega⟩
        · exact .inr (.inl ⟨h1, by rw [← hbs]; simpa using h2⟩)
      · exact .inl (by simpa using h1)
    clear hbs hk
    obtain ⟨Sn, Se⟩ := S
    obtain ⟨Sn', Se'⟩ := S'
    simp only [Mach.c, Sto.c] at hst ⊢
    rcases hor with h | ⟨rfl, rfl⟩ | ⟨rfl, rfl, h⟩
    · refine pcallc mixed Tryz.func20 ac_rostrumkeep_sameMachine ?_
      repeat' (first | (with_reducible first | refine Cn (fun h => ?_) fun h => ?_ | refine And.intro ?_ ?_ | refine wR ?_ | exact wr _ _ | refine wa ?_ | apply awp_join | refine q hst ?_ | refine qd hst ?_ | refine qz hst ?_) | (with_reducible refine CallZ.z ?_) | simp -dsimp [go_sem, h])
      all_goals (exfalso; simp at *; omega)
    · refine pcallc mixed Tryz.func20 ac_rostrumkeep_sameMachine ?_
      repeat' (first | (with_reducible first | refine Cn (fun h => ?_) fun h => ?_ | refine And.intro ?_ ?_ | refine wR ?_ | exact wr _ _ | refine wa ?_ | apply awp_join | refine q hst ?_ | refine qd hst ?_ | refine qz hst ?_) | (with_reducible refine CallZ.z ?_) | simp -dsimp [go_sem])
      all_goals (exfalso; simp at *; omega)
    · refine pcallc mixed Tryz.func20 ac_rostrumkeep_sameMachine ?_
      repeat' (first | (with_reducible first | refine Cn (fun h => ?_) fun h => ?_ | refine And.intro ?_ ?_ | refine wR ?_ | exact wr _ _ | refine wa ?_ | apply awp_join | refine q hst ?_ | refine qd hst ?_ | refine qz hst ?_) | (with_reducible refine CallZ.z ?_) | simp -dsimp [go_sem, h])
      all_goals (exfalso; simp at *; omega)
theorem Inv.lists {k : Nat} {m : Mach} (h : Inv k m) : ∀ x ∈ m.clis, x.reply.list.length ≤ 1000 := fun x hx => by have := (checkR_iff.1 (h.ok.all x hx).reply).len; omega
theorem OkM.dom {m : Mach} (h : OkM m) : m.sto.Small ∧ m.clis.length ≤ 1000000 ∧ ∀ x ∈ m.clis, x.reply.list.length ≤ 1000 := ⟨h.sto.small, by have := h.len; omega, fun x hx => by have := (checkR_iff.1 (h.all x hx).reply).len; omega⟩
theorem sameSelf_c {m : Mach} (h : OkM m) : PCall Tryz.prog G 20 [.agg m.c, .agg m.c] (bV true) := by
  obtain ⟨f1, f2, f3⟩ := h.dom
  have := sameMachine_c (G := G) m m f1 f3 f2
  rwa [decide_eq_true rfl] at this
end Go.Proofs.YtmaiphnabebplaaGreatDoor
