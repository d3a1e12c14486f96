/- What the keep's helpers for stores answer. -/
import Derived.Test.YtmaiphnabebplaaA14
set_option linter.unusedVariables false
set_option linter.unusedSimpArgs false
set_option maxRecDepth 100000
set_option maxHeartbeats 8000000
namespace Go.Proofs.Ytmaiphnabebplaa
open Go Go.RowKit Go.Proofs.AE
variable {G : Nat → AV}
instance : DecidableEq Ent := fun a b => decidable_of_iff (a.key = b.key ∧ a.val = b.val ∧ a.till = b.till) (by cases a; cases b; simp)
instance : DecidableEq Sto := fun a b => decidable_of_iff (a.now = b.now ∧ a.ents = b.ents) (by cases a; cases b; simp)
/-- A frame without its stale cells. -/
def cleanF : List Nat → List (Nat × AV) → List (Nat × AV)
  | _, [] => []
  | seen, (t, v) :: r => bif memB t seen then cleanF seen r else (t, v) :: cleanF (t :: seen) r
theorem getF_cleanF : ∀ (fr : List (Nat × AV)) (seen : List Nat) (t : Nat), t ∉ seen → getF (cleanF seen fr) t = getF fr t
  | [], _, _, _ => rfl
  | (u, v) :: r, seen, t, h => by
    unfold cleanF
    cases hm : memB u seen with
    | true =>
      have hu : u ∈ seen := memB_iff.1 hm
      have hne : u ≠ t := fun e => h (e ▸ hu)
      simp only [cond_true]
      rw [getF_cleanF r seen t h]
      simp only [getF, hne, if_false]
    | false =>
      simp only [cond_false, getF]
      by_cases e : u = t
      · simp [e]
      · simp only [e, if_false]
        exact getF_cleanF r (u :: seen) t (by simp only [List.mem_cons, not_or]; exact ⟨fun h => e h.symm, h⟩)
theorem clean_nil (seen : List Nat) : cleanF seen [] = [] := rfl
def cleanS (b : Bool) (seen : List Nat) (t : Nat) (v : AV) (r : List (Nat × AV)) : List (Nat × AV) := bif b then cleanF seen r else (t, v) :: cleanF (t :: seen) r
theorem clean_cons {seen : List Nat} {t : Nat} {v : AV} {r : List (Nat × AV)} : cleanF seen ((t, v) :: r) = cleanS (memB t seen) seen t v r := rfl
theorem clean_yes {seen : List Nat} {t : Nat} {v : AV} {r : List (Nat × AV)} : cleanS true seen t v r = cleanF seen r := rfl
theorem clean_no {seen : List Nat} {t : Nat} {v : AV} {r : List (Nat × AV)} : cleanS false seen t v r = (t, v) :: cleanF (t :: seen) r := rfl
theorem weak_autoC {k : Nat} {s s' : S} (h : WA k s ⟨cleanF [] s'.fr, s'.gl, s'.hp⟩) : Weak k s s' := by
  refine Weak.trans (weak_auto h) ⟨rfl, fun n w ok μ a hst => ⟨ok, μ, ⟨hst.hr, hst.size, hst.defers, fun t => ?_, hst.gl⟩, (Go.Proofs.AE.Step.refl hst.hr).far⟩⟩
  have := hst.fr t
  rw [getF_cleanF _ _ _ (by simp)] at this
  exact this
def entO (x : Option Ent) : Ent := x.getD ⟨⟨#[]⟩, zeroV, 0⟩
theorem entry_c (s : Sto) (k : ByteArray) (hl : s.ents.length ≤ 1000) : PCall Try.prog G 21 [.agg s.c, sV k] (.tup [.agg (entO (getE s.ents k)).c, bV (getE s.ents k).isSome]) := by
  obtain ⟨now, l⟩ := s
  simp only at hl
  simp only [Sto.c]
  refine pcall mixed Try.func21 ok_rostrumkeep_entry rs_rostrumkeep_entry (by simp [Try.f21]) ?_
  unfold ac_rostrumkeep_entry
  repeat' (first | (with_reducible first | refine Cnd.intro (fun h => ?_) (fun h => ?_) | refine And.intro ?_ ?_ | refine Wk.refl ?_ | exact Weak.refl _ _ | refine weak_auto ?_ | apply awp_join) | (with_reducible refine CallZ.z ?_) | simp -dsimp [go_sem])
  refine awp_loop (fun i : Nat => ⟨[(1, sV k), (2, .one (.ptr 0 0)), (4, .one (.ptr 1 0)), (6, iV i)], G, [some (.box 29 [iC now, .v (.sl (eR l))]), some (.box 49 [sC ⟨#[]⟩, iC 0, sC ⟨#[]⟩, iC 0, .nil, .nil, .nil, iC 0])]⟩) (fun i => i ≤ l.length ∧ getE l k = getE (l.drop i) k) (fun i => l.length - i) 0 (weak_auto ?_) ⟨Nat.zero_le _, rfl⟩ ?_
  · simp -dsimp [go_sem]
  · rintro i ⟨hi, hx⟩
    rw [hx]
    by_cases hlt : i < l.length
    · obtain ⟨e, he⟩ : ∃ e, l[i]? = some e := ⟨_, List.getElem?_eq_getElem hlt⟩
      have e4 : IntKind.i64.wrap ((i : Int) + 1) = (i : Int) + 1 := IntWalk.i64_in _ (by omega)
      have q1 : decide (i < l.length) = true := by simpa using hlt
      have hd : l.drop i = e :: l.drop (i + 1) := by
        have hxe := (List.getElem?_eq_some_iff.1 he).2
        rw [← hxe]; exact List.drop_eq_getElem_cons hlt
      rw [hd]
      by_cases hk : e.key = k
      · have hg : getE (e :: l.drop (i + 1)) k = some e := by unfold getE; rw [List.find?_cons_of_pos]; simpa using hk
        rw [hg]
        obtain ⟨key, ⟨vk, vt, vn, vp, vi, vs⟩, till⟩ := e
        simp only at hk
        subst hk
        simp only [entO, Option.getD_some, Ent.c, Option.isSome_some]
        repeat' (first | (with_reducible first | refine Cnd.intro (fun h => ?_) (fun h => ?_) | refine And.intro ?_ ?_ | refine Wk.refl ?_ | exact Weak.refl _ _ | refine weak_auto ?_ | apply awp_join) | (with_reducible refine CallZ.z ?_) | simp -dsimp [go_sem, he, Ent.row, e4, q1])
        all_goals omega
      · have hg : getE (e :: l.drop (i + 1)) k = getE (l.drop (i + 1)) k := by unfold getE; rw [List.find?_cons_of_neg]; simpa using hk
        rw [hg]
        obtain ⟨key, ⟨vk, vt, vn, vp, vi, vs⟩, till⟩ := e
        simp only at hk
        have q2 : decide (key = k) = false := by simpa using hk
        repeat' (first | (with_reducible first | refine Cnd.intro (fun h => ?_) (fun h => ?_) | refine And.intro ?_ ?_ | refine Wk.refl ?_ | exact Weak.refl _ _ | refine weak_auto ?_ | apply awp_join) | (with_reducible refine CallZ.z ?_) | simp -dsimp [go_sem, he, Ent.row, e4, q1, q2])
        all_goals first
          | omega
          | (refine Again.auto (i + 1) ?_ ⟨hlt, rfl⟩ ?_
             · simp -dsimp [go_sem]
             · show l.length - (i + 1) < l.length - i; omega)
    · have q1 : decide (i < l.length) = false := by simpa using hlt
      have hn : l.drop i = [] := List.drop_eq_nil_of_le (by omega)
      rw [hn]
      have hg : getE [] k = none := rfl
      rw [hg]
      simp only [entO, Option.getD_none, Ent.c, Option.isSome_none, zeroV, List.map_nil]
      repeat' (first | (with_reducible first | refine Cnd.intro (fun h => ?_) (fun h => ?_) | refine And.intro ?_ ?_ | refine Wk.refl ?_ | exact Weak.refl _ _ | refine weak_auto ?_ | apply awp_join) | (with_reducible refine CallZ.z ?_) | simp -dsimp [go_sem, q1])
theorem sameStore_c (a b : Sto) (ha : a.Small) : PCall Try.prog G 25 [.agg a.c, .agg b.c] (bV (decide (a = b))) := by
  obtain ⟨n, l⟩ := a
  obtain ⟨n', l'⟩ := b
  obtain ⟨s1, s2⟩ := ha
  simp only at s1 s2
  simp only [Sto.c]
  by_cases hk : n = n' ∧ l.length = l'.length
  · obtain ⟨rfl, hll⟩ := hk
    have hd : decide (Sto.mk n l = Sto.mk n l') = decide (l = l') := by simp
    rw [hd]
    have q0 : ((l.length : Int) == l'.length) = true := by rw [beq_iff_eq]; omega
    refine pcall mixed Try.func25 ok_rostrumkeep_sameStore rs_rostrumkeep_sameStore (by simp [Try.f25]) ?_
    unfold ac_rostrumkeep_sameStore
    repeat' (first | (with_reducible first | refine Cnd.intro (fun h => ?_) (fun h => ?_) | refine And.intro ?_ ?_ | refine Wk.refl ?_ | exact Weak.refl _ _ | refine weak_auto ?_ | apply awp_join) | (with_reducible refine CallZ.z ?_) | simp -dsimp [go_sem, q0, hll])
    refine awp_loop (fun i : Nat => ⟨[(2, .one (.ptr 0 0)), (3, .one (.ptr 1 0)), (5, iV i)], G, [some (.box 29 [iC n, .v (.sl (eR l))]), some (.box 29 [iC n, .v (.sl (eR l'))])]⟩) (fun i => i ≤ l.length ∧ l.take i = l'.take i) (fun i => l.length - i) 0 (weak_auto ?_) ⟨Nat.zero_le _, rfl⟩ ?_
    · simp -dsimp [go_sem]
    · rintro i ⟨hi, hx⟩
      by_cases hlt : i < l.length
      · obtain ⟨x, hxa⟩ : ∃ x, l[i]? = some x := ⟨_, List.getElem?_eq_getElem hlt⟩
        obtain ⟨y, hyb⟩ : ∃ y, l'[i]? = some y := ⟨_, List.getElem?_eq_getElem (by omega)⟩
        have e4 : IntKind.i64.wrap ((i : Int) + 1) = (i : Int) + 1 := IntWalk.i64_in _ (by omega)
        have q1 : decide (i < l.length) = true := by simpa using hlt
        have hsv := sameValue_c (G := G) x.val y.val (s2 x (List.mem_of_getElem? hxa))
        by_cases hxy : x = y
        · subst hxy
          have hag := take_same hx hxa hyb rfl
          obtain ⟨key, ⟨vk, vt, vn, vp, vi, vs⟩, till⟩ := x
          simp only [Val.c, decide_true] at hsv
          repeat' (first | (with_reducible first | refine Cnd.intro (fun h => ?_) (fun h => ?_) | refine And.intro ?_ ?_ | refine Wk.refl ?_ | exact Weak.refl _ _ | refine weak_auto ?_ | apply awp_join) | ((try with_reducible refine CallZ.l ?_); with_reducible refine qcf (by first | exact hsv) ?_ ?_) | ((try with_reducible refine CallZ.l ?_); with_reducible refine qcn (by first | exact qkc hsv (by with_unfolding_all rfl)) ?_) | ((with_reducible refine qcz (by first | exact qkz hsv (by with_unfolding_all rfl)) ?_); intro zh1 zq1; (try simp -dsimp [go_sem] at zq1); obtain ⟨rfl⟩ := zq1) | (with_reducible refine CallZ.z ?_) | simp -dsimp [go_sem, hxa, hyb, Ent.row, e4, q1])
          all_goals first
            | omega
            | (refine Again.auto (i + 1) ?_ ⟨hlt, hag⟩ ?_
               · simp -dsimp [go_sem]
               · show l.length - (i + 1) < l.length - i; omega)
        · have hne : ¬ l = l' := fun e => by subst e; rw [hxa] at hyb; exact hxy (Option.some.inj hyb)
          have hd : decide (l = l') = false := by simpa using hne
          rw [hd]
          obtain ⟨bb, hbb⟩ : ∃ bb, decide (x.val = y.val) = bb := ⟨_, rfl⟩
          have hor : decide (x.key = y.key) = false ∨ (x.till == y.till) = false ∨ bb = false := by
            by_cases h1 : x.key = y.key
            · by_cases h2 : x.till = y.till
              · by_cases h3 : x.val = y.val
                · exfalso; apply hxy; cases x; cases y; simp at h1 h2 h3; subst h1; subst h2; subst h3; rfl
                · exact .inr (.inr (by rw [← hbb]; simpa using h3))
              · exact .inr (.inl (by simpa using h2))
            · exact .inl (by simpa using h1)
          rw [hbb] at hsv
          obtain ⟨key, ⟨vk, vt, vn, vp, vi, vs⟩, till⟩ := x
          obtain ⟨key', ⟨vk', vt', vn', vp', vi', vs'⟩, till'⟩ := y
          simp only at hor
          simp only [Val.c] at hsv
          rcases hor with h | h | h
          · repeat' (first | (with_reducible first | refine Cnd.intro (fun h => ?_) (fun h => ?_) | refine And.intro ?_ ?_ | refine Wk.refl ?_ | exact Weak.refl _ _ | refine weak_auto ?_ | apply awp_join) | ((try with_reducible refine CallZ.l ?_); with_reducible refine qcf (by first | exact hsv) ?_ ?_) | ((try with_reducible refine CallZ.l ?_); with_reducible refine qcn (by first | exact qkc hsv (by with_unfolding_all rfl)) ?_) | ((with_reducible refine qcz (by first | exact qkz hsv (by with_unfolding_all rfl)) ?_); intro zh1 zq1; (try simp -dsimp [go_sem] at zq1); obtain ⟨rfl⟩ := zq1) | (with_reducible refine CallZ.z ?_) | simp -dsimp [go_sem, hxa, hyb, Ent.row, e4, q1, h])
            all_goals first | omega | simp_all
          · repeat' (first | (with_reducible first | refine Cnd.intro (fun h => ?_) (fun h => ?_) | refine And.intro ?_ ?_ | refine Wk.refl ?_ | exact Weak.refl _ _ | refine weak_auto ?_ | apply awp_join) | ((try with_reducible refine CallZ.l ?_); with_reducible refine qcf (by first | exact hsv) ?_ ?_) | ((try with_reducible refine CallZ.l ?_); with_reducible refine qcn (by first | exact qkc hsv (by with_unfolding_all rfl)) ?_) | ((with_reducible refine qcz (by first | exact qkz hsv (by with_unfolding_all rfl)) ?_); intro zh1 zq1; (try simp -dsimp [go_sem] at zq1); obtain ⟨rfl⟩ := zq1) | (with_reducible refine CallZ.z ?_) | simp -dsimp [go_sem, hxa, hyb, Ent.row, e4, q1, h])
            all_goals first | omega | simp_all
          · subst h
            repeat' (first | (with_reducible first | refine Cnd.intro (fun h => ?_) (fun h => ?_) | refine And.intro ?_ ?_ | refine Wk.refl ?_ | exact Weak.refl _ _ | refine weak_auto ?_ | apply awp_join) | ((try with_reducible refine CallZ.l ?_); with_reducible refine qcf (by first | exact hsv) ?_ ?_) | ((try with_reducible refine CallZ.l ?_); with_reducible refine qcn (by first | exact qkc hsv (by with_unfolding_all rfl)) ?_) | ((with_reducible refine qcz (by first | exact qkz hsv (by with_unfolding_all rfl)) ?_); intro zh1 zq1; (try simp -dsimp [go_sem] at zq1); obtain ⟨rfl⟩ := zq1) | (with_reducible refine CallZ.z ?_) | simp -dsimp [go_sem, hxa, hyb, Ent.row, e4, q1])
            all_goals omega
      · have q1 : decide (i < l.length) = false := by simpa using hlt
        have hab : l = l' := by
          rw [List.take_of_length_le (by omega), List.take_of_length_le (by omega)] at hx
          exact hx
        have hd : decide (l = l') = true := by simpa using hab
        rw [hd]
        repeat' (first | (with_reducible first | refine Cnd.intro (fun h => ?_) (fun h => ?_) | refine And.intro ?_ ?_ | refine Wk.refl ?_ | exact Weak.refl _ _ | refine weak_auto ?_ | apply awp_join) | (with_reducible refine CallZ.z ?_) | simp -dsimp [go_sem, q1])
  · have hd : decide (Sto.mk n l = Sto.mk n' l') = false := by
      simp only [decide_eq_false_iff_not]
      intro h
      cases h
      exact hk ⟨rfl, rfl⟩
    rw [hd]
    by_cases hn : n = n'
    · subst hn
      have q0 : ((l.length : Int) == l'.length) = false := by rw [beq_eq_false_iff_ne]; intro h; exact hk ⟨rfl, by omega⟩
      refine pcall mixed Try.func25 ok_rostrumkeep_sameStore rs_rostrumkeep_sameStore (by simp [Try.f25]) ?_
      unfold ac_rostrumkeep_sameStore
      repeat' (first | (with_reducible first | refine Cnd.intro (fun h => ?_) (fun h => ?_) | refine And.intro ?_ ?_ | refine Wk.refl ?_ | exact Weak.refl _ _ | refine weak_auto ?_ | apply awp_join) | (with_reducible refine CallZ.z ?_) | simp -dsimp [go_sem, q0])
      all_goals (exfalso; simp at *; omega)
    · have q0 : (n == n') = false := by simpa using hn
      refine pcall mixed Try.func25 ok_rostrumkeep_sameStore rs_rostrumkeep_sameStore (by simp [Try.f25]) ?_
      unfold ac_rostrumkeep_sameStore
      repeat' (first | (with_reducible first | refine Cnd.intro (fun h => ?_) (fun h => ?_) | refine And.intro ?_ ?_ | refine Wk.refl ?_ | exact Weak.refl _ _ | refine weak_auto ?_ | apply awp_join) | (with_reducible refine CallZ.z ?_) | simp -dsimp [go_sem, q0])
      all_goals (exfalso; simp at *; omega)
theorem storeK_c (l : List Stp) (hl : ∀ x ∈ l, x.Ok) (hn : (l.length : Int) ≤ 9223372036854775807) : PCall Try.prog G 15 [.one (.v (.sl (l.map Stp.row)))] (.agg (storeV l).c) := by
  refine pcall mixed Try.func15 ok_rostrumkeep_Store rs_rostrumkeep_Store (by simp [Try.f15]) ?_
  unfold ac_rostrumkeep_Store
  repeat' (first | (with_reducible first | refine Cnd.intro (fun h => ?_) (fun h => ?_) | refine And.intro ?_ ?_ | refine Wk.refl ?_ | exact Weak.refl _ _ | refine weak_auto ?_ | apply awp_join) | (with_reducible refine CallZ.z ?_) | simp -dsimp [go_sem])
  refine awp_loop (fun i : Nat => ⟨[(0, .one (.v (.sl (l.map Stp.row)))), (2, .one (.ptr 0 0)), (3, .one (.ptr 1 0)), (4, iV (foldT (l.take i)).1), (5, iV i)], G, [some (.box 29 [iC 0, .nil]), some (.box 29 (foldT (l.take i)).2.c)]⟩) (fun i => i ≤ l.length ∧ i ≤ 40) (fun i => 40 - i) 0 (weak_auto ?_) ⟨Nat.zero_le _, by omega⟩ ?_
  · simp -dsimp [go_sem, foldT, zeroS, Sto.c]
  · rintro i ⟨hi, hi2⟩
    have ht : (l.take i).length ≤ 40 := by rw [List.length_take]; omega
    obtain ⟨g1, g2, g3, g4⟩ := foldT_ok (l.take i) (0, zeroS) (fun x hx => hl x (List.mem_of_mem_take hx)) (Int.le_refl _) (by show (0 : Int) + 11 * ((l.take i).length : Int) ≤ 1000000; omega) okT_zero (Int.le_refl _)
    change OkT (foldT (l.take i)).2 at g1
    change 0 ≤ (foldT (l.take i)).1 at g2
    change (foldT (l.take i)).1 ≤ 0 + 11 * ((l.take i).length : Int) at g3
    change (foldT (l.take i)).2.now ≤ (foldT (l.take i)).1 at g4
    have w1 : IntKind.i64.wrap ((i : Int) + 1) = (i : Int) + 1 := IntWalk.i64_in _ (by omega)
    by_cases hlt : i < l.length ∧ i < 40
    · obtain ⟨x, hx⟩ : ∃ x, l[i]? = some x := ⟨_, List.getElem?_eq_getElem hlt.1⟩
      have hok := hl x (List.mem_of_getElem? hx)
      have hp := pk_range (n := x.wait) (m := 12) (by omega)
      have hpk := picked_c (G := G) x.wait 12 hok.wait (by omega)
      have hcm := commandR_c (G := G) x.raw hok.raw
      have hsu := foldT_succ hx
      generalize foldT (l.take i) = q at *
      obtain ⟨now, s⟩ := q
      simp only at g1 g2 g3 g4
      obtain ⟨s', r, e1, e2, e3⟩ := apply_okT g1 (t := now + pk x.wait 12) (by omega) (by omega) (cmdR_ok hok.raw) (cmdR_key x.raw)
      have hap := apply_c (G := G) s (now + pk x.wait 12) (cmdR x.raw) g1.ok.small
      have hst : stepT (now, s) x = (now + pk x.wait 12, s') := by unfold stepT; rw [e1]; simp
      rw [hst] at hsu
      rw [e1] at hap
      have w2 : IntKind.i64.wrap (now + pk x.wait 12) = now + pk x.wait 12 := IntWalk.i64_in _ (by omega)
      have q1 : decide (i < l.length) = true := by simp; omega
      have q2 : decide ((i : Int) < 40) = true := by simp; omega
      generalize cmdR x.raw = c at *
      generalize pk x.wait 12 = p at *
      obtain ⟨⟨xk, xkey, xf, xn, xt⟩, xw⟩ := x
      obtain ⟨sn, sl⟩ := s
      obtain ⟨sn', sl'⟩ := s'
      simp only [ApA, Sto.c, Cmd.c, Rep.c] at hap hcm hpk ⊢
      repeat' (first | (with_reducible first | refine Cnd.intro (fun h => ?_) (fun h => ?_) | refine And.intro ?_ ?_ | refine Wk.refl ?_ | exact Weak.refl _ _ | refine weak_autoC ?_ | apply awp_join) | ((try with_reducible refine CallZ.l ?_); with_reducible refine qcf (by first | exact hpk | exact hcm | exact hap) ?_ ?_) | ((try with_reducible refine CallZ.l ?_); with_reducible refine qcn (by first | exact qkc hpk (by with_unfolding_all rfl) | exact qkc hcm (by with_unfolding_all rfl) | exact qkc hap (by with_unfolding_all rfl)) ?_) | ((with_reducible refine qcz (by first | exact qkz hpk (by with_unfolding_all rfl) | exact qkz hcm (by with_unfolding_all rfl) | exact qkz hap (by with_unfolding_all rfl)) ?_); intro zh1 zq1; (try simp -dsimp [go_sem] at zq1); obtain ⟨rfl⟩ := zq1) | (with_reducible refine CallZ.z ?_) | simp -dsimp [go_sem, hx, Stp.row, w1, w2, q1, q2, clean_nil, clean_cons, clean_yes, clean_no])
      all_goals first
        | omega
        | (refine Again.auto (i + 1) ?_ ⟨hlt.1, hlt.2⟩ ?_
           · simp -dsimp [go_sem, hsu, Sto.c]
           · show 40 - (i + 1) < 40 - i; omega)
        | trace_state
    · have hend : storeV l = (foldT (l.take i)).2 := by
        unfold storeV
        have ht : l.take 40 = l.take i := by
          by_cases h : i < l.length
          · rw [show i = 40 by omega]
          · rw [List.take_of_length_le (by omega), List.take_of_length_le (by omega)]
        rw [ht]
      rw [hend]
      generalize foldT (l.take i) = q at *
      obtain ⟨now, sn, sl⟩ := q
      simp only [Sto.c]
      by_cases h : i < l.length
      · have q1 : decide (i < l.length) = true := by simpa using h
        have q2 : decide ((i : Int) < 40) = false := by simp; omega
        repeat' (first | (with_reducible first | refine Cnd.intro (fun h => ?_) (fun h => ?_) | refine And.intro ?_ ?_ | refine Wk.refl ?_ | exact Weak.refl _ _ | refine weak_auto ?_ | apply awp_join) | (with_reducible refine CallZ.z ?_) | simp -dsimp [go_sem, q1, q2])
      · have q1 : decide (i < l.length) = false := by simpa using h
        repeat' (first | (with_reducible first | refine Cnd.intro (fun h => ?_) (fun h => ?_) | refine And.intro ?_ ?_ | refine Wk.refl ?_ | exact Weak.refl _ _ | refine weak_auto ?_ | apply awp_join) | (with_reducible refine CallZ.z ?_) | simp -dsimp [go_sem, q1])
end Go.Proofs.Ytmaiphnabebplaa
