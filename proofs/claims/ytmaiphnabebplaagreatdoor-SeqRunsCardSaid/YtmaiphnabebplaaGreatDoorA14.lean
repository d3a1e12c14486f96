/- What taking away what has run out answers. -/
import Derived.Test.YtmaiphnabebplaaGreatDoorA5
set_option linter.unusedVariables false
set_option linter.unusedSimpArgs false
set_option maxRecDepth 100000
set_option maxHeartbeats 8000000
namespace Go.Proofs.YtmaiphnabebplaaGreatDoor
open Go Go.RowKit Go.Proofs.AE
variable {G : Nat → AV}
theorem firstI_cases {α : Type} (p : α → Bool) : ∀ (l : List α) (i : Nat), (firstI p i l = -1 ∧ ∀ x ∈ l, p x = false) ∨ ∃ j x, firstI p i l = ((i + j : Nat) : Int) ∧ l[j]? = some x ∧ p x = true ∧ ∀ y ∈ l.take j, p y = false
  | [], i => .inl ⟨rfl, fun x h => by cases h⟩
  | a :: l, i => by
    unfold firstI
    cases h : p a with
    | true => exact .inr ⟨0, a, by simp, rfl, h, fun y hy => by simp at hy⟩
    | false =>
      simp only [Bool.false_eq_true, if_false]
      rcases firstI_cases p l (i + 1) with ⟨h1, h2⟩ | ⟨j, x, h1, h2, h3, h4⟩
      · exact .inl ⟨h1, fun x hx => by rcases List.mem_cons.1 hx with rfl | hx; exact h; exact h2 x hx⟩
      · exact .inr ⟨j + 1, x, by rw [h1]; congr 1; omega, by simpa using h2, h3, fun y hy => by
          rw [List.take_succ_cons] at hy
          rcases List.mem_cons.1 hy with rfl | hy
          · exact h
          · exact h4 y hy⟩
def keepE (now : Int) (l : List Ent) : List Ent := l.filter fun e => !goneE now e
theorem keepE_succ (now : Int) {l : List Ent} {j : Nat} {e : Ent} (h : l[j]? = some e) : keepE now (l.take (j + 1)) = if goneE now e = true then keepE now (l.take j) else keepE now (l.take j) ++ [e] := by
  unfold keepE
  rw [List.take_add_one, h, Option.toList_some, List.filter_append]
  cases hg : goneE now e <;> simp [hg]
/-- The array on the way: what stays ahead, what is not seen yet behind. -/
structure Way (now : Int) (l : List Ent) (j i : Nat) (rows : List (List V)) : Prop where
  len : rows.length = l.length
  le : j ≤ l.length
  lt : i < j
  many : i = (keepE now (l.take j)).length
  head : rows.take i = eR (keepE now (l.take j))
  tail : rows.drop j = eR (l.drop j)
  ul : UL 8 rows
theorem Way.at {now : Int} {l : List Ent} {j i : Nat} {rows : List (List V)} (h : Way now l j i rows) {e : Ent} (he : l[j]? = some e) : rows[j]? = some e.row := by
  have : (rows.drop j)[0]? = (eR (l.drop j))[0]? := by rw [h.tail]
  rw [List.getElem?_drop, List.getElem?_map, List.getElem?_drop] at this
  simpa [he] using this
theorem Way.skip {now : Int} {l : List Ent} {j i : Nat} {rows : List (List V)} (h : Way now l j i rows) {e : Ent} (he : l[j]? = some e) (hg : goneE now e = true) : Way now l (j + 1) i rows := by
  have hlt := lt_of_getElem? he
  have hk := keepE_succ now he
  rw [if_pos hg] at hk
  refine ⟨h.len, hlt, by have := h.lt; omega, by rw [hk]; exact h.many, by rw [hk]; exact h.head, ?_, h.ul⟩
  have : (rows.drop j).drop 1 = (eR (l.drop j)).drop 1 := by rw [h.tail]
  rw [List.drop_drop, ← List.map_drop, List.drop_drop] at this
  exact this
theorem Way.keep {now : Int} {l : List Ent} {j i : Nat} {rows : List (List V)} (h : Way now l j i rows) {e : Ent} (he : l[j]? = some e) (hg : goneE now e = false) : Way now l (j + 1) (i + 1) (rows.set i e.row) := by
  have hlt := lt_of_getElem? he
  have hk := keepE_succ now he
  rw [if_neg (by rw [hg]; simp)] at hk
  have hl := h.len
  have hij := h.lt
  refine ⟨by rw [List.length_set]; exact hl, hlt, by omega, by rw [hk, List.length_append, ← h.many]; rfl, ?_, ?_, ?_⟩
  · rw [hk]
    show List.take (i + 1) (rows.set i e.row) = List.map Ent.row (_ ++ [e])
    have hh : List.map Ent.row (keepE now (l.take j)) = rows.take i := h.head.symm
    rw [List.map_append, hh, List.take_add_one, List.getElem?_set_self (by omega)]
    simp only [Option.toList_some, List.map_cons, List.map_nil]
    congr 1
    rw [List.take_set_of_le (Nat.le_refl _)]
  · rw [List.drop_set_of_lt (by omega)]
    have : (rows.drop j).drop 1 = (eR (l.drop j)).drop 1 := by rw [h.tail]
    rw [List.drop_drop, ← List.map_drop, List.drop_drop] at this
    exact this
  · intro r hr
    rcases List.mem_or_eq_of_mem_set hr with hr | hr
    · exact h.ul r hr
    · rw [hr]; rfl
theorem keep_all {now : Int} {l : List Ent} (h : ∀ e ∈ l, goneE now e = false) : keepE now l = l := by
  unfold keepE
  rw [List.filter_eq_self]
  intro e he
  rw [h e he]; rfl
theorem way_first {now : Int} {l : List Ent} {j : Nat} {e : Ent} (he : l[j]? = some e) (hg : goneE now e = true) (hn : ∀ y ∈ l.take j, goneE now y = false) : Way now l (j + 1) j (eR l) := by
  have hlt := lt_of_getElem? he
  have hk := keepE_succ now he
  rw [if_pos hg, keep_all hn] at hk
  exact ⟨by simp, hlt, by omega, by rw [hk, List.length_take]; omega, by rw [hk]; exact List.map_take.symm, List.map_drop.symm, ul_e l⟩
theorem wr_clear {rows : List (List V)} {z : List V} {i n : Nat} (h : rows.length = n) (hi : i ≤ n) : (wrRows rows (List.replicate (n - i) z) i).take i = rows.take i := by
  unfold wrRows
  rw [List.append_assoc, List.take_append_of_le_length (by rw [List.length_take]; omega), List.take_take, Nat.min_self]
theorem wr_clear_len {rows : List (List V)} {z : List V} {i n : Nat} (h : rows.length = n) (hi : i ≤ n) : (wrRows rows (List.replicate (n - i) z) i).length = n := by
  rw [wr_len (by omega), List.length_replicate]; omega
theorem deleteE_c (now : Int) (l : List Ent) (hl : l.length ≤ 1000) :
    DetCall Tryz.prog G 38 2 [some (.box 78 [.ptr 1 0]), some (.box 81 [iC now, .ar 2, iC 0, bC' false]), some (.arr 88 8 (eR l))] [.one (.ar 2), .fn 39 [] [.ptr 0 0]]
      (.one (.ar 2)) [some (.box 78 [.ptr 1 0]), some (.box 81 [iC now, .any, iC 0, bC' false]), some (.arr 88 8 (eR (keepE now l)))] := by
  refine DetCall.arjAt (by decide) rfl fun c hc1 hc2 hul => ?_
  rw [List.length_map] at hc1 ⊢
  show DetCall Tryz.prog G _ 2 (dHp now c (eR l)) _ _ _
  have hc3 : c ≤ 9223372036854775807 := hc2
  have hen := en39
  have hidx := indexE_c (G := G) now c l (by omega)
  rcases firstI_cases (goneE now) l 0 with ⟨h1, h2⟩ | ⟨j0, e0, h1, h2, h3, h4⟩
  · rw [h1] at hidx
    rw [keep_all h2]
    refine gcallc mixed Tryz.func38 ac_slices_DeleteFunc_api_Entry ?_
    repeat' (first | (with_reducible first | refine Cn (fun h => ?_) fun h => ?_ | refine And.intro ?_ ?_ | refine wR ?_ | exact wr _ _ | refine wa ?_ | apply awp_join | refine qg hidx ?_ | refine qgd hidx ?_) | (with_reducible refine CallZ.z ?_) | simp -dsimp [go_sem])
    all_goals first | omega | exact (List.take_of_length_le (by simp)).symm
  · rw [h1, Nat.zero_add] at hidx
    have hlt := lt_of_getElem? h2
    have w0 : IntKind.i64.wrap ((j0 : Int) + 1) = (j0 : Int) + 1 := IntWalk.i64_in _ (by omega)
    have q0 : ((j0 : Int) == -1) = false := by rw [beq_eq_false_iff_ne]; omega
    refine gcallc mixed Tryz.func38 ac_slices_DeleteFunc_api_Entry ?_
    repeat' (first | (with_reducible first | refine Cn (fun h => ?_) fun h => ?_ | refine And.intro ?_ ?_ | refine wR ?_ | exact wr _ _ | refine wa ?_ | apply awp_join | refine qg hidx ?_ | refine qgd hidx ?_) | (with_reducible refine CallZ.z ?_) | simp -dsimp [go_sem, w0, q0])
    refine awp_loop (fun x : Nat × Nat × List (List V) => ⟨[(0, .one (.sub 2 8 0 l.length c)), (1, .fn 39 [] [.ptr 0 0]), (5, iV x.2.1), (6, iV x.1)], G, dHp now c x.2.2⟩) (fun x => Way now l x.1 x.2.1 x.2.2) (fun x => l.length - x.1) (j0 + 1, j0, eR l) (weak_auto ?_) (way_first h2 h3 h4) ?_
    · simp -dsimp [go_sem]
    · rintro ⟨j, i, rows⟩ hw
      simp only at hw
      have hwl := hw.len
      have hij := hw.lt
      have hjn := hw.le
      simp only
      by_cases hjl : j < l.length
      · obtain ⟨e, he⟩ : ∃ e, l[j]? = some e := ⟨_, List.getElem?_eq_getElem hjl⟩
        have hrow := hw.at he
        have hg := goneE_c (G := G) now c rows e
        have q1 : decide (j < l.length) = true := by simpa using hjl
        have w1 : IntKind.i64.wrap ((j : Int) + 1) = (j : Int) + 1 := IntWalk.i64_in _ (by omega)
        have w2 : IntKind.i64.wrap ((i : Int) + 1) = (i : Int) + 1 := IntWalk.i64_in _ (by omega)
        obtain ⟨b, hb⟩ : ∃ b, goneE now e = b := ⟨_, rfl⟩
        rw [hb] at hg
        cases b with
        | true =>
          have hw2 := hw.skip he hb
          obtain ⟨key, ⟨wk, wt, wn, wp, wi, ws⟩, till⟩ := e
          simp only [Ent.c, Ent.row] at hg hrow
          repeat' (first | (with_reducible first | refine Cn (fun h => ?_) fun h => ?_ | refine And.intro ?_ ?_ | refine wR ?_ | exact wr _ _ | refine wa ?_ | apply awp_join | refine qg hg ?_ | refine qgd hg ?_) | (with_reducible refine CallZ.z ?_) | simp -dsimp [go_sem, hrow, w1, w2, q1, hen, hwl])
          all_goals first
            | omega
            | (refine Again.auto (j + 1, i, rows) ?_ hw2 ?_
               · simp -dsimp [go_sem]
               · show l.length - (j + 1) < l.length - j; omega)
        | false =>
          have hw2 := hw.keep he hb
          obtain ⟨key, ⟨wk, wt, wn, wp, wi, ws⟩, till⟩ := e
          obtain ⟨rowi, hri⟩ : ∃ r, rows[i]? = some r := ⟨_, List.getElem?_eq_getElem (by omega)⟩
          simp only [Ent.c, Ent.row] at hg hrow hw2
          have hr8 : List.drop 8 rowi = [] := List.drop_eq_nil_of_le (by rw [hw.ul rowi (List.mem_of_getElem? hri)]; omega)
          repeat' (first | (with_reducible first | refine Cn (fun h => ?_) fun h => ?_ | refine And.intro ?_ ?_ | refine wR ?_ | exact wr _ _ | refine wa ?_ | apply awp_join | refine qg hg ?_ | refine qgd hg ?_) | (with_reducible refine CallZ.z ?_) | simp -dsimp [go_sem, hrow, hri, hr8, w1, w2, q1, hen, hwl])
          all_goals first
            | omega
            | (refine Again.auto (j + 1, i + 1, rows.set i [V.lit (.string key), V.lit (.int .i64 wk), V.lit (.string wt), V.lit (.int .i64 wn), V.sl (pR wp), V.sl (strRows wi), V.sl (sR ws), V.lit (.int .i64 till)]) ?_ hw2 ?_
               · simp -dsimp [go_sem]
               · show l.length - (j + 1) < l.length - j; omega)
      · have q1 : decide (j < l.length) = false := by simpa using hjl
        have hje : l.take j = l := List.take_of_length_le (by omega)
        have hhead := hw.head
        rw [hje] at hhead
        have hcl := fun z => wr_clear (rows := rows) (z := z) (i := i) hwl (by omega)
        have hcl2 := fun z => wr_clear_len (rows := rows) (z := z) (i := i) hwl (by omega)
        rw [← hhead]
        repeat' (first | (with_reducible first | refine Cn (fun h => ?_) fun h => ?_ | refine And.intro ?_ ?_ | refine wR ?_ | exact wr _ _ | refine wa ?_ | apply awp_join) | (with_reducible refine CallZ.z ?_) | simp -dsimp [go_sem, q1, hwl, hcl, hcl2])
        all_goals omega
theorem accK_succ {l : List Ent} {i : Nat} {e : Ent} (h : l[i]? = some e) : accR [] Ent.key l (i + 1) = accR [] Ent.key l i ++ [[V.lit (.string e.key)]] := accR_succ [] Ent.key l h
/-- All keys. -/
theorem do22_c (now a0 : Int) (t0 : Bool) (l : List Ent) (c : Cmd) (hk : c.kind = 22) (hl : l.length ≤ 1000) (hr : Rise l) :
    DetCall Tryz.prog G 40 1 (kHp now (eR l) a0 t0) [.one (.ptr 0 0), .agg c.c] (.agg (doE now l c).2.c) (kHp now (eR (doE now l c).1) (findE l c.key) (inE l c.key)) := by
  have hf := find_c (G := G) now a0 t0 l c.key (by omega) hr
  unfold doE
  rw [if_pos hk]
  obtain ⟨ck, ckey, cf, ct, cn⟩ := c
  simp only at hk hf
  subst hk
  simp only [Cmd.c, Rep.c]
  generalize findE l ckey = fi at *
  generalize inE l ckey = fb at *
  refine gcallc mixed Tryz.func40 ac_store_keyed_do ?_
  repeat' (first | (with_reducible first | refine Cn (fun h => ?_) fun h => ?_ | refine And.intro ?_ ?_ | refine wR ?_ | exact wr _ _ | refine wa ?_ | apply awp_join | refine qg hf ?_ | refine qgd hf ?_) | (with_reducible refine CallZ.z ?_) | simp -dsimp [go_sem])
  refine awp_loop (fun i : Nat => ⟨[(4, .one (.ptr 2 0)), (5, .one (.ptr 3 0)), (24, .one (.ar 1)), (25, iV l.length), (26, iV i)], G, [some (.box 81 [iC now, .ar 1, iC fi, bC' fb]), some (.arr 88 8 (eR l)), some (.box 37 [iC 0, sC ⟨#[]⟩, iC 0, .nil]), some (.box 37 [iC 0, sC ⟨#[]⟩, iC 0, .ar 4]), some (.arr 9 1 (accR [] Ent.key l i))]⟩) (fun i => i ≤ l.length) (fun i => l.length - i) 0 (Weak.trans (weak_thaw 4 3 9 1 rfl rfl (by omega)) (weak_auto ?_)) (Nat.zero_le _) ?_
  · simp -dsimp [go_sem, accR_zero]
  · intro i hi
    by_cases hlt : i < l.length
    · obtain ⟨e, he⟩ : ∃ e, l[i]? = some e := ⟨_, List.getElem?_eq_getElem hlt⟩
      have e4 : IntKind.i64.wrap ((i : Int) + 1) = (i : Int) + 1 := IntWalk.i64_in _ (by omega)
      have q1 : decide (i < l.length) = true := by simpa using hlt
      have hal := accR_len [] Ent.key l hi
      have hsu := accK_succ he
      simp only [List.length_nil, Nat.zero_add] at hal
      obtain ⟨key, ⟨vk, vt, vn, vp, vi, vs⟩, till⟩ := e
      simp only at hsu
      have hul1 : UL 1 [[V.lit (.string key)]] := fun r hr => by simp at hr; subst hr; rfl
      repeat' (first | (with_reducible first | refine Cn (fun h => ?_) fun h => ?_ | refine And.intro ?_ ?_ | refine wR ?_ | exact wr _ _ | refine wa ?_ | apply awp_join) | (with_reducible refine CallZ.z ?_) | simp -dsimp [go_sem, he, Ent.row, e4, q1, hal])
      all_goals first
        | omega
        | exact hul1
        | (refine Again.auto (i + 1) ?_ ?_ ?_
           · simp -dsimp [go_sem, hsu]
           · exact hlt
           · show l.length - (i + 1) < l.length - i; omega)
    · have q1 : decide (i < l.length) = false := by simpa using hlt
      have hn : accR [] Ent.key l i = strRows (l.map Ent.key) := by
        have : i = l.length := by omega
        rw [this, accR_all]
        simp
      rw [hn]
      repeat' (first | (with_reducible first | refine Cn (fun h => ?_) fun h => ?_ | refine And.intro ?_ ?_ | refine wR ?_ | exact wr _ _ | refine wa ?_ | apply awp_join) | (with_reducible refine CallZ.z ?_) | simp -dsimp [go_sem, q1])
      all_goals omega
/-- Deleting. -/
theorem do19_c (now a0 : Int) (t0 : Bool) (l : List Ent) (c : Cmd) (hk : c.kind = 19) (hl : l.length ≤ 1000) (hr : Rise l) :
    DetCall Tryz.prog G 40 1 (kHp now (eR l) a0 t0) [.one (.ptr 0 0), .agg c.c] (.agg (doE now l c).2.c) (kHp now (eR (doE now l c).1) (findE l c.key) (inE l c.key)) := by
  have hf := find_c (G := G) now a0 t0 l c.key (by omega) hr
  unfold doE
  rw [if_neg (by omega), if_pos hk]
  obtain ⟨ck, ckey, cf, ct, cn⟩ := c
  simp only at hk hf
  subst hk
  simp only [Cmd.c, Rep.c]
  cases hin : inE l ckey with
  | true =>
    obtain ⟨e, he, hke⟩ := inE_some hin
    have hrm := remove_c (G := G) now (findE l ckey) true l (lt_of_getElem? he) (by omega)
    rw [hin] at hf
    rw [if_pos rfl]
    generalize findE l ckey = fi at *
    simp only [toldR, List.map_nil]
    refine gcallc mixed Tryz.func40 ac_store_keyed_do ?_
    repeat' (first | (with_reducible first | refine Cn (fun h => ?_) fun h => ?_ | refine And.intro ?_ ?_ | refine wR ?_ | exact wr _ _ | refine wa ?_ | apply awp_join | refine qg hf ?_ | refine qgd hf ?_ | refine qg hrm ?_ | refine qgd hrm ?_) | (with_reducible refine CallZ.z ?_) | simp -dsimp [go_sem])
    all_goals omega
  | false =>
    rw [hin] at hf
    rw [if_neg (by simp)]
    generalize findE l ckey = fi at *
    simp only [toldR, List.map_nil]
    refine gcallc mixed Tryz.func40 ac_store_keyed_do ?_
    repeat' (first | (with_reducible first | refine Cn (fun h => ?_) fun h => ?_ | refine And.intro ?_ ?_ | refine wR ?_ | exact wr _ _ | refine wa ?_ | apply awp_join | refine qg hf ?_ | refine qgd hf ?_) | (with_reducible refine CallZ.z ?_) | simp -dsimp [go_sem])
    all_goals omega
/-- How long a key is there. -/
theorem do20_c (now a0 : Int) (t0 : Bool) (l : List Ent) (c : Cmd) (hk : c.kind = 20) (hl : l.length ≤ 1000) (hr : Rise l) (hn0 : 0 ≤ now) (hn1 : now ≤ 1073741824) (ha : ∀ e ∈ l, OkE now e) (hc : okCount c.n = true) :
    DetCall Tryz.prog G 40 1 (kHp now (eR l) a0 t0) [.one (.ptr 0 0), .agg c.c] (.agg (doE now l c).2.c) (kHp now (eR (doE now l c).1) (findE l c.key) (inE l c.key)) := by
  have hf := find_c (G := G) now a0 t0 l c.key (by omega) hr
  have ht := timed_c (G := G) now l c hl hn0 hn1 ha hc
  unfold doE
  rw [if_neg (by omega), if_neg (by omega), if_pos (by omega)]
  obtain ⟨ck, ckey, cf, ct, cn⟩ := c
  simp only at hk hf ht
  subst hk
  generalize timedE now l ⟨20, ckey, cf, ct, cn⟩ = q at *
  obtain ⟨q1, q2, q3, q4, q5⟩ := q
  simp only [Cmd.c, Rep.c] at ht ⊢
  generalize findE l ckey = fi at *
  generalize inE l ckey = fb at *
  refine gcallc mixed Tryz.func40 ac_store_keyed_do ?_
  repeat' (first | (with_reducible first | refine Cn (fun h => ?_) fun h => ?_ | refine And.intro ?_ ?_ | refine wR ?_ | exact wr _ _ | refine wa ?_ | apply awp_join | refine qg hf ?_ | refine qgd hf ?_ | refine qg ht ?_ | refine qgd ht ?_) | (with_reducible refine CallZ.z ?_) | simp -dsimp [go_sem])
  all_goals omega
theorem do21_c (now a0 : Int) (t0 : Bool) (l : List Ent) (c : Cmd) (hk : c.kind = 21) (hl : l.length ≤ 1000) (hr : Rise l) (hn0 : 0 ≤ now) (hn1 : now ≤ 1073741824) (ha : ∀ e ∈ l, OkE now e) (hc : okCount c.n = true) :
    DetCall Tryz.prog G 40 1 (kHp now (eR l) a0 t0) [.one (.ptr 0 0), .agg c.c] (.agg (doE now l c).2.c) (kHp now (eR (doE now l c).1) (findE l c.key) (inE l c.key)) := by
  have hf := find_c (G := G) now a0 t0 l c.key (by omega) hr
  have ht := timed_c (G := G) now l c hl hn0 hn1 ha hc
  unfold doE
  rw [if_neg (by omega), if_neg (by omega), if_pos (by omega)]
  obtain ⟨ck, ckey, cf, ct, cn⟩ := c
  simp only at hk hf ht
  subst hk
  generalize timedE now l ⟨21, ckey, cf, ct, cn⟩ = q at *
  obtain ⟨q1, q2, q3, q4, q5⟩ := q
  simp only [Cmd.c, Rep.c] at ht ⊢
  generalize findE l ckey = fi at *
  generalize inE l ckey = fb at *
  refine gcallc mixed Tryz.func40 ac_store_keyed_do ?_
  repeat' (first | (with_reducible first | refine Cn (fun h => ?_) fun h => ?_ | refine And.intro ?_ ?_ | refine wR ?_ | exact wr _ _ | refine wa ?_ | apply awp_join | refine qg hf ?_ | refine qgd hf ?_ | refine qg ht ?_ | refine qgd ht ?_) | (with_reducible refine CallZ.z ?_) | simp -dsimp [go_sem])
  all_goals omega
/-- A command of a value's. -/
theorem doVal_c (now a0 : Int) (t0 : Bool) (l : List Ent) (c : Cmd) (h1 : 1 ≤ c.kind) (h18 : c.kind ≤ 18) (hl : l.length ≤ 1000) (hr : Rise l) (ha : ∀ e ∈ l, OkE now e) :
    DetCall Tryz.prog G 40 1 (kHp now (eR l) a0 t0) [.one (.ptr 0 0), .agg c.c] (.agg (doE now l c).2.c) (kHp now (eR (doE now l c).1) (findE l c.key) (inE l c.key)) := by
  have hf := find_c (G := G) now a0 t0 l c.key (by omega) hr
  rw [show doE now l c = valE l c by unfold doE; rw [if_neg (by omega), if_neg (by omega), if_neg (by omega)]]
  have hold : (oldV l c).Small := by
    unfold oldV
    split
    · rename_i e he
      split at he
      · exact (ha e (List.mem_of_getElem? he)).val.small
      · cases he
    · exact zeroV_small
  have hd := Do_c (G := G) (oldV l c) c hold
  have hset := set_c (G := G) now l c (DoV (oldV l c) c).1 hl
  unfold valE
  have k1 : (c.kind == 22) = false := by rw [beq_eq_false_iff_ne]; omega
  have k2 : (c.kind == 19) = false := by rw [beq_eq_false_iff_ne]; omega
  have k3 : (c.kind == 20) = false := by rw [beq_eq_false_iff_ne]; omega
  have k4 : (c.kind == 21) = false := by rw [beq_eq_false_iff_ne]; omega
  obtain ⟨w, r, ee, hw⟩ : ∃ w r ee, DoV (oldV l c) c = (w, r, ee) := ⟨_, _, _, rfl⟩
  rw [hw] at hd hset ⊢
  simp only at hset ⊢
  cases hin : inE l c.key with
  | true =>
    obtain ⟨e, he, hke⟩ := inE_some hin
    have hlt := lt_of_getElem? he
    have ho : oldV l c = e.val := by unfold oldV; rw [hin, if_pos rfl, he]
    have hrm := remove_c (G := G) now (findE l c.key) true l hlt (by omega)
    rw [hin] at hf hset
    rw [ho] at hd
    obtain ⟨fi, hfi⟩ : ∃ fi, findE l c.key = fi := ⟨_, rfl⟩
    rw [hfi] at hf hset hrm he hlt ⊢
    obtain ⟨S, hS⟩ : ∃ S, setE l c w = S := ⟨_, rfl⟩
    rw [hS] at hset ⊢
    obtain ⟨ck, ckey, cf, ct, cn⟩ := c
    obtain ⟨key, ⟨wk, wt, wn, wp, wi, ws⟩, till⟩ := e
    obtain ⟨nk, nt, nn, np, ni, ns⟩ := w
    obtain ⟨rc, rt, rn, rl⟩ := r
    simp only at k1 k2 k3 k4
    simp only [DoA, Val.c, Cmd.c, Rep.c] at hd hset hf ⊢
    by_cases a1 : rc ≠ 0
    · have q1 : (rc != 0) = true := by simpa using a1
      rw [if_pos a1]
      refine gcallc mixed Tryz.func40 ac_store_keyed_do ?_
      repeat' (first | (with_reducible first | refine Cn (fun h => ?_) fun h => ?_ | refine And.intro ?_ ?_ | refine wR ?_ | exact wr _ _ | refine wa ?_ | apply awp_join | refine qg hf ?_ | refine qgd hf ?_ | refine q hd ?_ | refine qd hd ?_ | refine qz hd ?_) | (with_reducible refine CallZ.z ?_) | simp -dsimp [go_sem, he, Ent.row, k1, k2, k3, k4, q1])
      all_goals omega
    · have q1 : (rc != 0) = false := by simpa using a1
      rw [if_neg a1]
      by_cases a2 : nk = 0
      · have q2 : (nk == 0) = true := by simpa using a2
        rw [if_pos ⟨a2, trivial⟩]
        refine gcallc mixed Tryz.func40 ac_store_keyed_do ?_
        repeat' (first | (with_reducible first | refine Cn (fun h => ?_) fun h => ?_ | refine And.intro ?_ ?_ | refine wR ?_ | exact wr _ _ | refine wa ?_ | apply awp_join | refine qg hf ?_ | refine qgd hf ?_ | refine q hd ?_ | refine qd hd ?_ | refine qz hd ?_ | refine qg hrm ?_ | refine qgd hrm ?_) | (with_reducible refine CallZ.z ?_) | simp -dsimp [go_sem, he, Ent.row, k1, k2, k3, k4, q1, q2])
        all_goals omega
      · have q2 : (nk == 0) = false := by simpa using a2
        have q3 : (nk != 0) = true := by simpa using a2
        rw [if_neg (fun h => a2 h.1), if_neg (by simp), if_pos a2]
        refine gcallc mixed Tryz.func40 ac_store_keyed_do ?_
        repeat' (first | (with_reducible first | refine Cn (fun h => ?_) fun h => ?_ | refine And.intro ?_ ?_ | refine wR ?_ | exact wr _ _ | refine wa ?_ | apply awp_join | refine qg hf ?_ | refine qgd hf ?_ | refine q hd ?_ | refine qd hd ?_ | refine qz hd ?_ | refine qg hset ?_ | refine qgd hset ?_) | (with_reducible refine CallZ.z ?_) | simp -dsimp [go_sem, he, Ent.row, k1, k2, k3, k4, q1, q2, q3])
        all_goals omega
  | false =>
    have ho : oldV l c = zeroV := by unfold oldV; rw [hin]; rfl
    rw [hin] at hf hset
    rw [ho] at hd
    obtain ⟨fi, hfi⟩ : ∃ fi, findE l c.key = fi := ⟨_, rfl⟩
    rw [hfi] at hf hset ⊢
    obtain ⟨S, hS⟩ : ∃ S, setE l c w = S := ⟨_, rfl⟩
    rw [hS] at hset ⊢
    obtain ⟨ck, ckey, cf, ct, cn⟩ := c
    obtain ⟨nk, nt, nn, np, ni, ns⟩ := w
    obtain ⟨rc, rt, rn, rl⟩ := r
    simp only at k1 k2 k3 k4
    simp only [DoA, Val.c, Cmd.c, Rep.c, zeroV, List.map_nil] at hd hset hf ⊢
    by_cases a1 : rc ≠ 0
    · have q1 : (rc != 0) = true := by simpa using a1
      rw [if_pos a1]
      refine gcallc mixed Tryz.func40 ac_store_keyed_do ?_
      repeat' (first | (with_reducible first | refine Cn (fun h => ?_) fun h => ?_ | refine And.intro ?_ ?_ | refine wR ?_ | exact wr _ _ | refine wa ?_ | apply awp_join | refine qg hf ?_ | refine qgd hf ?_ | refine q hd ?_ | refine qd hd ?_ | refine qz hd ?_) | (with_reducible refine CallZ.z ?_) | simp -dsimp [go_sem, k1, k2, k3, k4, q1])
      all_goals omega
    · have q1 : (rc != 0) = false := by simpa using a1
      rw [if_neg a1, if_neg (by simp)]
      by_cases a3 : l.length = 12
      · have q3 : ((l.length : Int) == 12) = true := by rw [beq_iff_eq]; omega
        rw [if_pos (by simp [a3])]
        simp only [failR, List.map_nil]
        refine gcallc mixed Tryz.func40 ac_store_keyed_do ?_
        repeat' (first | (with_reducible first | refine Cn (fun h => ?_) fun h => ?_ | refine And.intro ?_ ?_ | refine wR ?_ | exact wr _ _ | refine wa ?_ | apply awp_join | refine qg hf ?_ | refine qgd hf ?_ | refine q hd ?_ | refine qd hd ?_ | refine qz hd ?_) | (with_reducible refine CallZ.z ?_) | simp -dsimp [go_sem, k1, k2, k3, k4, q1, q3])
        all_goals omega
      · have q3 : ((l.length : Int) == 12) = false := by rw [beq_eq_false_iff_ne]; omega
        rw [if_neg (by simp [a3])]
        by_cases a2 : nk ≠ 0
        · have q2 : (nk == 0) = false := by simpa using a2
          have q4 : (nk != 0) = true := by simpa using a2
          rw [if_pos a2]
          refine gcallc mixed Tryz.func40 ac_store_keyed_do ?_
          repeat' (first | (with_reducible first | refine Cn (fun h => ?_) fun h => ?_ | refine And.intro ?_ ?_ | refine wR ?_ | exact wr _ _ | refine wa ?_ | apply awp_join | refine qg hf ?_ | refine qgd hf ?_ | refine q hd ?_ | refine qd hd ?_ | refine qz hd ?_ | refine qg hset ?_ | refine qgd hset ?_) | (with_reducible refine CallZ.z ?_) | simp -dsimp [go_sem, k1, k2, k3, k4, q1, q2, q3, q4])
          all_goals omega
        · have q4 : (nk != 0) = false := by simpa using a2
          have q2 : (nk == 0) = true := by simpa using a2
          rw [if_neg a2]
          refine gcallc mixed Tryz.func40 ac_store_keyed_do ?_
          repeat' (first | (with_reducible first | refine Cn (fun h => ?_) fun h => ?_ | refine And.intro ?_ ?_ | refine wR ?_ | exact wr _ _ | refine wa ?_ | apply awp_join | refine qg hf ?_ | refine qgd hf ?_ | refine q hd ?_ | refine qd hd ?_ | refine qz hd ?_) | (with_reducible refine CallZ.z ?_) | simp -dsimp [go_sem, k1, k2, k3, k4, q1, q2, q3, q4])
          all_goals omega
abbrev ApA (q : Sto × Rep × Int) : AV := .tup [.agg q.1.c, .agg q.2.1.c, iV q.2.2]
theorem do_c (now a0 : Int) (t0 : Bool) (l : List Ent) (c : Cmd) (hc : checkC c = 0) (hl : l.length ≤ 1000) (hr : Rise l) (hn0 : 0 ≤ now) (hn1 : now ≤ 1073741824) (ha : ∀ e ∈ l, OkE now e) :
    DetCall Tryz.prog G 40 1 (kHp now (eR l) a0 t0) [.one (.ptr 0 0), .agg c.c] (.agg (doE now l c).2.c) (kHp now (eR (doE now l c).1) (findE l c.key) (inE l c.key)) := by
  obtain ⟨h1, h2, _, h4, _⟩ := checkC_facts hc
  by_cases k1 : c.kind ≤ 18
  · exact doVal_c now a0 t0 l c h1 k1 hl hr ha
  · by_cases k2 : c.kind = 19
    · exact do19_c now a0 t0 l c k2 hl hr
    · by_cases k3 : c.kind = 20
      · exact do20_c now a0 t0 l c k3 hl hr hn0 hn1 ha h4
      · by_cases k4 : c.kind = 21
        · exact do21_c now a0 t0 l c k4 hl hr hn0 hn1 ha h4
        · exact do22_c now a0 t0 l c (by omega) hl hr
theorem applyBad_c (s : Sto) (t : Int) (c : Cmd) (hs : s.Small) (h : checkS s ≠ 0 ∨ (t < 0 ∨ 1073741824 < t) ∨ checkC c ≠ 0) : PCall Tryz.prog G 21 [.agg s.c, iV t, .agg c.c] (ApA (ApplyS s t c)) := by
  have hcs := checkS_c (G := G) s hs
  have hcc := check_c (G := G) c.kind c.key c.field c.text c.n
  change PCall Tryz.prog G _ _ (iV (checkC c)) at hcc
  unfold ApplyS
  obtain ⟨e1, he1⟩ : ∃ e, checkS s = e := ⟨_, rfl⟩
  obtain ⟨e2, he2⟩ : ∃ e, checkC c = e := ⟨_, rfl⟩
  rw [he1] at hcs h ⊢
  rw [he2] at hcc h ⊢
  obtain ⟨now, l⟩ := s
  obtain ⟨ck, ckey, cf, ct, cn⟩ := c
  simp only [Sto.c, Cmd.c] at hcs hcc ⊢
  by_cases a1 : e1 ≠ 0
  · have q1 : (e1 != 0) = true := by simpa using a1
    rw [if_pos a1]
    simp only [ApA, Sto.c, Rep.c, toldR, zeroS, List.map_nil]
    refine pcallc mixed Tryz.func21 ac_store_Apply ?_
    repeat' (first | (with_reducible first | refine Cn (fun h => ?_) fun h => ?_ | refine And.intro ?_ ?_ | refine wR ?_ | exact wr _ _ | refine wa ?_ | apply awp_join | refine q hcs ?_ | refine qd hcs ?_ | refine qz hcs ?_) | (with_reducible refine CallZ.z ?_) | simp -dsimp [go_sem, q1])
  · have q1 : (e1 != 0) = false := by simpa using a1
    rw [if_neg a1]
    by_cases a2 : t < 0 ∨ 1073741824 < t
    · rw [if_pos a2]
      simp only [ApA, Sto.c, Rep.c, toldR, zeroS, List.map_nil]
      by_cases a4 : t < 0
      · have q2 : decide (t < 0) = true := by simpa using a4
        refine pcallc mixed Tryz.func21 ac_store_Apply ?_
        repeat' (first | (with_reducible first | refine Cn (fun h => ?_) fun h => ?_ | refine And.intro ?_ ?_ | refine wR ?_ | exact wr _ _ | refine wa ?_ | apply awp_join | refine q hcs ?_ | refine qd hcs ?_ | refine qz hcs ?_) | (with_reducible refine CallZ.z ?_) | simp -dsimp [go_sem, q1, q2])
      · have q2 : decide (t < 0) = false := by simpa using a4
        have q3 : decide (1073741824 < t) = true := by simp; omega
        refine pcallc mixed Tryz.func21 ac_store_Apply ?_
        repeat' (first | (with_reducible first | refine Cn (fun h => ?_) fun h => ?_ | refine And.intro ?_ ?_ | refine wR ?_ | exact wr _ _ | refine wa ?_ | apply awp_join | refine q hcs ?_ | refine qd hcs ?_ | refine qz hcs ?_) | (with_reducible refine CallZ.z ?_) | simp -dsimp [go_sem, q1, q2, q3])
    · rw [if_neg a2]
      have a3 : e2 ≠ 0 := (h.resolve_left a1).resolve_left a2
      rw [if_pos a3]
      have q2 : decide (t < 0) = false := by simp; omega
      have q3 : decide (1073741824 < t) = false := by simp; omega
      have q4 : (e2 != 0) = true := by simpa using a3
      simp only [ApA, Sto.c, Rep.c, toldR, zeroS, List.map_nil]
      refine pcallc mixed Tryz.func21 ac_store_Apply ?_
      repeat' (first | (with_reducible first | refine Cn (fun h => ?_) fun h => ?_ | refine And.intro ?_ ?_ | refine wR ?_ | exact wr _ _ | refine wa ?_ | apply awp_join | refine q hcs ?_ | refine qd hcs ?_ | refine qz hcs ?_ | refine q hcc ?_ | refine qd hcc ?_ | refine qz hcc ?_) | (with_reducible refine CallZ.z ?_) | simp -dsimp [go_sem, q1, q2, q3, q4])
theorem applyGood_c (s : Sto) (t : Int) (c : Cmd) (ok : OkS s) (h0 : 0 ≤ t) (h1 : t ≤ 1073741824) (hc : checkC c = 0) : PCall Tryz.prog G 21 [.agg s.c, iV t, .agg c.c] (ApA (ApplyS s t c)) := by
  have hcs := checkS_c (G := G) s ok.small
  rw [checkS_iff.2 ok] at hcs
  have hcc := check_c (G := G) c.kind c.key c.field c.text c.n
  change PCall Tryz.prog G _ _ (iV (checkC c)) at hcc
  rw [hc] at hcc
  obtain ⟨eA, okA⟩ := apply_ok ok h0 h1 hc
  rw [eA]
  have how := ownS_G (G := G) s ok.small
  obtain ⟨a1, a2, a3⟩ := alive_ok ok (maxI_le s.now t).1
  have hm := maxI_le s.now t
  have hmb : maxI s.now t ≤ 1073741824 := by have := ok.now; unfold maxI; split <;> omega
  have hdel := deleteE_c (G := G) (maxI s.now t) s.ents (by have := ok.len; omega)
  rw [show keepE (maxI s.now t) s.ents = aliveS (maxI s.now t) s from rfl] at hdel
  have hdo := do_c (G := G) (maxI s.now t) 0 false (aliveS (maxI s.now t) s) c hc (by omega) a1 (by have := ok.now; omega) hmb a2
  have how2 := ownS_C (G := G) ⟨maxI s.now t, (doE (maxI s.now t) (aliveS (maxI s.now t) s) c).1⟩ okA.small
  have hmx : (if s.now < t then t else s.now) = maxI s.now t := by unfold maxI; repeat' split <;> omega
  have hmx2 : (if t < s.now then s.now else t) = maxI s.now t := rfl
  have q2 : decide (t < 0) = false := by simp; omega
  have q3 : decide (1073741824 < t) = false := by simp; omega
  obtain ⟨Q, hQ⟩ : ∃ Q, doE (maxI s.now t) (aliveS (maxI s.now t) s) c = Q := ⟨_, rfl⟩
  rw [hQ] at hdo how2 ⊢
  generalize aliveS (maxI s.now t) s = L at *
  obtain ⟨M, hM⟩ : ∃ M, maxI s.now t = M := ⟨_, rfl⟩
  rw [hM] at hdel hdo how2 hmx hmx2 ⊢
  generalize findE L c.key = fi at *
  generalize inE L c.key = fb at *
  obtain ⟨now, l⟩ := s
  obtain ⟨ck, ckey, cf, ct, cn⟩ := c
  obtain ⟨l', rc, rt, rn, rl⟩ := Q
  simp only [Sto.c, Cmd.c, Rep.c, ApA] at hcs hcc how hdel hdo how2 hmx hmx2 ⊢
  refine pcallc mixed Tryz.func21 ac_store_Apply ?_
  repeat' (first | (with_reducible first | refine Cn (fun h => ?_) fun h => ?_ | refine And.intro ?_ ?_ | refine wR ?_ | exact wr _ _ | refine wa ?_ | apply awp_join | refine q hcs ?_ | refine qd hcs ?_ | refine qz hcs ?_ | refine q hcc ?_ | refine qd hcc ?_ | refine qz hcc ?_ | refine qg how ?_ | refine qgd how ?_ | refine qg hdel ?_ | refine qgd hdel ?_ | refine qg hdo ?_ | refine qgd hdo ?_ | refine q how2 ?_ | refine qd how2 ?_ | refine qz how2 ?_) | (with_reducible refine CallZ.z ?_) | simp -dsimp [go_sem, q2, q3, hmx, hmx2])
  all_goals trace_state
theorem apply_c (s : Sto) (t : Int) (c : Cmd) (hs : s.Small) : PCall Tryz.prog G 21 [.agg s.c, iV t, .agg c.c] (ApA (ApplyS s t c)) := by
  by_cases h : checkS s ≠ 0 ∨ (t < 0 ∨ 1073741824 < t) ∨ checkC c ≠ 0
  · exact applyBad_c s t c hs h
  · simp only [not_or, Classical.not_not] at h
    exact applyGood_c s t c (checkS_iff.1 h.1) (by omega) (by omega) h.2.2
end Go.Proofs.YtmaiphnabebplaaGreatDoor
