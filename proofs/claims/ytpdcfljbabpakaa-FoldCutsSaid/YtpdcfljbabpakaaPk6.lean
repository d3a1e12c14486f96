/- Texts joined: TI TJ TK WQ TL. -/
import Derived.Test.YtpdcfljbabpakaaPk5
import Derived.Test.YtpdcfljbabpakaaPk4
import Derived.Test.YtpdcfljbabpakaaPk3
/- Disks: what folding records answers. -/
set_option linter.unusedVariables false
set_option linter.unusedSimpArgs false
set_option maxRecDepth 100000
set_option maxHeartbeats 8000000
namespace Go.Proofs.Ytpdcfljbabpakaa
open Go Go.RowKit Go.Proofs.AE
variable {G : Nat → AV}
theorem cloneGItems_c (rows : List (List V)) (hu : UL 10 rows) (hx : rows.length ≤ 1000000) : DetCall Try.prog G 34 0 [] [.one (.v (.sl rows))] (.one (.ar 0)) [some (.arr 44 10 rows)] := by
  refine gcallc mixed Try.func34 ac_slices_Clone_api_Item ?_
  repeat' (first | (with_reducible first | refine Cn (fun h => ?_) fun h => ?_ | refine And.intro ?_ ?_ | refine wR ?_ | exact wr _ _ | refine wa ?_ | apply awp_join | refine q (cases q) ?_ | refine qd (cases q) ?_ | refine qz (cases q) ?_) | (intro q hq) | (with_reducible refine CallZ.z ?_) | simp -dsimp [go_sem])
  all_goals first | omega | exact hu _ ‹_› | trace_state
abbrev ptL6 := PartIs.of ac_tape_line [1, 1, 1, 0]
/-- Ahead of the new log, behind it. -/
abbrev stL6 (G : Nat → AV) (base bt p T : Int) (items : List Item) (xc : List C) : S :=
  ⟨[(24, bV false), (28, bV false), (27, iV (base + items.length + 1)), (26, iV (base + items.length)), (25, iV p), (18, bV false), (22, bV false), (21, iV base), (20, .one (.ptr 0 0)), (19, iV p), (10, iV 0), (9, iV T), (8, iV (base + items.length)), (17, iV 0), (16, iV T), (15, iV (base + items.length)), (12, .tup [iV (base + items.length), iV T, iV 0]), (14, .tup [iV (base + items.length), iV T, iV 0]), (13, .agg [iC base, iC bt, .v (.sl (items.map Item.row))]), (7, iV 0), (6, .one (.ptr 2 0)), (5, .one (.ptr 1 0)), (3, .one (.ptr 0 0)), (0, .agg [iC base, iC bt, .v (.sl (items.map Item.row))]), (1, iV p), (2, .agg xc)], G, [some (.box 50 [iC base, iC bt, .v (.sl (items.map Item.row))]), some (.box 44 xc), some (.box 50 [iC 0, iC 0, .nil])]⟩
abbrev stL7 (G : Nat → AV) (base bt : Int) (items : List Item) (k : Nat) (xr : List V) : S :=
  ⟨[(3, .one (.ptr 0 0)), (6, .one (.ptr 1 0)), (7, iV 0), (11, .one (.ptr 2 0))], G, [some (.box 50 [iC base, iC bt, .v (.sl (items.map Item.row))]), some (.box 50 [iC 0, iC 0, .nil]), some (.box 50 [iC base, iC bt, .v (.sl ((items.map Item.row).take k ++ [xr]))])]⟩
theorem line_r6_0 {base bt p T : Int} {items : List Item} {k : Nat} (x : Item) (hkl : k ≤ items.length) (hle : items.length ≤ 200) (e2 : IntKind.i64.wrap (p - base) = p - base) (e4 : IntKind.i64.wrap (p - base - 1) = (k : Int)) : AltOk Try.prog (codeOf ptL6) 0 (stL6 G base bt p T items (x.row.map .v)) (stL7 G base bt items k x.row) := by
  have hul : UL 10 ((items.map Item.row).take k) := ul_take (ul_rows _)
  have htl : ((items.map Item.row).take k).length = k := by simp; omega
  have hcl := cloneGItems_c (G := G) ((items.map Item.row).take k) hul (by omega)
  have hull : UL 10 (items.map Item.row) := ul_rows _
  have hll : (items.map Item.row).length = items.length := by simp
  obtain ⟨xt, xm, xn, xc, xs, xk, xa, xb, xd, xx⟩ := x
  unfold AltOk
  simp only [Item.row, List.map_cons, List.map_nil, stL6, stL7, codeOf, nthAlt, List.getD_cons_succ, List.getD_cons_zero] at *
  repeat' (first | (with_reducible first | refine Cn (fun h => ?_) fun h => ?_ | refine And.intro ?_ ?_ | refine wR ?_ | exact wr _ _ | refine weak_autoC ?_ | apply awp_join | refine qg hcl ?_ | refine qgd hcl ?_) | (with_reducible refine CallZ.z ?_) | simp -dsimp [go_sem, e2, e4, htl, hull, hul, hll, clean_nil, clean_cons, clean_yes, clean_no])
  all_goals first | omega | (simp [UL]; done) | trace_state
theorem line_r6_1 {base bt p T : Int} {items : List Item} {k : Nat} (x : Item) (hkl : k ≤ items.length) (hle : items.length ≤ 200) (e2 : IntKind.i64.wrap (p - base) = p - base) (e4 : IntKind.i64.wrap (p - base - 1) = (k : Int)) : AltOk Try.prog (codeOf ptL6) 1 (stL6 G base bt p T items (x.row.map .v)) (stL7 G base bt items k x.row) := by
  have hul : UL 10 ((items.map Item.row).take k) := ul_take (ul_rows _)
  have htl : ((items.map Item.row).take k).length = k := by simp; omega
  have hcl := cloneGItems_c (G := G) ((items.map Item.row).take k) hul (by omega)
  have hull : UL 10 (items.map Item.row) := ul_rows _
  have hll : (items.map Item.row).length = items.length := by simp
  obtain ⟨xt, xm, xn, xc, xs, xk, xa, xb, xd, xx⟩ := x
  unfold AltOk
  simp only [Item.row, List.map_cons, List.map_nil, stL6, stL7, codeOf, nthAlt, List.getD_cons_succ, List.getD_cons_zero] at *
  repeat' (first | (with_reducible first | refine Cn (fun h => ?_) fun h => ?_ | refine And.intro ?_ ?_ | refine wR ?_ | exact wr _ _ | refine weak_autoC ?_ | apply awp_join | refine qg hcl ?_ | refine qgd hcl ?_) | (with_reducible refine CallZ.z ?_) | simp -dsimp [go_sem, e2, e4, htl, hull, hul, hll, clean_nil, clean_cons, clean_yes, clean_no])
  all_goals first | omega | (simp [UL]; done) | trace_state
theorem line_r6_2 {base bt p T : Int} {items : List Item} {k : Nat} (x : Item) (hkl : k ≤ items.length) (hle : items.length ≤ 200) (e2 : IntKind.i64.wrap (p - base) = p - base) (e4 : IntKind.i64.wrap (p - base - 1) = (k : Int)) : AltOk Try.prog (codeOf ptL6) 2 (stL6 G base bt p T items (x.row.map .v)) (stL7 G base bt items k x.row) := by
  have hul : UL 10 ((items.map Item.row).take k) := ul_take (ul_rows _)
  have htl : ((items.map Item.row).take k).length = k := by simp; omega
  have hcl := cloneGItems_c (G := G) ((items.map Item.row).take k) hul (by omega)
  have hull : UL 10 (items.map Item.row) := ul_rows _
  have hll : (items.map Item.row).length = items.length := by simp
  obtain ⟨xt, xm, xn, xc, xs, xk, xa, xb, xd, xx⟩ := x
  unfold AltOk
  simp only [Item.row, List.map_cons, List.map_nil, stL6, stL7, codeOf, nthAlt, List.getD_cons_succ, List.getD_cons_zero] at *
  repeat' (first | (with_reducible first | refine Cn (fun h => ?_) fun h => ?_ | refine And.intro ?_ ?_ | refine wR ?_ | exact wr _ _ | refine weak_autoC ?_ | apply awp_join | refine qg hcl ?_ | refine qgd hcl ?_) | (with_reducible refine CallZ.z ?_) | simp -dsimp [go_sem, e2, e4, htl, hull, hul, hll, clean_nil, clean_cons, clean_yes, clean_no])
  all_goals first | omega | (simp [UL]; done) | trace_state
theorem line_r6_3 {base bt p T : Int} {items : List Item} {k : Nat} (x : Item) (hkl : k ≤ items.length) (hle : items.length ≤ 200) (e2 : IntKind.i64.wrap (p - base) = p - base) (e4 : IntKind.i64.wrap (p - base - 1) = (k : Int)) : AltOk Try.prog (codeOf ptL6) 3 (stL6 G base bt p T items (x.row.map .v)) (stL7 G base bt items k x.row) := by
  have hul : UL 10 ((items.map Item.row).take k) := ul_take (ul_rows _)
  have htl : ((items.map Item.row).take k).length = k := by simp; omega
  have hcl := cloneGItems_c (G := G) ((items.map Item.row).take k) hul (by omega)
  have hull : UL 10 (items.map Item.row) := ul_rows _
  have hll : (items.map Item.row).length = items.length := by simp
  obtain ⟨xt, xm, xn, xc, xs, xk, xa, xb, xd, xx⟩ := x
  unfold AltOk
  simp only [Item.row, List.map_cons, List.map_nil, stL6, stL7, codeOf, nthAlt, List.getD_cons_succ, List.getD_cons_zero] at *
  repeat' (first | (with_reducible first | refine Cn (fun h => ?_) fun h => ?_ | refine And.intro ?_ ?_ | refine wR ?_ | exact wr _ _ | refine weak_autoC ?_ | apply awp_join | refine qg hcl ?_ | refine qgd hcl ?_) | (with_reducible refine CallZ.z ?_) | simp -dsimp [go_sem, e2, e4, htl, hull, hul, hll, clean_nil, clean_cons, clean_yes, clean_no])
  all_goals first | omega | (simp [UL]; done) | trace_state
theorem line_r6_4 {base bt p T : Int} {items : List Item} {k : Nat} (x : Item) (hkl : k ≤ items.length) (hle : items.length ≤ 200) (e2 : IntKind.i64.wrap (p - base) = p - base) (e4 : IntKind.i64.wrap (p - base - 1) = (k : Int)) : AltOk Try.prog (codeOf ptL6) 4 (stL6 G base bt p T items (x.row.map .v)) (stL7 G base bt items k x.row) := by
  have hul : UL 10 ((items.map Item.row).take k) := ul_take (ul_rows _)
  have htl : ((items.map Item.row).take k).length = k := by simp; omega
  have hcl := cloneGItems_c (G := G) ((items.map Item.row).take k) hul (by omega)
  have hull : UL 10 (items.map Item.row) := ul_rows _
  have hll : (items.map Item.row).length = items.length := by simp
  obtain ⟨xt, xm, xn, xc, xs, xk, xa, xb, xd, xx⟩ := x
  unfold AltOk
  simp only [Item.row, List.map_cons, List.map_nil, stL6, stL7, codeOf, nthAlt, List.getD_cons_succ, List.getD_cons_zero] at *
  repeat' (first | (with_reducible first | refine Cn (fun h => ?_) fun h => ?_ | refine And.intro ?_ ?_ | refine wR ?_ | exact wr _ _ | refine weak_autoC ?_ | apply awp_join | refine qg hcl ?_ | refine qgd hcl ?_) | (with_reducible refine CallZ.z ?_) | simp -dsimp [go_sem, e2, e4, htl, hull, hul, hll, clean_nil, clean_cons, clean_yes, clean_no])
  all_goals first | omega | (simp [UL]; done) | trace_state
theorem line_r6_5 {base bt p T : Int} {items : List Item} {k : Nat} (x : Item) (hkl : k ≤ items.length) (hle : items.length ≤ 200) (e2 : IntKind.i64.wrap (p - base) = p - base) (e4 : IntKind.i64.wrap (p - base - 1) = (k : Int)) : AltOk Try.prog (codeOf ptL6) 5 (stL6 G base bt p T items (x.row.map .v)) (stL7 G base bt items k x.row) := by
  have hul : UL 10 ((items.map Item.row).take k) := ul_take (ul_rows _)
  have htl : ((items.map Item.row).take k).length = k := by simp; omega
  have hcl := cloneGItems_c (G := G) ((items.map Item.row).take k) hul (by omega)
  have hull : UL 10 (items.map Item.row) := ul_rows _
  have hll : (items.map Item.row).length = items.length := by simp
  obtain ⟨xt, xm, xn, xc, xs, xk, xa, xb, xd, xx⟩ := x
  unfold AltOk
  simp only [Item.row, List.map_cons, List.map_nil, stL6, stL7, codeOf, nthAlt, List.getD_cons_succ, List.getD_cons_zero] at *
  repeat' (first | (with_reducible first | refine Cn (fun h => ?_) fun h => ?_ | refine And.intro ?_ ?_ | refine wR ?_ | exact wr _ _ | refine weak_autoC ?_ | apply awp_join | refine qg hcl ?_ | refine qgd hcl ?_) | (with_reducible refine CallZ.z ?_) | simp -dsimp [go_sem, e2, e4, htl, hull, hul, hll, clean_nil, clean_cons, clean_yes, clean_no])
  all_goals first | omega | (simp [UL]; done) | trace_state
theorem line_r6_6 {base bt p T : Int} {items : List Item} {k : Nat} (x : Item) (hkl : k ≤ items.length) (hle : items.length ≤ 200) (e2 : IntKind.i64.wrap (p - base) = p - base) (e4 : IntKind.i64.wrap (p - base - 1) = (k : Int)) : AltOk Try.prog (codeOf ptL6) 6 (stL6 G base bt p T items (x.row.map .v)) (stL7 G base bt items k x.row) := by
  have hul : UL 10 ((items.map Item.row).take k) := ul_take (ul_rows _)
  have htl : ((items.map Item.row).take k).length = k := by simp; omega
  have hcl := cloneGItems_c (G := G) ((items.map Item.row).take k) hul (by omega)
  have hull : UL 10 (items.map Item.row) := ul_rows _
  have hll : (items.map Item.row).length = items.length := by simp
  obtain ⟨xt, xm, xn, xc, xs, xk, xa, xb, xd, xx⟩ := x
  unfold AltOk
  simp only [Item.row, List.map_cons, List.map_nil, stL6, stL7, codeOf, nthAlt, List.getD_cons_succ, List.getD_cons_zero] at *
  repeat' (first | (with_reducible first | refine Cn (fun h => ?_) fun h => ?_ | refine And.intro ?_ ?_ | refine wR ?_ | exact wr _ _ | refine weak_autoC ?_ | apply awp_join | refine qg hcl ?_ | refine qgd hcl ?_) | (with_reducible refine CallZ.z ?_) | simp -dsimp [go_sem, e2, e4, htl, hull, hul, hll, clean_nil, clean_cons, clean_yes, clean_no])
  all_goals first | omega | (simp [UL]; done) | trace_state
theorem line_r6_7 {base bt p T : Int} {items : List Item} {k : Nat} (x : Item) (hkl : k ≤ items.length) (hle : items.length ≤ 200) (e2 : IntKind.i64.wrap (p - base) = p - base) (e4 : IntKind.i64.wrap (p - base - 1) = (k : Int)) : AltOk Try.prog (codeOf ptL6) 7 (stL6 G base bt p T items (x.row.map .v)) (stL7 G base bt items k x.row) := by
  have hul : UL 10 ((items.map Item.row).take k) := ul_take (ul_rows _)
  have htl : ((items.map Item.row).take k).length = k := by simp; omega
  have hcl := cloneGItems_c (G := G) ((items.map Item.row).take k) hul (by omega)
  have hull : UL 10 (items.map Item.row) := ul_rows _
  have hll : (items.map Item.row).length = items.length := by simp
  obtain ⟨xt, xm, xn, xc, xs, xk, xa, xb, xd, xx⟩ := x
  unfold AltOk
  simp only [Item.row, List.map_cons, List.map_nil, stL6, stL7, codeOf, nthAlt, List.getD_cons_succ, List.getD_cons_zero] at *
  repeat' (first | (with_reducible first | refine Cn (fun h => ?_) fun h => ?_ | refine And.intro ?_ ?_ | refine wR ?_ | exact wr _ _ | refine weak_autoC ?_ | apply awp_join | refine qg hcl ?_ | refine qgd hcl ?_) | (with_reducible refine CallZ.z ?_) | simp -dsimp [go_sem, e2, e4, htl, hull, hul, hll, clean_nil, clean_cons, clean_yes, clean_no])
  all_goals first | omega | (simp [UL]; done) | trace_state
theorem line_r6 {base bt p T : Int} {items : List Item} {k : Nat} (x : Item) (hkl : k ≤ items.length) (hle : items.length ≤ 200) (e2 : IntKind.i64.wrap (p - base) = p - base) (e4 : IntKind.i64.wrap (p - base - 1) = (k : Int)) {Q : Exit → S → Prop} (hq : Q .normal (stL7 G base bt items k x.row)) : awp Try.prog 0 (codeOf ptL6) Q (stL6 G base bt p T items (x.row.map .v)) :=
  reg_of _ 8 rfl rfl ⟨line_r6_7 x hkl hle e2 e4, line_r6_6 x hkl hle e2 e4, line_r6_5 x hkl hle e2 e4, line_r6_4 x hkl hle e2 e4, line_r6_3 x hkl hle e2 e4, line_r6_2 x hkl hle e2 e4, line_r6_1 x hkl hle e2 e4, line_r6_0 x hkl hle e2 e4, trivial⟩ hq
theorem line_r6' {base bt p T : Int} {items : List Item} {k : Nat} (x : Item) (xr : List V) (hkl : k ≤ items.length) (hle : items.length ≤ 200) (e2 : IntKind.i64.wrap (p - base) = p - base) (e4 : IntKind.i64.wrap (p - base - 1) = (k : Int)) {xc : List C} (h1 : x.row.map .v = xc) (h2 : x.row = xr) {Q : Exit → S → Prop} (hq : Q .normal (stL7 G base bt items k xr)) : awp Try.prog 0 (codeOf ptL6) Q (stL6 G base bt p T items xc) := by
  subst h1; subst h2; exact line_r6 x hkl hle e2 e4 hq
theorem line_c (g : Lg) (p : Int) (x : Item) (h : g.check = 0) (hp : 1 ≤ p ∧ p ≤ 1048576) : PCall Try.prog G 32 [.agg g.c, iV p, .agg (x.row.map .v)] (.tup [.agg (lineD g p x).1.c, iV (lineD g p x).2]) := by
  obtain ⟨base, bt, items⟩ := g
  unfold Lg.check at h
  simp only at h
  have hla := lastGood_c (G := G) base bt items h
  have hir := last_c' base bt items h
  have e1 : IntKind.i64.wrap (base + items.length + 1) = base + items.length + 1 := IntWalk.i64_in _ (by omega)
  have e2 : IntKind.i64.wrap (p - base) = p - base := IntWalk.i64_in _ (by omega)
  have e3 : IntKind.i64.wrap (p - base - 1) = p - base - 1 := IntWalk.i64_in _ (by omega)
  unfold lineD
  simp only
  by_cases h1 : p ≤ base
  · rw [if_pos h1]
    have q1 : decide (p ≤ base) = true := decide_eq_true h1
    simp only [Lg.c, logC, Item.row, List.map_cons, List.map_nil] at *
    refine pcallc mixed Try.func32 ac_tape_line ?_
    repeat' (first | (with_reducible first | refine Cn (fun h => ?_) fun h => ?_ | refine And.intro ?_ ?_ | refine wR ?_ | exact wr _ _ | refine wa ?_ | apply awp_join | refine q hla ?_ | refine qd hla ?_ | refine qz hla ?_) | (with_reducible refine CallZ.z ?_) | simp -dsimp [go_sem, q1])
    all_goals trace_state
  · rw [if_neg h1]
    have q1 : decide (p ≤ base) = false := decide_eq_false h1
    by_cases h2 : base + items.length + 1 < p
    · rw [if_pos h2]
      have q2 : decide (base + (items.length : Int) + 1 < p) = true := decide_eq_true h2
      simp only [Lg.c, logC, Item.row, List.map_cons, List.map_nil] at *
      refine pcallc mixed Try.func32 ac_tape_line ?_
      repeat' (first | (with_reducible first | refine Cn (fun h => ?_) fun h => ?_ | refine And.intro ?_ ?_ | refine wR ?_ | exact wr _ _ | refine wa ?_ | apply awp_join | refine q hla ?_ | refine qd hla ?_ | refine qz hla ?_) | (with_reducible refine CallZ.z ?_) | simp -dsimp [go_sem, q1, q2, e1])
      all_goals trace_state
    · rw [if_neg h2]
      have q2 : decide (base + (items.length : Int) + 1 < p) = false := decide_eq_false h2
      obtain ⟨k, hk⟩ : ∃ k, (p - base - 1).toNat = k := ⟨_, rfl⟩
      rw [hk]
      have hk2 : p - base - 1 = (k : Int) := by omega
      have hkl : k ≤ items.length := by omega
      have e4 : IntKind.i64.wrap (p - base - 1) = (k : Int) := by rw [e3, hk2]
      have hck := checkLog_c (G := G) base bt (items.take k ++ [x]) (by simp; omega)
      generalize checkLog base bt (items.take k ++ [x]) = v at *
      have hrow : (items.take k ++ [x]).map Item.row = (items.map Item.row).take k ++ [x.row] := by simp
      have hkn : ((k : Nat) : Int).toNat = k := by simp
      clear hla
      have hla := lastGood_c (G := G) base bt items h
      by_cases hv : v ≠ 0
      · rw [if_pos hv]
        have q3 : (v != 0) = true := by simpa using hv
        simp only [Lg.c, logC] at *
        rw [hrow] at hck
        obtain ⟨xt, xm, xn, xc, xs, xk, xa, xb, xd, xx⟩ := x
        simp only [Item.row, List.map_cons, List.map_nil] at *
        refine pcallc mixed Try.func32 ac_tape_line ?_
        repeat' (first | (with_reducible first | refine line_r6' ⟨xt, xm, xn, xc, xs, xk, xa, xb, xd, xx⟩ [iL xt, iL xm, .lit (.bool xn), iL xc, iL xs, iL xk, sL xa, sL xb, sL xd, iL xx] hkl hir.2.2.1 e2 e4 (by with_unfolding_all rfl) (by with_unfolding_all rfl) ?_ | refine Cn (fun h => ?_) fun h => ?_ | refine And.intro ?_ ?_ | refine wR ?_ | exact wr _ _ | refine wa ?_ | apply awp_join | refine q hla ?_ | refine qd hla ?_ | refine qz hla ?_ | refine q hck ?_ | refine qd hck ?_ | refine qz hck ?_) | (with_reducible refine CallZ.z ?_) | simp -dsimp [go_sem, q1, q2, q3, e1])
        all_goals first | omega | (simp [UL]; done) | trace_state
      · rw [if_neg hv]
        have q3 : (v != 0) = false := by simpa using hv
        simp only [Lg.c, logC] at *
        rw [hrow] at hck ⊢
        obtain ⟨xt, xm, xn, xc, xs, xk, xa, xb, xd, xx⟩ := x
        simp only [Item.row, List.map_cons, List.map_nil] at *
        refine pcallc mixed Try.func32 ac_tape_line ?_
        repeat' (first | (with_reducible first | refine line_r6' ⟨xt, xm, xn, xc, xs, xk, xa, xb, xd, xx⟩ [iL xt, iL xm, .lit (.bool xn), iL xc, iL xs, iL xk, sL xa, sL xb, sL xd, iL xx] hkl hir.2.2.1 e2 e4 (by with_unfolding_all rfl) (by with_unfolding_all rfl) ?_ | refine Cn (fun h => ?_) fun h => ?_ | refine And.intro ?_ ?_ | refine wR ?_ | exact wr _ _ | refine wa ?_ | apply awp_join | refine q hla ?_ | refine qd hla ?_ | refine qz hla ?_ | refine q hck ?_ | refine qd hck ?_ | refine qz hck ?_) | (with_reducible refine CallZ.z ?_) | simp -dsimp [go_sem, q1, q2, q3, e1])
        all_goals first | omega | (simp [UL]; done) | trace_state
theorem rest_c (g : Lg) (i t : Int) (m : Mach) (h : g.check = 0) (hi : 1 ≤ i ∧ i ≤ 1048576) : PCall Try.prog G 33 [.agg g.c, .agg ([iC i, iC t] ++ m.c)] (.agg (restD g i t).c) := by
  obtain ⟨base, bt, items⟩ := g
  obtain ⟨⟨now, es⟩, next, cs⟩ := m
  unfold Lg.check at h
  simp only at h
  have hte := termGood_c (G := G) base bt items i h ⟨by omega, hi.2⟩
  unfold restD
  simp only
  by_cases h1 : termErr base items.length i = 0
  · have htr := trim_c (G := G) base bt items i h (by unfold i64; omega) h1
    rw [h1] at hte
    generalize termAt base bt items i = T at *
    simp only [Lg.c, logC, Mach.c, List.cons_append, List.nil_append] at *
    by_cases h2 : T = t
    · rw [if_pos ⟨h1, h2⟩]
      subst h2
      simp only
      refine pcallc mixed Try.func33 ac_tape_rest ?_
      repeat' (first | (with_reducible first | refine Cn (fun h => ?_) fun h => ?_ | refine And.intro ?_ ?_ | refine wR ?_ | exact wr _ _ | refine wa ?_ | apply awp_join | refine q hte ?_ | refine qd hte ?_ | refine qz hte ?_ | refine q htr ?_ | refine qd htr ?_ | refine qz htr ?_) | (with_reducible refine CallZ.z ?_) | simp -dsimp [go_sem])
      all_goals trace_state
    · rw [if_neg (fun h => h2 h.2)]
      have q1 : (T == t) = false := by simpa using h2
      refine pcallc mixed Try.func33 ac_tape_rest ?_
      repeat' (first | (with_reducible first | refine Cn (fun h => ?_) fun h => ?_ | refine And.intro ?_ ?_ | refine wR ?_ | exact wr _ _ | refine wa ?_ | apply awp_join | refine q hte ?_ | refine qd hte ?_ | refine qz hte ?_) | (with_reducible refine CallZ.z ?_) | simp -dsimp [go_sem, q1])
      all_goals trace_state
  · rw [if_neg (fun h => h1 h.1)]
    have q1 : (termErr base items.length i == 0) = false := by simpa using h1
    simp only [Lg.c, logC, Mach.c, List.cons_append, List.nil_append] at *
    refine pcallc mixed Try.func33 ac_tape_rest ?_
    repeat' (first | (with_reducible first | refine Cn (fun h => ?_) fun h => ?_ | refine And.intro ?_ ?_ | refine wR ?_ | exact wr _ _ | refine wa ?_ | apply awp_join | refine q hte ?_ | refine qd hte ?_ | refine qz hte ?_) | (with_reducible refine CallZ.z ?_) | simp -dsimp [go_sem, q1])
    all_goals trace_state
end Go.Proofs.Ytpdcfljbabpakaa

/- Disks: what Fold answers. -/
set_option linter.unusedVariables false
set_option linter.unusedSimpArgs false
set_option maxRecDepth 100000
set_option maxHeartbeats 8000000
namespace Go.Proofs.Ytpdcfljbabpakaa
open Go Go.RowKit Go.Proofs.AE
variable {G : Nat → AV}
theorem newM0_c : PCall Try.prog G 35 [] (.agg newM.c) := by
  simp only [newM, zeroS, Mach.c, List.map_nil]
  refine pcallc mixed Try.func35 ac_client_New ?_
  repeat' (first | (with_reducible first | refine Cn (fun h => ?_) fun h => ?_ | refine And.intro ?_ ?_ | refine wR ?_ | exact wr _ _ | refine wa ?_ | apply awp_join) | (with_reducible refine CallZ.z ?_) | simp -dsimp [go_sem])
theorem newD_c : PCall Try.prog G 11 [] (.agg newD.c) := by
  have h := newM0_c (G := G)
  simp only [newD, Dsk.c, newM, zeroS, zeroLg, Lg.c, logC, Mach.c, List.map_nil, List.cons_append, List.nil_append] at *
  refine pcallc mixed Try.func11 ac_tape_New ?_
  repeat' (first | (with_reducible first | refine Cn (fun h => ?_) fun h => ?_ | refine And.intro ?_ ?_ | refine wR ?_ | exact wr _ _ | refine wa ?_ | apply awp_join | refine q h ?_ | refine qd h ?_ | refine qz h ?_) | (with_reducible refine CallZ.z ?_) | simp -dsimp [go_sem])
  all_goals trace_state
abbrev dskC (term fr sidx sterm now : Int) (es : List Ent) (next : Int) (cs : List Cli) (base bt : Int) (items : List Item) : List C :=
  [iC term, iC fr, iC sidx, iC sterm, iC now, .v (.sl (eR es)), iC next, .v (.sl (clR cs)), iC base, iC bt, .v (.sl (items.map Item.row))]
def Rcd.Small (r : Rcd) : Prop := r.mach.sto.Small ∧ r.mach.clis.length ≤ 1000000
theorem foldGo_drop {d : Dsk} {l : List Rcd} {i : Nat} {r : Rcd} (h : l[i]? = some r) : foldGo d (l.drop i) = if (foldStep d r).2 ≠ 0 then foldStep d r else foldGo (foldStep d r).1 (l.drop (i + 1)) := by
  have hl := (List.getElem?_eq_some_iff.1 h).1
  have hx := (List.getElem?_eq_some_iff.1 h).2
  rw [List.drop_eq_getElem_cons hl, hx]
  rfl
theorem foldErr {d : Dsk} {r : Rcd} (h : (foldStep d r).2 ≠ 0) : (foldStep d r).1 = zeroD := by
  unfold foldStep at h ⊢
  split
  · rfl
  · rename_i h1
    rw [if_neg h1] at h
    split
    · rename_i h2; rw [if_pos h2] at h; exact absurd rfl h
    · rename_i h2
      rw [if_neg h2] at h
      split
      · rename_i h3
        rw [if_pos h3] at h
        split
        · rfl
        · rename_i h4; rw [if_neg h4] at h; exact absurd rfl h
      · rename_i h3
        rw [if_neg h3] at h
        split
        · rename_i h4; rw [if_pos h4] at h; exact absurd rfl h
        · rename_i h4; rw [if_neg h4] at h; exact absurd rfl h
/-- The state of the loop. -/
def fSt (G : Nat → AV) (rows : List (List V)) (n : Nat) (x : Nat × Dsk) : S :=
  ⟨[(2, .one (.ptr 0 0)), (3, iV 0), (4, .one (.ptr 1 0)), (13, .one (.v (.sl rows))), (14, iV n), (15, iV x.1)], G, [some (.box 52 [iC 0, iC 0, iC 0, iC 0, iC 0, .nil, iC 0, .nil, iC 0, iC 0, .nil]), some (.box 52 x.2.c)]⟩
theorem fold_c (l : List Rcd) (hs : ∀ r ∈ l, r.Small) (hn : (l.length : Int) ≤ 9223372036854775807) : PCall Try.prog G 10 [.one (.v (.sl (l.map Rcd.row)))] (.tup [.agg (foldD l).1.c, iV (foldD l).2]) := by
  have hnew := newD_c (G := G)
  have hlen : (l.map Rcd.row).length = l.length := by simp
  obtain ⟨rows, hrows⟩ : ∃ rows, l.map Rcd.row = rows := ⟨_, rfl⟩
  have hat : ∀ (i : Nat) r, l[i]? = some r → rows[i]? = some r.row := fun i r h => by rw [← hrows]; simp [h]
  rw [hrows] at hlen ⊢
  simp only [newD, Dsk.c, newM, zeroS, zeroLg, Lg.c, logC, Mach.c, List.map_nil, List.cons_append, List.nil_append] at hnew
  refine pcallc mixed Try.func10 ac_tape_Fold ?_
  repeat' (first | (with_reducible first | refine Cn (fun h => ?_) fun h => ?_ | refine And.intro ?_ ?_ | refine wR ?_ | exact wr _ _ | refine wa ?_ | apply awp_join | refine q hnew ?_ | refine qd hnew ?_ | refine qz hnew ?_) | (with_reducible refine CallZ.z ?_) | simp -dsimp [go_sem, hlen])
  refine awp_loop (fSt G rows l.length) (fun x => x.1 ≤ l.length ∧ foldD l = foldGo x.2 (l.drop x.1) ∧ OkD x.2) (fun x => l.length - x.1) (0, newD) (weak_auto ?_) ⟨Nat.zero_le _, rfl, newD_ok⟩ ?_
  · unfold fSt
    simp only [newD, Dsk.c, newM, zeroS, zeroLg, Lg.c, logC, Mach.c, List.map_nil, List.cons_append, List.nil_append]
    simp -dsimp [go_sem]
  · rintro ⟨i, d⟩ ⟨hi, hf, hd⟩
    simp only at hi hf hd
    clear hnew
    by_cases hil : i < l.length
    · obtain ⟨r, hx⟩ : ∃ r, l[i]? = some r := ⟨_, List.getElem?_eq_getElem hil⟩
      have hr := hat i r hx
      have hsm := hs r (List.mem_of_getElem? hx)
      have hck := checkRc_c (G := G) r hsm.1 hsm.2
      have q1 : decide (i < l.length) = true := decide_eq_true hil
      have w1 : IntKind.i64.wrap ((i : Int) + 1) = (i : Int) + 1 := IntWalk.i64_in _ (by omega)
      rw [foldGo_drop hx] at hf
      have hag : (foldStep d r).2 = 0 → foldD l = foldGo (foldStep d r).1 (l.drop (i + 1)) ∧ OkD (foldStep d r).1 := fun h => by
        rw [if_neg (by rw [h]; simp)] at hf
        exact ⟨hf, step_ok hd r h⟩
      by_cases hc : checkRc r ≠ 0
      · have he : foldStep d r = (zeroD, checkRc r) := by unfold foldStep; rw [if_pos hc]
        rw [he, if_pos hc] at hf
        rw [hf]
        have q2 : (checkRc r != 0) = true := by simpa using hc
        clear hag he hf hd
        generalize checkRc r = v at *
        obtain ⟨term, fr, sidx, sterm, ⟨⟨now, es⟩, next, cs⟩, ⟨base, bt, items⟩⟩ := d
        obtain ⟨k, t, f, ix, ⟨xt, xm, xn, xc, xs, xk, xa, xb, xd, xx⟩, si, st, ⟨⟨mn, me⟩, mx, mc⟩⟩ := r
        simp only [Rcd.c, Rcd.row, zeroD, zeroM, zeroS, zeroLg, Dsk.c, Lg.c, logC, Mach.c, List.map_nil, List.cons_append, List.nil_append] at *
        unfold fSt
        simp only [Dsk.c, Lg.c, logC, Mach.c, List.cons_append, List.nil_append]
        repeat' (first | (with_reducible first | refine Cn (fun h => ?_) fun h => ?_ | refine And.intro ?_ ?_ | refine wR ?_ | exact wr _ _ | refine weak_autoC ?_ | apply awp_join | refine q hck ?_ | refine qd hck ?_ | refine qz hck ?_) | (with_reducible refine CallZ.z ?_) | simp -dsimp [go_sem, hr, q1, q2, clean_nil, clean_cons, clean_yes, clean_no])
        all_goals trace_state
      · have hc0 := Classical.not_not.1 hc
        rw [hc0] at hck
        rcases rc_cases hc0 with ⟨t, f, rfl, _⟩ | ⟨ix, x, rfl, hix, _⟩ | ⟨si, st, m, rfl, hsi, hst, hm⟩
        · have he : foldStep d ⟨1, t, f, 0, zeroItem, 0, 0, zeroM⟩ = ({ d with term := t, fr := f }, 0) := by unfold foldStep; rw [if_neg hc, if_pos (show (1 : Int) = 1 from rfl)]
          obtain ⟨a1, a2⟩ := hag (by rw [he])
          rw [he] at a1 a2
          clear hag hf hd he
          obtain ⟨term, fr, sidx, sterm, ⟨⟨now, es⟩, next, cs⟩, ⟨base, bt, items⟩⟩ := d
          simp only [Rcd.c, Rcd.row, zeroItem, zeroM, zeroS, Mach.c, List.map_nil, List.cons_append, List.nil_append] at hck hr
          unfold fSt
          simp only [Dsk.c, Lg.c, logC, Mach.c, List.cons_append, List.nil_append]
          repeat' (first | (with_reducible first | refine Cn (fun h => ?_) fun h => ?_ | refine And.intro ?_ ?_ | refine wR ?_ | exact wr _ _ | refine weak_autoC ?_ | apply awp_join | refine q hck ?_ | refine qd hck ?_ | refine qz hck ?_) | (with_reducible refine CallZ.z ?_) | simp -dsimp [go_sem, hr, q1, w1, clean_nil, clean_cons, clean_yes, clean_no])
          all_goals first
            | (refine Again.auto (i + 1, ⟨t, f, sidx, sterm, ⟨⟨now, es⟩, next, cs⟩, ⟨base, bt, items⟩⟩) ?_ ⟨hil, a1, a2⟩ ?_
               · simp only [Dsk.c, Lg.c, logC, Mach.c, List.cons_append, List.nil_append]
                 simp -dsimp [go_sem]
               · show l.length - (i + 1) < l.length - i; omega)
            | trace_state
        · have hli := line_c (G := G) d.log ix x hd.log (by unfold okNumber at hix; simp at hix; omega)
          have he : foldStep d ⟨2, 0, 0, ix, x, 0, 0, zeroM⟩ = if (lineD d.log ix x).2 ≠ 0 then (zeroD, (lineD d.log ix x).2) else ({ d with log := (lineD d.log ix x).1 }, 0) := by
            unfold foldStep; rw [if_neg hc, if_neg (show ¬ (2 : Int) = 1 by omega), if_pos (show (2 : Int) = 2 from rfl)]
          rw [he] at hf hag
          clear he hc
          obtain ⟨term, fr, sidx, sterm, ⟨⟨now, es⟩, next, cs⟩, ⟨base, bt, items⟩⟩ := d
          simp only at hli hf hag
          generalize lineD ⟨base, bt, items⟩ ix x = q at *
          obtain ⟨⟨base', bt', items'⟩, v⟩ := q
          simp only at hli hf hag
          obtain ⟨xt, xm, xn, xc, xs, xk, xa, xb, xd, xx⟩ := x
          simp only [Rcd.c, Rcd.row, zeroM, zeroS, Mach.c, List.map_nil, List.cons_append, List.nil_append] at hck hr
          simp only [Lg.c, logC, Item.row, List.map_cons, List.map_nil] at hli
          by_cases hv : v ≠ 0
          · have q3 : (v != 0) = true := by simpa using hv
            rw [if_pos hv] at hf
            simp only at hf
            rw [if_pos hv] at hf
            rw [hf]
            clear hag hf hd
            simp only [zeroD, zeroM, zeroS, zeroLg, Dsk.c, Lg.c, logC, Mach.c, List.map_nil, List.cons_append, List.nil_append]
            unfold fSt
            simp only [Dsk.c, Lg.c, logC, Mach.c, List.cons_append, List.nil_append]
            repeat' (first | (with_reducible first | refine Cn (fun h => ?_) fun h => ?_ | refine And.intro ?_ ?_ | refine wR ?_ | exact wr _ _ | refine weak_autoC ?_ | apply awp_join | refine q hck ?_ | refine qd hck ?_ | refine qz hck ?_ | refine q hli ?_ | refine qd hli ?_ | refine qz hli ?_) | (with_reducible refine CallZ.z ?_) | simp -dsimp [go_sem, hr, q1, q3, clean_nil, clean_cons, clean_yes, clean_no])
            all_goals trace_state
          · have q3 : (v != 0) = false := by simpa using hv
            rw [if_neg hv] at hag
            obtain ⟨a1, a2⟩ := hag rfl
            clear hag hf hd
            unfold fSt
            simp only [Dsk.c, Lg.c, logC, Mach.c, List.cons_append, List.nil_append]
            repeat' (first | (with_reducible first | refine Cn (fun h => ?_) fun h => ?_ | refine And.intro ?_ ?_ | refine wR ?_ | exact wr _ _ | refine weak_autoC ?_ | apply awp_join | refine q hck ?_ | refine qd hck ?_ | refine qz hck ?_ | refine q hli ?_ | refine qd hli ?_ | refine qz hli ?_) | (with_reducible refine CallZ.z ?_) | simp -dsimp [go_sem, hr, q1, q3, w1, clean_nil, clean_cons, clean_yes, clean_no])
            all_goals first
              | (refine Again.auto (i + 1, ⟨term, fr, sidx, sterm, ⟨⟨now, es⟩, next, cs⟩, ⟨base', bt', items'⟩⟩) ?_ ⟨hil, a1, a2⟩ ?_
                 · simp only [Dsk.c, Lg.c, logC, Mach.c, List.cons_append, List.nil_append]
                   simp -dsimp [go_sem]
                 · show l.length - (i + 1) < l.length - i; omega)
              | trace_state
        · have hre := rest_c (G := G) d.log si st m hd.log (by unfold okNumber at hsi; simp at hsi; omega)
          have he : foldStep d ⟨3, 0, 0, 0, zeroItem, si, st, m⟩ = if d.sidx < si then ({ d with sidx := si, sterm := st, mach := m, log := restD d.log si st }, 0) else (d, 0) := by
            unfold foldStep; rw [if_neg hc, if_neg (show ¬ (3 : Int) = 1 by omega), if_neg (show ¬ (3 : Int) = 2 by omega)]
          rw [he] at hf hag
          clear he hc
          obtain ⟨term, fr, sidx, sterm, ⟨⟨now, es⟩, next, cs⟩, ⟨base, bt, items⟩⟩ := d
          obtain ⟨⟨mn, me⟩, mx, mc⟩ := m
          simp only at hre hf hag
          simp only [Rcd.c, Rcd.row, zeroItem, Mach.c, List.map_nil, List.cons_append, List.nil_append] at hck hr
          by_cases hv : sidx < si
          · have q3 : decide (sidx < si) = true := decide_eq_true hv
            rw [if_pos hv] at hag
            obtain ⟨a1, a2⟩ := hag rfl
            clear hag hf hd
            generalize restD ⟨base, bt, items⟩ si st = q at *
            obtain ⟨base', bt', items'⟩ := q
            simp only [Lg.c, logC, Mach.c, List.cons_append, List.nil_append] at hre
            unfold fSt
            simp only [Dsk.c, Lg.c, logC, Mach.c, List.cons_append, List.nil_append]
            repeat' (first | (with_reducible first | refine Cn (fun h => ?_) fun h => ?_ | refine And.intro ?_ ?_ | refine wR ?_ | exact wr _ _ | refine weak_autoC ?_ | apply awp_join | refine q hck ?_ | refine qd hck ?_ | refine qz hck ?_ | refine q hre ?_ | refine qd hre ?_ | refine qz hre ?_) | (with_reducible refine CallZ.z ?_) | simp -dsimp [go_sem, hr, q1, q3, w1, clean_nil, clean_cons, clean_yes, clean_no])
            all_goals first
              | (refine Again.auto (i + 1, ⟨term, fr, si, st, ⟨⟨mn, me⟩, mx, mc⟩, ⟨base', bt', items'⟩⟩) ?_ ⟨hil, a1, a2⟩ ?_
                 · simp only [Dsk.c, Lg.c, logC, Mach.c, List.cons_append, List.nil_append]
                   simp -dsimp [go_sem]
                 · show l.length - (i + 1) < l.length - i; omega)
              | trace_state
          · have q3 : decide (sidx < si) = false := decide_eq_false hv
            rw [if_neg hv] at hag
            obtain ⟨a1, a2⟩ := hag rfl
            clear hag hf hd hre
            unfold fSt
            simp only [Dsk.c, Lg.c, logC, Mach.c, List.cons_append, List.nil_append]
            repeat' (first | (with_reducible first | refine Cn (fun h => ?_) fun h => ?_ | refine And.intro ?_ ?_ | refine wR ?_ | exact wr _ _ | refine weak_autoC ?_ | apply awp_join | refine q hck ?_ | refine qd hck ?_ | refine qz hck ?_) | (with_reducible refine CallZ.z ?_) | simp -dsimp [go_sem, hr, q1, q3, w1, clean_nil, clean_cons, clean_yes, clean_no])
            all_goals first
              | (refine Again.auto (i + 1, ⟨term, fr, sidx, sterm, ⟨⟨now, es⟩, next, cs⟩, ⟨base, bt, items⟩⟩) ?_ ⟨hil, a1, a2⟩ ?_
                 · simp only [Dsk.c, Lg.c, logC, Mach.c, List.cons_append, List.nil_append]
                   simp -dsimp [go_sem]
                 · show l.length - (i + 1) < l.length - i; omega)
              | trace_state
    · have q1 : decide (i < l.length) = false := decide_eq_false hil
      have hn2 : l.drop i = [] := List.drop_eq_nil_of_le (by omega)
      rw [hn2] at hf
      simp only [foldGo] at hf
      rw [hf]
      have he := encode_c (G := G) d.mach hd.mach
      have hb := machB_len hd.mach
      have hde := decode_c (G := G) (machB d.mach)
      rw [decM_back hd.mach (by omega)] at hde
      have hul := ul_rows d.log.items
      have hll : (d.log.items.map Item.row).length ≤ 1000000 := by
        have := (checkLog_iff.1 hd.log).1; simp; omega
      have hcl := cloneItems_c (G := G) (d.log.items.map Item.row) hul hll
      obtain ⟨term, fr, sidx, sterm, ⟨⟨now, es⟩, next, cs⟩, ⟨base, bt, items⟩⟩ := d
      simp only at he hde hcl
      clear hf hd
      generalize machB ⟨⟨now, es⟩, next, cs⟩ = bs at *
      simp only [Mach.c] at he hde
      unfold fSt
      simp only [Dsk.c, Lg.c, logC, Mach.c, List.cons_append, List.nil_append]
      repeat' (first | (with_reducible first | refine Cn (fun h => ?_) fun h => ?_ | refine And.intro ?_ ?_ | refine wR ?_ | exact wr _ _ | refine wa ?_ | apply awp_join | refine q he ?_ | refine qd he ?_ | refine qz he ?_ | refine q hde ?_ | refine qd hde ?_ | refine qz hde ?_ | refine q hcl ?_ | refine qd hcl ?_ | refine qz hcl ?_) | (with_reducible refine CallZ.z ?_) | simp -dsimp [go_sem, q1])
      all_goals trace_state
end Go.Proofs.Ytpdcfljbabpakaa

/- The functions FoldLines, FoldMark answer true. -/
set_option linter.unusedVariables false
set_option linter.unusedSimpArgs false
set_option maxRecDepth 100000
set_option maxHeartbeats 8000000
namespace Go.Proofs.Ytpdcfljbabpakaa
open Go Go.RowKit Go.Proofs.AE
abbrev ac_rostrumkeep_FoldLines := CC.of Try.f4 []
abbrev ac_rostrumkeep_FoldMark := CC.of Try.f6 []
variable {G : Nat → AV}
theorem items_log (l : List Deed) (hd : ∀ d ∈ l, d.Ok) : checkLog 0 0 (itemsOf l 1) = 0 := by
  have h := made_ok l 0 hd
  have e : pk 0 12 = 0 := by decide
  unfold logBT logItems at h
  rw [e, if_pos rfl, if_pos rfl] at h
  exact h
theorem zeroM_small : (zeroM).sto.Small ∧ (zeroM).clis.length ≤ 1000000 := ⟨⟨by decide, fun e he => by cases he⟩, by decide⟩
theorem linesR_small (x : List Item) : ∀ r ∈ linesR x, r.Small := by
  intro r hr
  unfold linesR at hr
  rw [List.mem_mapIdx] at hr
  obtain ⟨i, hi, rfl⟩ := hr
  exact zeroM_small
theorem linesR_len (x : List Item) : (linesR x).length = x.length := by unfold linesR; simp
theorem rcd_ul (l : List Rcd) : UL 20 (l.map Rcd.row) := by
  intro r hr
  obtain ⟨y, _, rfl⟩ := List.mem_map.1 hr
  rfl
theorem lineRow (i : Nat) (x : Item) : (lineRc i x).row = [iL 2, iL 0, iL 0, iL ((i : Int) + 1), iL x.term, iL x.time, .lit (.bool x.nop), iL x.client, iL x.seq, iL x.k, sL x.key, sL x.field, sL x.text, iL x.n, iL 0, iL 0, iL 0, .sl [], iL 0, .sl []] := rfl
theorem linesR_succ {x : List Item} {i : Nat} {y : Item} (h : x[i]? = some y) : linesR (x.take (i + 1)) = linesR (x.take i) ++ [lineRc i y] := by
  have hi := (List.getElem?_eq_some_iff.1 h).1
  rw [List.take_add_one, h, Option.toList_some, linesR_snoc, List.length_take, Nat.min_eq_left (by omega)]
theorem newDc_c : PCall Try.prog G 11 [] (.agg [iC 0, iC (-1), iC 0, iC 0, iC 0, .v (.sl []), iC 1, .v (.sl []), iC 0, iC 0, .v (.sl [])]) := newD_c
theorem foldLines_c (l : List Deed) (hl : (l.length : Int) ≤ 9223372036854775807) (hd : ∀ d ∈ l, d.Ok) : PCall Try.prog G 4 [.one (.v (.sl (l.map Deed.row)))] (bV true) := by
  have hit := items_c (G := G) l 1 hl hd (by omega)
  have hlog := items_log l hd
  obtain ⟨hlen, _⟩ := log0_iff.1 hlog
  generalize itemsOf l 1 = xs at *
  have hfo := fold_c (G := G) (linesR xs) (linesR_small xs) (by rw [linesR_len]; omega)
  have hfd : foldD (linesR xs) = ({ newD with log := ⟨0, 0, xs⟩ }, 0) := fold_lines xs hlog
  rw [hfd] at hfo
  simp only [newD, Dsk.c, newM, zeroS, zeroLg, Lg.c, logC, Mach.c, List.map_nil, List.cons_append, List.nil_append] at hfo
  have hsa := sameItems_c (G := G) xs xs (by omega)
  have hne := newDc_c (G := G)
  have hxl : (xs.map Item.row).length = xs.length := by simp
  have hsd : decide (xs = xs) = true := by simp
  rw [hsd] at hsa
  refine pcallc mixed Try.func4 ac_rostrumkeep_FoldLines ?_
  repeat' (first | (with_reducible first | refine Cn (fun h => ?_) fun h => ?_ | refine And.intro ?_ ?_ | refine wR ?_ | exact wr _ _ | refine wa ?_ | apply awp_join | refine q hit ?_ | refine qd hit ?_ | refine qz hit ?_) | (with_reducible refine CallZ.z ?_) | simp -dsimp [go_sem, hxl])
  refine awp_loop (fun i : Nat => ⟨[(3, rowsV xs), (4, .one (.ar 0)), (5, iV i)], G, [some (.arr 48 20 ((linesR (xs.take i)).map Rcd.row))]⟩) (fun i => i ≤ xs.length) (fun i => xs.length - i) 0 (Weak.trans (weak_nil 4 48 20 ?_ (by omega)) (weak_auto ?_)) (Nat.zero_le _) ?_
  · simp -dsimp [go_sem]
  · simp -dsimp [go_sem, linesR]
  · intro i hi
    by_cases hil : i < xs.length
    · obtain ⟨y, hx⟩ : ∃ y, xs[i]? = some y := ⟨_, List.getElem?_eq_getElem hil⟩
      have hr : (xs.map Item.row)[i]? = some y.row := by simp [hx]
      have q1 : decide ((i : Int) < (xs.length : Int)) = true := decide_eq_true (by omega)
      have q2 : decide (i < xs.length) = true := decide_eq_true hil
      have w1 : IntKind.i64.wrap ((i : Int) + 1) = (i : Int) + 1 := IntWalk.i64_in _ (by omega)
      have hsu : (linesR (xs.take (i + 1))).map Rcd.row = (linesR (xs.take i)).map Rcd.row ++ [(lineRc i y).row] := by rw [linesR_succ hx, List.map_append]; rfl
      rw [lineRow] at hsu
      have hul := rcd_ul (linesR (xs.take i))
      have hrl : ((linesR (xs.take i)).map Rcd.row).length = i := by rw [List.length_map, linesR_len, List.length_take]; omega
      clear hit hfo hsa hne
      obtain ⟨xt, xm, xn, xc, xss, xk, xa, xb, xd, xx⟩ := y
      simp only [Item.row] at hr
      simp only at hsu
      generalize (linesR (xs.take i)).map Rcd.row = rows at *
      repeat' (first | (with_reducible first | refine Cn (fun h => ?_) fun h => ?_ | refine And.intro ?_ ?_ | refine wR ?_ | exact wr _ _ | refine wa ?_ | apply awp_join) | (with_reducible refine CallZ.z ?_) | simp -dsimp [go_sem, hr, q1, q2, w1, hul, hrl, hxl])
      all_goals first
        | omega
        | (simp [UL]; done)
        | (refine Again.auto (i + 1) ?_ hil ?_
           · simp -dsimp [go_sem, hsu]
           · show xs.length - (i + 1) < xs.length - i; omega)
        | trace_state
    · have hie : i = xs.length := by omega
      subst hie
      rw [List.take_length]
      have q2 : decide (xs.length < xs.length) = false := decide_eq_false (by omega)
      repeat' (first | (with_reducible first | refine Cn (fun h => ?_) fun h => ?_ | refine And.intro ?_ ?_ | refine wR ?_ | exact wr _ _ | refine wa ?_ | apply awp_join | refine q hfo ?_ | refine qd hfo ?_ | refine qz hfo ?_ | refine q hne ?_ | refine qd hne ?_ | refine qz hne ?_ | refine q hsa ?_ | refine qd hsa ?_ | refine qz hsa ?_) | (with_reducible refine CallZ.z ?_) | simp -dsimp [go_sem, q2, hxl])
      all_goals trace_state
/-! ### marks -/
def markOf (n : Int) : Rcd := markRc (1 + pk n 500) (pk n 4 - 1)
theorem mark_fold (l : List Int) : ∀ d : Dsk, d.log = zeroLg → foldGo d (l.map markOf) = ({ d with term := (match l.getLast? with | some n => 1 + pk n 500 | none => d.term), fr := (match l.getLast? with | some n => pk n 4 - 1 | none => d.fr) }, 0) := by
  induction l with
  | nil => intro d _; rfl
  | cons n l ih =>
    intro d hd
    have p1 := pk_range (n := n) (m := 500) (by omega)
    have p2 := pk_range (n := n) (m := 4) (by omega)
    have hs := mark_step (t := 1 + pk n 500) (f := pk n 4 - 1) (by omega) (by omega) d
    rw [List.map_cons]
    show (if (foldStep d (markOf n)).2 ≠ 0 then foldStep d (markOf n) else foldGo (foldStep d (markOf n)).1 (l.map markOf)) = _
    unfold markOf at hs ⊢
    rw [hs, if_neg (by simp)]
    have := ih { d with term := 1 + pk n 500, fr := pk n 4 - 1 } hd
    unfold markOf at this
    rw [this]
    cases l with
    | nil => rfl
    | cons m l => rw [List.getLast?_cons_cons]; simp [List.getLast?_cons]
theorem mark_last (l : List Int) : foldD (l.map markOf) = ({ newD with term := (match l.getLast? with | some n => 1 + pk n 500 | none => 0), fr := (match l.getLast? with | some n => pk n 4 - 1 | none => -1) }, 0) := mark_fold l newD rfl
def lastT5 (l : List Int) : Int := match l.getLast? with | some n => 1 + pk n 500 | none => 0
def lastF5 (l : List Int) : Int := match l.getLast? with | some n => pk n 4 - 1 | none => -1
theorem take_last {l : List Int} {i : Nat} {n : Int} (h : l[i]? = some n) : (l.take (i + 1)).getLast? = some n := by
  rw [List.take_add_one, h, Option.toList_some]; simp
theorem markRow (t f : Int) : (markRc t f).row = [iL 1, iL t, iL f, iL 0, iL 0, iL 0, .lit (.bool false), iL 0, iL 0, iL 0, sL ⟨#[]⟩, sL ⟨#[]⟩, sL ⟨#[]⟩, iL 0, iL 0, iL 0, iL 0, .sl [], iL 0, .sl []] := rfl
theorem marks_small (l : List Int) : ∀ r ∈ l.map markOf, r.Small := by
  intro r hr
  obtain ⟨n, _, rfl⟩ := List.mem_map.1 hr
  exact zeroM_small
def mkR (l : List Int) (i : Nat) : List (List V) := ((l.take i).map markOf).map Rcd.row
theorem mkR_zero (l : List Int) : mkR l 0 = [] := rfl
theorem foldMark_c (l : List Int) (hl : (l.length : Int) ≤ 9223372036854775807) (hd : ∀ n ∈ l, i64 n) : PCall Try.prog G 6 [.one (.v (.sl (l.map fun n => [iL n])))] (bV true) := by
  obtain ⟨rows0, hrows0⟩ : ∃ rows, (l.map fun n => [iL n]) = rows := ⟨_, rfl⟩
  have hlen : rows0.length = l.length := by rw [← hrows0]; simp
  have hat : ∀ (i : Nat) n, l[i]? = some n → rows0[i]? = some [iL n] := fun i n h => by rw [← hrows0]; simp [h]
  rw [hrows0]
  refine pcallc mixed Try.func6 ac_rostrumkeep_FoldMark ?_
  repeat' (first | (with_reducible first | refine Cn (fun h => ?_) fun h => ?_ | refine And.intro ?_ ?_ | refine wR ?_ | exact wr _ _ | refine wa ?_ | apply awp_join) | (with_reducible refine CallZ.z ?_) | simp -dsimp [go_sem])
  refine awp_loop (fun i : Nat => ⟨[(0, .one (.v (.sl rows0))), (3, .one (.ar 0)), (4, iV (lastT5 (l.take i))), (5, iV (lastF5 (l.take i))), (6, iV i)], G, [some (.arr 48 20 (mkR l i))]⟩) (fun i => i ≤ l.length ∧ i ≤ 20) (fun i => 20 - i) 0 (Weak.trans (weak_nil 3 48 20 ?_ (by omega)) (weak_auto ?_)) ⟨Nat.zero_le _, by omega⟩ ?_
  · simp -dsimp [go_sem]
  · simp -dsimp [go_sem, lastT5, lastF5, mkR_zero]
  · rintro i ⟨hi, hi2⟩
    by_cases hil : i < l.length ∧ i < 20
    · obtain ⟨n, hx⟩ : ∃ y, l[i]? = some y := ⟨_, List.getElem?_eq_getElem hil.1⟩
      have hr := hat i n hx
      have hn := hd n (List.mem_of_getElem? hx)
      have p1 := pk_range (n := n) (m := 500) (by omega)
      have p2 := pk_range (n := n) (m := 4) (by omega)
      have k1 := picked_c (G := G) n 500 hn (by omega)
      have k2 := picked_c (G := G) n 4 hn (by omega)
      have q1 : decide (i < l.length) = true := decide_eq_true hil.1
      have q2 : decide ((i : Int) < 20) = true := decide_eq_true (by omega)
      have w1 : IntKind.i64.wrap ((i : Int) + 1) = (i : Int) + 1 := IntWalk.i64_in _ (by omega)
      have w2 : IntKind.i64.wrap (1 + pk n 500) = 1 + pk n 500 := IntWalk.i64_in _ (by omega)
      have w3 : IntKind.i64.wrap (pk n 4 - 1) = pk n 4 - 1 := IntWalk.i64_in _ (by omega)
      have t1 : lastT5 (l.take (i + 1)) = 1 + pk n 500 := by unfold lastT5; rw [take_last hx]
      have t2 : lastF5 (l.take (i + 1)) = pk n 4 - 1 := by unfold lastF5; rw [take_last hx]
      have hsu : mkR l (i + 1) = mkR l i ++ [(markOf n).row] := by unfold mkR; rw [List.take_add_one, hx, Option.toList_some]; simp
      unfold markOf at hsu
      rw [markRow] at hsu
      have hul : UL 20 (mkR l i) := rcd_ul ((l.take i).map markOf)
      have hrl : (mkR l i).length = i := by unfold mkR; simp; omega
      repeat' (first | (with_reducible first | refine Cn (fun h => ?_) fun h => ?_ | refine And.intro ?_ ?_ | refine wR ?_ | exact wr _ _ | refine wa ?_ | apply awp_join | refine q k1 ?_ | refine qd k1 ?_ | refine qz k1 ?_ | refine q k2 ?_ | refine qd k2 ?_ | refine qz k2 ?_) | (with_reducible refine CallZ.z ?_) | simp -dsimp [go_sem, hr, q1, q2, w1, w2, w3, hul, hrl, hlen])
      all_goals first
        | omega
        | (simp [UL]; done)
        | (refine Again.auto (i + 1) ?_ ⟨hil.1, hil.2⟩ ?_
           · simp -dsimp [go_sem, hsu, t1, t2]
           · show 20 - (i + 1) < 20 - i; omega)
        | trace_state
    · have hfo := fold_c (G := G) ((l.take i).map markOf) (marks_small _) (by simp; omega)
      have hml := mark_last (l.take i)
      rw [hml] at hfo
      change PCall _ _ _ _ (.tup [.agg (Dsk.c { newD with term := lastT5 (l.take i), fr := lastF5 (l.take i) }), iV 0]) at hfo
      simp only [newD, Dsk.c, newM, zeroS, zeroLg, Lg.c, logC, Mach.c, List.map_nil, List.cons_append, List.nil_append] at hfo
      change PCall _ _ _ [.one (.v (.sl (mkR l i)))] _ at hfo
      generalize mkR l i = rows at *
      generalize lastT5 (l.take i) = T at *
      generalize lastF5 (l.take i) = F at *
      by_cases h : i < l.length
      · have q1 : decide (i < l.length) = true := decide_eq_true h
        have q2 : decide ((i : Int) < 20) = false := decide_eq_false (by omega)
        repeat' (first | (with_reducible first | refine Cn (fun h => ?_) fun h => ?_ | refine And.intro ?_ ?_ | refine wR ?_ | exact wr _ _ | refine wa ?_ | apply awp_join | refine q hfo ?_ | refine qd hfo ?_ | refine qz hfo ?_) | (with_reducible refine CallZ.z ?_) | simp -dsimp [go_sem, q1, q2, hlen])
        all_goals trace_state
      · have q1 : decide (i < l.length) = false := decide_eq_false h
        repeat' (first | (with_reducible first | refine Cn (fun h => ?_) fun h => ?_ | refine And.intro ?_ ?_ | refine wR ?_ | exact wr _ _ | refine wa ?_ | apply awp_join | refine q hfo ?_ | refine qd hfo ?_ | refine qz hfo ?_) | (with_reducible refine CallZ.z ?_) | simp -dsimp [go_sem, q1, hlen])
        all_goals trace_state
end Go.Proofs.Ytpdcfljbabpakaa

/- Raw commands and numbers from outside. -/
set_option linter.unusedVariables false
set_option linter.unusedSimpArgs false
set_option maxRecDepth 100000
set_option maxHeartbeats 8000000
namespace Go.Proofs.Ytpdcfljbabpakaa
open Go Go.RowKit Go.Proofs.AE
theorem raws_of : ∀ (rows : List (List V)), (∀ r ∈ rows, WT Try.prog 3 59 r) → ∃ rs : List Raw, rows = rs.map Raw.row ∧ ∀ r ∈ rs, r.Ok
  | [], _ => ⟨[], rfl, fun d h => by cases h⟩
  | r :: rows, h => by
    obtain ⟨rs, h1, h2⟩ := raws_of rows fun r hr => h r (List.mem_cons_of_mem _ hr)
    obtain ⟨kind, key, field, n, text, rfl, a, b, c, d, _⟩ := raw_wt (h r (List.mem_cons_self ..))
    refine ⟨⟨kind, key, field, n, text⟩ :: rs, by rw [h1]; rfl, fun x hx => ?_⟩
    rcases List.mem_cons.1 hx with rfl | hx
    · exact ⟨a, b, c, d⟩
    · exact h2 x hx
abbrev intRows (l : List Int) : List (List V) := l.map fun n => [V.lit (.int .i64 n)]
theorem ints_of : ∀ (rows : List (List V)), (∀ r ∈ rows, WT Try.prog 1 3 r) → ∃ ns : List Int, rows = intRows ns ∧ ∀ n ∈ ns, i64 n
  | [], _ => ⟨[], rfl, fun d h => by cases h⟩
  | r :: rows, h => by
    obtain ⟨ns, h1, h2⟩ := ints_of rows fun r hr => h r (List.mem_cons_of_mem _ hr)
    have hr := h r (List.mem_cons_self ..)
    simp [WT, ti3] at hr
    obtain ⟨x, rfl, wx⟩ := hr
    refine ⟨x :: ns, by rw [h1]; rfl, fun y hy => ?_⟩
    rcases List.mem_cons.1 hy with rfl | hy
    · exact wf_i64 wx
    · exact h2 y hy
end Go.Proofs.Ytpdcfljbabpakaa

/- The function FoldCuts answers true. -/
set_option linter.unusedVariables false
set_option linter.unusedSimpArgs false
set_option maxRecDepth 100000
set_option maxHeartbeats 8000000
namespace Go.Proofs.Ytpdcfljbabpakaa
open Go Go.RowKit Go.Proofs.AE
abbrev ac_rostrumkeep_FoldCuts := CC.of Try.f5 [(9, [([0, 1, 2, 3, 4, 5, 6, 7, 8, 9, 10, 11, 12, 13, 14], [(4, 1), (4, 12)]), ([0, 1, 2, 3, 4, 5, 6, 7, 12, 8, 9, 10, 11, 13, 14], [(4, 1), (4, 8)]), ([0, 1, 2, 3, 4, 5, 6, 12, 7, 8, 9, 10, 11, 13, 14], [(4, 1), (4, 7)]), ([0, 1, 2, 3, 4, 5, 12, 6, 7, 8, 9, 10, 11, 13, 14], [(4, 1), (4, 6)]), ([0, 2, 3, 4, 5, 6, 1, 7, 8, 9, 10, 11, 12, 13, 14], [(3, 6), (3, 12)]), ([0, 2, 3, 4, 5, 6, 1, 7, 12, 8, 9, 10, 11, 13, 14], [(3, 6), (3, 8)]), ([0, 2, 3, 4, 5, 6, 1, 12, 7, 8, 9, 10, 11, 13, 14], [(3, 6), (3, 7)]), ([0, 2, 3, 4, 5, 6, 12, 1, 7, 8, 9, 10, 11, 13, 14], [(3, 6), (3, 7)]), ([0, 2, 3, 4, 5, 12, 1, 6, 7, 8, 9, 10, 11, 13, 14], [(3, 5), (3, 6)]), ([0, 2, 3, 4, 5, 12, 6, 1, 7, 8, 9, 10, 11, 13, 14], [(3, 5), (3, 7)])]), (10, [([0, 1, 2, 3, 4, 5, 6, 7, 8, 9, 10, 11, 12, 13, 14, 15], [(3, 1), (3, 13), (5, 1), (5, 13)]), ([0, 1, 2, 3, 4, 5, 6, 7, 8, 13, 9, 10, 11, 12, 14, 15], [(3, 1), (3, 9), (5, 1), (5, 9)]), ([0, 1, 2, 3, 4, 5, 6, 7, 13, 8, 9, 10, 11, 12, 14, 15], [(3, 1), (3, 8), (5, 1), (5, 8)]), ([0, 1, 2, 3, 4, 5, 6, 13, 7, 8, 9, 10, 11, 12, 14, 15], [(3, 1), (3, 7), (5, 1), (5, 7)]), ([0, 2, 3, 4, 5, 6, 7, 1, 8, 9, 10, 11, 12, 13, 14, 15], [(2, 7), (2, 13), (4, 7), (4, 13)]), ([0, 2, 3, 4, 5, 6, 7, 1, 8, 13, 9, 10, 11, 12, 14, 15], [(2, 7), (2, 9), (4, 7), (4, 9)]), ([0, 2, 3, 4, 5, 6, 7, 1, 13, 8, 9, 10, 11, 12, 14, 15], [(2, 7), (2, 8), (4, 7), (4, 8)]), ([0, 2, 3, 4, 5, 6, 7, 13, 1, 8, 9, 10, 11, 12, 14, 15], [(2, 7), (2, 8), (4, 7), (4, 8)]), ([0, 2, 3, 4, 5, 6, 13, 1, 7, 8, 9, 10, 11, 12, 14, 15], [(2, 6), (2, 7), (4, 6), (4, 7)]), ([0, 2, 3, 4, 5, 6, 13, 7, 1, 8, 9, 10, 11, 12, 14, 15], [(2, 6), (2, 8), (4, 6), (4, 8)])]), (11, [([0, 1, 2, 3, 4, 5, 6, 7, 8, 9, 10, 11, 12, 13, 14, 15, 16, 17, 18, 19, 20, 21, 22, 23, 24, 25, 26, 27, 28, 29, 30, 31, 32, 33, 34, 35, 36], [])])]
variable {G : Nat → AV}
def dz : Deed := ⟨0, 0, 0, 0, 0, 0, 0, ⟨#[]⟩⟩
theorem dz_ok : dz.Ok := by constructor <;> (unfold i64 dz; simp)
theorem deeds_ul (l : List Deed) : UL 8 (l.map Deed.row) := by
  intro r hr
  obtain ⟨y, _, rfl⟩ := List.mem_map.1 hr
  rfl
abbrev dzRow : List V := [V.lit (.int .i64 0), V.lit (.int .i64 0), V.lit (.int .i64 0), V.lit (.int .i64 0), V.lit (.int .i64 0), V.lit (.int .i64 0), V.lit (.int .i64 0), V.lit (.string ⟨#[]⟩)]
def lnR (xs : List Item) (i : Nat) : List (List V) := (linesR (xs.take i)).map Rcd.row
theorem lnR_zero (xs : List Item) : lnR xs 0 = [] := rfl
theorem lnR_ul (xs : List Item) (i : Nat) : UL 20 (lnR xs i) := rcd_ul _
theorem lnR_len {xs : List Item} {i : Nat} (h : i ≤ xs.length) : (lnR xs i).length = i := by unfold lnR; rw [List.length_map, linesR_len, List.length_take]; omega
theorem lnR_succ {xs : List Item} {i : Nat} {y : Item} (h : xs[i]? = some y) : lnR xs (i + 1) = lnR xs i ++ [(lineRc i y).row] := by unfold lnR; rw [linesR_succ h, List.map_append]; rfl
abbrev lineV (p : Int) (y : Item) : List V := [iL 2, iL 0, iL 0, iL p, iL y.term, iL y.time, .lit (.bool y.nop), iL y.client, iL y.seq, iL y.k, sL y.key, sL y.field, sL y.text, iL y.n, iL 0, iL 0, iL 0, .sl [], iL 0, .sl []]
abbrev ptC9 := PartIs.of ac_rostrumkeep_FoldCuts [1, 1, 1, 1, 1, 1, 0]
abbrev ptC10 := PartIs.of ac_rostrumkeep_FoldCuts [1, 1, 1, 1, 1, 1, 1, 0]
abbrev stC9 (G : Nat → AV) (xs : List Item) (k : Nat) (zc : List C) (g49 g48 g47 g46 g45 g44 g43 g42 g41 g40 g27 g26 g25 g24 g1 : AV) : S :=
  ⟨[(9, .one (.ptr 1 0)), (49, g49), (48, g48), (47, g47), (46, g46), (45, g45), (44, g44), (8, iV k), (43, g43), (42, g42), (41, g41), (40, g40), (27, g27), (26, g26), (25, g25), (24, g24), (1, g1), (4, bV false), (5, rowsV xs), (6, .one (.ar 0)), (7, iV xs.length)], G,
   [some (.arr 48 20 (lnR xs xs.length)), some (.box 44 zc)]⟩
abbrev dskN (rows : List (List V)) : List C := [iC 0, iC (-1), iC 0, iC 0, iC 0, .v (.sl []), iC 1, .v (.sl []), iC 0, iC 0, .v (.sl rows)]
abbrev stC10 (G : Nat → AV) (xs : List Item) (k : Nat) (zc : List C) (rs : List (List V)) : S :=
  ⟨[(5, rowsV xs), (6, .one (.v (.sl (lnR xs xs.length)))), (8, iV k), (9, .one (.ptr 0 0)), (10, .one (.ptr 1 0)), (11, iV 0)], G, [some (.box 44 zc), some (.box 52 (dskN rs))]⟩
abbrev stC11 (G : Nat → AV) (xs : List Item) (k : Nat) (zc : List C) (rs : List (List V)) : S :=
  ⟨[(5, rowsV xs), (8, iV k), (9, .one (.ptr 0 0)), (10, .one (.ptr 1 0)), (11, iV 0), (13, iV 10)], G, [some (.box 44 zc), some (.box 52 (dskN rs))]⟩
theorem cut_r9_0 {xs : List Item} {k : Nat} (z : Item) {rs : List (List V)} {g49 g48 g47 g46 g45 g44 g43 g42 g41 g40 g27 g26 g25 g24 g1 : AV} (hl : xs.length ≤ 200) (w1 : IntKind.i64.wrap ((k : Int) + 1) = (k : Int) + 1)
    (hfo : PCall Try.prog G 10 [.one (.v (.sl (lnR xs xs.length ++ [lineV ((k : Int) + 1) z])))] (.tup [.agg (dskN rs), iV 0])) :
    AltOk Try.prog (codeOf ptC9) 0 (stC9 G xs k (z.row.map .v) g49 g48 g47 g46 g45 g44 g43 g42 g41 g40 g27 g26 g25 g24 g1) (stC10 G xs k (z.row.map .v) rs) := by
  have hul := lnR_ul xs xs.length
  have hrl := lnR_len (Nat.le_refl xs.length)
  obtain ⟨zt, zm, zn, zc, zs, zk, za, zb, zd, zx⟩ := z
  unfold AltOk
  simp only [Item.row, List.map_cons, List.map_nil, lineV, stC9, stC10, stC11, codeOf, nthAlt, List.getD_cons_succ, List.getD_cons_zero] at *
  generalize lnR xs xs.length = R at *
  repeat' (first | (with_reducible first | refine Cn (fun h => ?_) fun h => ?_ | refine And.intro ?_ ?_ | refine wR ?_ | exact wr _ _ | refine weak_autoC ?_ | apply awp_join | refine q hfo ?_ | refine qd hfo ?_ | refine qz hfo ?_) | (with_reducible refine CallZ.z ?_) | simp -dsimp [go_sem, w1, hul, hrl, clean_nil, clean_cons, clean_yes, clean_no])
  all_goals first | omega | (simp [UL]; done) | trace_state
theorem cut_r10_0 {xs : List Item} {k : Nat} (z : Item) {rs : List (List V)} (hl : xs.length ≤ 200) (w2 : IntKind.i64.wrap ((xs.length : Int) + 2) = (xs.length : Int) + 2)
    (hfo : PCall Try.prog G 10 [.one (.v (.sl (lnR xs xs.length ++ [lineV ((xs.length : Int) + 2) z])))] (.tup [.agg [iC 0, iC 0, iC 0, iC 0, iC 0, .v (.sl []), iC 0, .v (.sl []), iC 0, iC 0, .v (.sl [])], iV 10])) :
    AltOk Try.prog (codeOf ptC10) 0 (stC10 G xs k (z.row.map .v) rs) (stC11 G xs k (z.row.map .v) rs) := by
  have hul := lnR_ul xs xs.length
  have hrl := lnR_len (Nat.le_refl xs.length)
  have hxl : (xs.map Item.row).length = xs.length := by simp
  obtain ⟨zt, zm, zn, zc, zs, zk, za, zb, zd, zx⟩ := z
  unfold AltOk
  simp only [Item.row, List.map_cons, List.map_nil, lineV, stC9, stC10, stC11, codeOf, nthAlt, List.getD_cons_succ, List.getD_cons_zero] at *
  generalize lnR xs xs.length = R at *
  repeat' (first | (with_reducible first | refine Cn (fun h => ?_) fun h => ?_ | refine And.intro ?_ ?_ | refine wR ?_ | exact wr _ _ | refine weak_autoC ?_ | apply awp_join | refine q hfo ?_ | refine qd hfo ?_ | refine qz hfo ?_) | (with_reducible refine CallZ.z ?_) | simp -dsimp [go_sem, w2, hul, hrl, hxl, clean_nil, clean_cons, clean_yes, clean_no])
  all_goals first | omega | (simp [UL]; done) | trace_state
theorem cut_r9_1 {xs : List Item} {k : Nat} (z : Item) {rs : List (List V)} {g49 g48 g47 g46 g45 g44 g43 g42 g41 g40 g27 g26 g25 g24 g1 : AV} (hl : xs.length ≤ 200) (w1 : IntKind.i64.wrap ((k : Int) + 1) = (k : Int) + 1)
    (hfo : PCall Try.prog G 10 [.one (.v (.sl (lnR xs xs.length ++ [lineV ((k : Int) + 1) z])))] (.tup [.agg (dskN rs), iV 0])) :
    AltOk Try.prog (codeOf ptC9) 1 (stC9 G xs k (z.row.map .v) g49 g48 g47 g46 g45 g44 g43 g42 g41 g40 g27 g26 g25 g24 g1) (stC10 G xs k (z.row.map .v) rs) := by
  have hul := lnR_ul xs xs.length
  have hrl := lnR_len (Nat.le_refl xs.length)
  obtain ⟨zt, zm, zn, zc, zs, zk, za, zb, zd, zx⟩ := z
  unfold AltOk
  simp only [Item.row, List.map_cons, List.map_nil, lineV, stC9, stC10, stC11, codeOf, nthAlt, List.getD_cons_succ, List.getD_cons_zero] at *
  generalize lnR xs xs.length = R at *
  repeat' (first | (with_reducible first | refine Cn (fun h => ?_) fun h => ?_ | refine And.intro ?_ ?_ | refine wR ?_ | exact wr _ _ | refine weak_autoC ?_ | apply awp_join | refine q hfo ?_ | refine qd hfo ?_ | refine qz hfo ?_) | (with_reducible refine CallZ.z ?_) | simp -dsimp [go_sem, w1, hul, hrl, clean_nil, clean_cons, clean_yes, clean_no])
  all_goals first | omega | (simp [UL]; done) | trace_state
theorem cut_r10_1 {xs : List Item} {k : Nat} (z : Item) {rs : List (List V)} (hl : xs.length ≤ 200) (w2 : IntKind.i64.wrap ((xs.length : Int) + 2) = (xs.length : Int) + 2)
    (hfo : PCall Try.prog G 10 [.one (.v (.sl (lnR xs xs.length ++ [lineV ((xs.length : Int) + 2) z])))] (.tup [.agg [iC 0, iC 0, iC 0, iC 0, iC 0, .v (.sl []), iC 0, .v (.sl []), iC 0, iC 0, .v (.sl [])], iV 10])) :
    AltOk Try.prog (codeOf ptC10) 1 (stC10 G xs k (z.row.map .v) rs) (stC11 G xs k (z.row.map .v) rs) := by
  have hul := lnR_ul xs xs.length
  have hrl := lnR_len (Nat.le_refl xs.length)
  have hxl : (xs.map Item.row).length = xs.length := by simp
  obtain ⟨zt, zm, zn, zc, zs, zk, za, zb, zd, zx⟩ := z
  unfold AltOk
  simp only [Item.row, List.map_cons, List.map_nil, lineV, stC9, stC10, stC11, codeOf, nthAlt, List.getD_cons_succ, List.getD_cons_zero] at *
  generalize lnR xs xs.length = R at *
  repeat' (first | (with_reducible first | refine Cn (fun h => ?_) fun h => ?_ | refine And.intro ?_ ?_ | refine wR ?_ | exact wr _ _ | refine weak_autoC ?_ | apply awp_join | refine q hfo ?_ | refine qd hfo ?_ | refine qz hfo ?_) | (with_reducible refine CallZ.z ?_) | simp -dsimp [go_sem, w2, hul, hrl, hxl, clean_nil, clean_cons, clean_yes, clean_no])
  all_goals first | omega | (simp [UL]; done) | trace_state
theorem cut_r9_2 {xs : List Item} {k : Nat} (z : Item) {rs : List (List V)} {g49 g48 g47 g46 g45 g44 g43 g42 g41 g40 g27 g26 g25 g24 g1 : AV} (hl : xs.length ≤ 200) (w1 : IntKind.i64.wrap ((k : Int) + 1) = (k : Int) + 1)
    (hfo : PCall Try.prog G 10 [.one (.v (.sl (lnR xs xs.length ++ [lineV ((k : Int) + 1) z])))] (.tup [.agg (dskN rs), iV 0])) :
    AltOk Try.prog (codeOf ptC9) 2 (stC9 G xs k (z.row.map .v) g49 g48 g47 g46 g45 g44 g43 g42 g41 g40 g27 g26 g25 g24 g1) (stC10 G xs k (z.row.map .v) rs) := by
  have hul := lnR_ul xs xs.length
  have hrl := lnR_len (Nat.le_refl xs.length)
  obtain ⟨zt, zm, zn, zc, zs, zk, za, zb, zd, zx⟩ := z
  unfold AltOk
  simp only [Item.row, List.map_cons, List.map_nil, lineV, stC9, stC10, stC11, codeOf, nthAlt, List.getD_cons_succ, List.getD_cons_zero] at *
  generalize lnR xs xs.length = R at *
  repeat' (first | (with_reducible first | refine Cn (fun h => ?_) fun h => ?_ | refine And.intro ?_ ?_ | refine wR ?_ | exact wr _ _ | refine weak_autoC ?_ | apply awp_join | refine q hfo ?_ | refine qd hfo ?_ | refine qz hfo ?_) | (with_reducible refine CallZ.z ?_) | simp -dsimp [go_sem, w1, hul, hrl, clean_nil, clean_cons, clean_yes, clean_no])
  all_goals first | omega | (simp [UL]; done) | trace_state
theorem cut_r10_2 {xs : List Item} {k : Nat} (z : Item) {rs : List (List V)} (hl : xs.length ≤ 200) (w2 : IntKind.i64.wrap ((xs.length : Int) + 2) = (xs.length : Int) + 2)
    (hfo : PCall Try.prog G 10 [.one (.v (.sl (lnR xs xs.length ++ [lineV ((xs.length : Int) + 2) z])))] (.tup [.agg [iC 0, iC 0, iC 0, iC 0, iC 0, .v (.sl []), iC 0, .v (.sl []), iC 0, iC 0, .v (.sl [])], iV 10])) :
    AltOk Try.prog (codeOf ptC10) 2 (stC10 G xs k (z.row.map .v) rs) (stC11 G xs k (z.row.map .v) rs) := by
  have hul := lnR_ul xs xs.length
  have hrl := lnR_len (Nat.le_refl xs.length)
  have hxl : (xs.map Item.row).length = xs.length := by simp
  obtain ⟨zt, zm, zn, zc, zs, zk, za, zb, zd, zx⟩ := z
  unfold AltOk
  simp only [Item.row, List.map_cons, List.map_nil, lineV, stC9, stC10, stC11, codeOf, nthAlt, List.getD_cons_succ, List.getD_cons_zero] at *
  generalize lnR xs xs.length = R at *
  repeat' (first | (with_reducible first | refine Cn (fun h => ?_) fun h => ?_ | refine And.intro ?_ ?_ | refine wR ?_ | exact wr _ _ | refine weak_autoC ?_ | apply awp_join | refine q hfo ?_ | refine qd hfo ?_ | refine qz hfo ?_) | (with_reducible refine CallZ.z ?_) | simp -dsimp [go_sem, w2, hul, hrl, hxl, clean_nil, clean_cons, clean_yes, clean_no])
  all_goals first | omega | (simp [UL]; done) | trace_state
theorem cut_r9_3 {xs : List Item} {k : Nat} (z : Item) {rs : List (List V)} {g49 g48 g47 g46 g45 g44 g43 g42 g41 g40 g27 g26 g25 g24 g1 : AV} (hl : xs.length ≤ 200) (w1 : IntKind.i64.wrap ((k : Int) + 1) = (k : Int) + 1)
    (hfo : PCall Try.prog G 10 [.one (.v (.sl (lnR xs xs.length ++ [lineV ((k : Int) + 1) z])))] (.tup [.agg (dskN rs), iV 0])) :
    AltOk Try.prog (codeOf ptC9) 3 (stC9 G xs k (z.row.map .v) g49 g48 g47 g46 g45 g44 g43 g42 g41 g40 g27 g26 g25 g24 g1) (stC10 G xs k (z.row.map .v) rs) := by
  have hul := lnR_ul xs xs.length
  have hrl := lnR_len (Nat.le_refl xs.length)
  obtain ⟨zt, zm, zn, zc, zs, zk, za, zb, zd, zx⟩ := z
  unfold AltOk
  simp only [Item.row, List.map_cons, List.map_nil, lineV, stC9, stC10, stC11, codeOf, nthAlt, List.getD_cons_succ, List.getD_cons_zero] at *
  generalize lnR xs xs.length = R at *
  repeat' (first | (with_reducible first | refine Cn (fun h => ?_) fun h => ?_ | refine And.intro ?_ ?_ | refine wR ?_ | exact wr _ _ | refine weak_autoC ?_ | apply awp_join | refine q hfo ?_ | refine qd hfo ?_ | refine qz hfo ?_) | (with_reducible refine CallZ.z ?_) | simp -dsimp [go_sem, w1, hul, hrl, clean_nil, clean_cons, clean_yes, clean_no])
  all_goals first | omega | (simp [UL]; done) | trace_state
theorem cut_r10_3 {xs : List Item} {k : Nat} (z : Item) {rs : List (List V)} (hl : xs.length ≤ 200) (w2 : IntKind.i64.wrap ((xs.length : Int) + 2) = (xs.length : Int) + 2)
    (hfo : PCall Try.prog G 10 [.one (.v (.sl (lnR xs xs.length ++ [lineV ((xs.length : Int) + 2) z])))] (.tup [.agg [iC 0, iC 0, iC 0, iC 0, iC 0, .v (.sl []), iC 0, .v (.sl []), iC 0, iC 0, .v (.sl [])], iV 10])) :
    AltOk Try.prog (codeOf ptC10) 3 (stC10 G xs k (z.row.map .v) rs) (stC11 G xs k (z.row.map .v) rs) := by
  have hul := lnR_ul xs xs.length
  have hrl := lnR_len (Nat.le_refl xs.length)
  have hxl : (xs.map Item.row).length = xs.length := by simp
  obtain ⟨zt, zm, zn, zc, zs, zk, za, zb, zd, zx⟩ := z
  unfold AltOk
  simp only [Item.row, List.map_cons, List.map_nil, lineV, stC9, stC10, stC11, codeOf, nthAlt, List.getD_cons_succ, List.getD_cons_zero] at *
  generalize lnR xs xs.length = R at *
  repeat' (first | (with_reducible first | refine Cn (fun h => ?_) fun h => ?_ | refine And.intro ?_ ?_ | refine wR ?_ | exact wr _ _ | refine weak_autoC ?_ | apply awp_join | refine q hfo ?_ | refine qd hfo ?_ | refine qz hfo ?_) | (with_reducible refine CallZ.z ?_) | simp -dsimp [go_sem, w2, hul, hrl, hxl, clean_nil, clean_cons, clean_yes, clean_no])
  all_goals first | omega | (simp [UL]; done) | trace_state
theorem cut_r9_4 {xs : List Item} {k : Nat} (z : Item) {rs : List (List V)} {g49 g48 g47 g46 g45 g44 g43 g42 g41 g40 g27 g26 g25 g24 g1 : AV} (hl : xs.length ≤ 200) (w1 : IntKind.i64.wrap ((k : Int) + 1) = (k : Int) + 1)
    (hfo : PCall Try.prog G 10 [.one (.v (.sl (lnR xs xs.length ++ [lineV ((k : Int) + 1) z])))] (.tup [.agg (dskN rs), iV 0])) :
    AltOk Try.prog (codeOf ptC9) 4 (stC9 G xs k (z.row.map .v) g49 g48 g47 g46 g45 g44 g43 g42 g41 g40 g27 g26 g25 g24 g1) (stC10 G xs k (z.row.map .v) rs) := by
  have hul := lnR_ul xs xs.length
  have hrl := lnR_len (Nat.le_refl xs.length)
  obtain ⟨zt, zm, zn, zc, zs, zk, za, zb, zd, zx⟩ := z
  unfold AltOk
  simp only [Item.row, List.map_cons, List.map_nil, lineV, stC9, stC10, stC11, codeOf, nthAlt, List.getD_cons_succ, List.getD_cons_zero] at *
  generalize lnR xs xs.length = R at *
  repeat' (first | (with_reducible first | refine Cn (fun h => ?_) fun h => ?_ | refine And.intro ?_ ?_ | refine wR ?_ | exact wr _ _ | refine weak_autoC ?_ | apply awp_join | refine q hfo ?_ | refine qd hfo ?_ | refine qz hfo ?_) | (with_reducible refine CallZ.z ?_) | simp -dsimp [go_sem, w1, hul, hrl, clean_nil, clean_cons, clean_yes, clean_no])
  all_goals first | omega | (simp [UL]; done) | trace_state
theorem cut_r10_4 {xs : List Item} {k : Nat} (z : Item) {rs : List (List V)} (hl : xs.length ≤ 200) (w2 : IntKind.i64.wrap ((xs.length : Int) + 2) = (xs.length : Int) + 2)
    (hfo : PCall Try.prog G 10 [.one (.v (.sl (lnR xs xs.length ++ [lineV ((xs.length : Int) + 2) z])))] (.tup [.agg [iC 0, iC 0, iC 0, iC 0, iC 0, .v (.sl []), iC 0, .v (.sl []), iC 0, iC 0, .v (.sl [])], iV 10])) :
    AltOk Try.prog (codeOf ptC10) 4 (stC10 G xs k (z.row.map .v) rs) (stC11 G xs k (z.row.map .v) rs) := by
  have hul := lnR_ul xs xs.length
  have hrl := lnR_len (Nat.le_refl xs.length)
  have hxl : (xs.map Item.row).length = xs.length := by simp
  obtain ⟨zt, zm, zn, zc, zs, zk, za, zb, zd, zx⟩ := z
  unfold AltOk
  simp only [Item.row, List.map_cons, List.map_nil, lineV, stC9, stC10, stC11, codeOf, nthAlt, List.getD_cons_succ, List.getD_cons_zero] at *
  generalize lnR xs xs.length = R at *
  repeat' (first | (with_reducible first | refine Cn (fun h => ?_) fun h => ?_ | refine And.intro ?_ ?_ | refine wR ?_ | exact wr _ _ | refine weak_autoC ?_ | apply awp_join | refine q hfo ?_ | refine qd hfo ?_ | refine qz hfo ?_) | (with_reducible refine CallZ.z ?_) | simp -dsimp [go_sem, w2, hul, hrl, hxl, clean_nil, clean_cons, clean_yes, clean_no])
  all_goals first | omega | (simp [UL]; done) | trace_state
theorem cut_r9_5 {xs : List Item} {k : Nat} (z : Item) {rs : List (List V)} {g49 g48 g47 g46 g45 g44 g43 g42 g41 g40 g27 g26 g25 g24 g1 : AV} (hl : xs.length ≤ 200) (w1 : IntKind.i64.wrap ((k : Int) + 1) = (k : Int) + 1)
    (hfo : PCall Try.prog G 10 [.one (.v (.sl (lnR xs xs.length ++ [lineV ((k : Int) + 1) z])))] (.tup [.agg (dskN rs), iV 0])) :
    AltOk Try.prog (codeOf ptC9) 5 (stC9 G xs k (z.row.map .v) g49 g48 g47 g46 g45 g44 g43 g42 g41 g40 g27 g26 g25 g24 g1) (stC10 G xs k (z.row.map .v) rs) := by
  have hul := lnR_ul xs xs.length
  have hrl := lnR_len (Nat.le_refl xs.length)
  obtain ⟨zt, zm, zn, zc, zs, zk, za, zb, zd, zx⟩ := z
  unfold AltOk
  simp only [Item.row, List.map_cons, List.map_nil, lineV, stC9, stC10, stC11, codeOf, nthAlt, List.getD_cons_succ, List.getD_cons_zero] at *
  generalize lnR xs xs.length = R at *
  repeat' (first | (with_reducible first | refine Cn (fun h => ?_) fun h => ?_ | refine And.intro ?_ ?_ | refine wR ?_ | exact wr _ _ | refine weak_autoC ?_ | apply awp_join | refine q hfo ?_ | refine qd hfo ?_ | refine qz hfo ?_) | (with_reducible refine CallZ.z ?_) | simp -dsimp [go_sem, w1, hul, hrl, clean_nil, clean_cons, clean_yes, clean_no])
  all_goals first | omega | (simp [UL]; done) | trace_state
theorem cut_r10_5 {xs : List Item} {k : Nat} (z : Item) {rs : List (List V)} (hl : xs.length ≤ 200) (w2 : IntKind.i64.wrap ((xs.length : Int) + 2) = (xs.length : Int) + 2)
    (hfo : PCall Try.prog G 10 [.one (.v (.sl (lnR xs xs.length ++ [lineV ((xs.length : Int) + 2) z])))] (.tup [.agg [iC 0, iC 0, iC 0, iC 0, iC 0, .v (.sl []), iC 0, .v (.sl []), iC 0, iC 0, .v (.sl [])], iV 10])) :
    AltOk Try.prog (codeOf ptC10) 5 (stC10 G xs k (z.row.map .v) rs) (stC11 G xs k (z.row.map .v) rs) := by
  have hul := lnR_ul xs xs.length
  have hrl := lnR_len (Nat.le_refl xs.length)
  have hxl : (xs.map Item.row).length = xs.length := by simp
  obtain ⟨zt, zm, zn, zc, zs, zk, za, zb, zd, zx⟩ := z
  unfold AltOk
  simp only [Item.row, List.map_cons, List.map_nil, lineV, stC9, stC10, stC11, codeOf, nthAlt, List.getD_cons_succ, List.getD_cons_zero] at *
  generalize lnR xs xs.length = R at *
  repeat' (first | (with_reducible first | refine Cn (fun h => ?_) fun h => ?_ | refine And.intro ?_ ?_ | refine wR ?_ | exact wr _ _ | refine weak_autoC ?_ | apply awp_join | refine q hfo ?_ | refine qd hfo ?_ | refine qz hfo ?_) | (with_reducible refine CallZ.z ?_) | simp -dsimp [go_sem, w2, hul, hrl, hxl, clean_nil, clean_cons, clean_yes, clean_no])
  all_goals first | omega | (simp [UL]; done) | trace_state
theorem cut_r9_6 {xs : List Item} {k : Nat} (z : Item) {rs : List (List V)} {g49 g48 g47 g46 g45 g44 g43 g42 g41 g40 g27 g26 g25 g24 g1 : AV} (hl : xs.length ≤ 200) (w1 : IntKind.i64.wrap ((k : Int) + 1) = (k : Int) + 1)
    (hfo : PCall Try.prog G 10 [.one (.v (.sl (lnR xs xs.length ++ [lineV ((k : Int) + 1) z])))] (.tup [.agg (dskN rs), iV 0])) :
    AltOk Try.prog (codeOf ptC9) 6 (stC9 G xs k (z.row.map .v) g49 g48 g47 g46 g45 g44 g43 g42 g41 g40 g27 g26 g25 g24 g1) (stC10 G xs k (z.row.map .v) rs) := by
  have hul := lnR_ul xs xs.length
  have hrl := lnR_len (Nat.le_refl xs.length)
  obtain ⟨zt, zm, zn, zc, zs, zk, za, zb, zd, zx⟩ := z
  unfold AltOk
  simp only [Item.row, List.map_cons, List.map_nil, lineV, stC9, stC10, stC11, codeOf, nthAlt, List.getD_cons_succ, List.getD_cons_zero] at *
  generalize lnR xs xs.length = R at *
  repeat' (first | (with_reducible first | refine Cn (fun h => ?_) fun h => ?_ | refine And.intro ?_ ?_ | refine wR ?_ | exact wr _ _ | refine weak_autoC ?_ | apply awp_join | refine q hfo ?_ | refine qd hfo ?_ | refine qz hfo ?_) | (with_reducible refine CallZ.z ?_) | simp -dsimp [go_sem, w1, hul, hrl, clean_nil, clean_cons, clean_yes, clean_no])
  all_goals first | omega | (simp [UL]; done) | trace_state
theorem cut_r10_6 {xs : List Item} {k : Nat} (z : Item) {rs : List (List V)} (hl : xs.length ≤ 200) (w2 : IntKind.i64.wrap ((xs.length : Int) + 2) = (xs.length : Int) + 2)
    (hfo : PCall Try.prog G 10 [.one (.v (.sl (lnR xs xs.length ++ [lineV ((xs.length : Int) + 2) z])))] (.tup [.agg [iC 0, iC 0, iC 0, iC 0, iC 0, .v (.sl []), iC 0, .v (.sl []), iC 0, iC 0, .v (.sl [])], iV 10])) :
    AltOk Try.prog (codeOf ptC10) 6 (stC10 G xs k (z.row.map .v) rs) (stC11 G xs k (z.row.map .v) rs) := by
  have hul := lnR_ul xs xs.length
  have hrl := lnR_len (Nat.le_refl xs.length)
  have hxl : (xs.map Item.row).length = xs.length := by simp
  obtain ⟨zt, zm, zn, zc, zs, zk, za, zb, zd, zx⟩ := z
  unfold AltOk
  simp only [Item.row, List.map_cons, List.map_nil, lineV, stC9, stC10, stC11, codeOf, nthAlt, List.getD_cons_succ, List.getD_cons_zero] at *
  generalize lnR xs xs.length = R at *
  repeat' (first | (with_reducible first | refine Cn (fun h => ?_) fun h => ?_ | refine And.intro ?_ ?_ | refine wR ?_ | exact wr _ _ | refine weak_autoC ?_ | apply awp_join | refine q hfo ?_ | refine qd hfo ?_ | refine qz hfo ?_) | (with_reducible refine CallZ.z ?_) | simp -dsimp [go_sem, w2, hul, hrl, hxl, clean_nil, clean_cons, clean_yes, clean_no])
  all_goals first | omega | (simp [UL]; done) | trace_state
theorem cut_r9_7 {xs : List Item} {k : Nat} (z : Item) {rs : List (List V)} {g49 g48 g47 g46 g45 g44 g43 g42 g41 g40 g27 g26 g25 g24 g1 : AV} (hl : xs.length ≤ 200) (w1 : IntKind.i64.wrap ((k : Int) + 1) = (k : Int) + 1)
    (hfo : PCall Try.prog G 10 [.one (.v (.sl (lnR xs xs.length ++ [lineV ((k : Int) + 1) z])))] (.tup [.agg (dskN rs), iV 0])) :
    AltOk Try.prog (codeOf ptC9) 7 (stC9 G xs k (z.row.map .v) g49 g48 g47 g46 g45 g44 g43 g42 g41 g40 g27 g26 g25 g24 g1) (stC10 G xs k (z.row.map .v) rs) := by
  have hul := lnR_ul xs xs.length
  have hrl := lnR_len (Nat.le_refl xs.length)
  obtain ⟨zt, zm, zn, zc, zs, zk, za, zb, zd, zx⟩ := z
  unfold AltOk
  simp only [Item.row, List.map_cons, List.map_nil, lineV, stC9, stC10, stC11, codeOf, nthAlt, List.getD_cons_succ, List.getD_cons_zero] at *
  generalize lnR xs xs.length = R at *
  repeat' (first | (with_reducible first | refine Cn (fun h => ?_) fun h => ?_ | refine And.intro ?_ ?_ | refine wR ?_ | exact wr _ _ | refine weak_autoC ?_ | apply awp_join | refine q hfo ?_ | refine qd hfo ?_ | refine qz hfo ?_) | (with_reducible refine CallZ.z ?_) | simp -dsimp [go_sem, w1, hul, hrl, clean_nil, clean_cons, clean_yes, clean_no])
  all_goals first | omega | (simp [UL]; done) | trace_state
theorem cut_r10_7 {xs : List Item} {k : Nat} (z : Item) {rs : List (List V)} (hl : xs.length ≤ 200) (w2 : IntKind.i64.wrap ((xs.length : Int) + 2) = (xs.length : Int) + 2)
    (hfo : PCall Try.prog G 10 [.one (.v (.sl (lnR xs xs.length ++ [lineV ((xs.length : Int) + 2) z])))] (.tup [.agg [iC 0, iC 0, iC 0, iC 0, iC 0, .v (.sl []), iC 0, .v (.sl []), iC 0, iC 0, .v (.sl [])], iV 10])) :
    AltOk Try.prog (codeOf ptC10) 7 (stC10 G xs k (z.row.map .v) rs) (stC11 G xs k (z.row.map .v) rs) := by
  have hul := lnR_ul xs xs.length
  have hrl := lnR_len (Nat.le_refl xs.length)
  have hxl : (xs.map Item.row).length = xs.length := by simp
  obtain ⟨zt, zm, zn, zc, zs, zk, za, zb, zd, zx⟩ := z
  unfold AltOk
  simp only [Item.row, List.map_cons, List.map_nil, lineV, stC9, stC10, stC11, codeOf, nthAlt, List.getD_cons_succ, List.getD_cons_zero] at *
  generalize lnR xs xs.length = R at *
  repeat' (first | (with_reducible first | refine Cn (fun h => ?_) fun h => ?_ | refine And.intro ?_ ?_ | refine wR ?_ | exact wr _ _ | refine weak_autoC ?_ | apply awp_join | refine q hfo ?_ | refine qd hfo ?_ | refine qz hfo ?_) | (with_reducible refine CallZ.z ?_) | simp -dsimp [go_sem, w2, hul, hrl, hxl, clean_nil, clean_cons, clean_yes, clean_no])
  all_goals first | omega | (simp [UL]; done) | trace_state
theorem cut_r9_8 {xs : List Item} {k : Nat} (z : Item) {rs : List (List V)} {g49 g48 g47 g46 g45 g44 g43 g42 g41 g40 g27 g26 g25 g24 g1 : AV} (hl : xs.length ≤ 200) (w1 : IntKind.i64.wrap ((k : Int) + 1) = (k : Int) + 1)
    (hfo : PCall Try.prog G 10 [.one (.v (.sl (lnR xs xs.length ++ [lineV ((k : Int) + 1) z])))] (.tup [.agg (dskN rs), iV 0])) :
    AltOk Try.prog (codeOf ptC9) 8 (stC9 G xs k (z.row.map .v) g49 g48 g47 g46 g45 g44 g43 g42 g41 g40 g27 g26 g25 g24 g1) (stC10 G xs k (z.row.map .v) rs) := by
  have hul := lnR_ul xs xs.length
  have hrl := lnR_len (Nat.le_refl xs.length)
  obtain ⟨zt, zm, zn, zc, zs, zk, za, zb, zd, zx⟩ := z
  unfold AltOk
  simp only [Item.row, List.map_cons, List.map_nil, lineV, stC9, stC10, stC11, codeOf, nthAlt, List.getD_cons_succ, List.getD_cons_zero] at *
  generalize lnR xs xs.length = R at *
  repeat' (first | (with_reducible first | refine Cn (fun h => ?_) fun h => ?_ | refine And.intro ?_ ?_ | refine wR ?_ | exact wr _ _ | refine weak_autoC ?_ | apply awp_join | refine q hfo ?_ | refine qd hfo ?_ | refine qz hfo ?_) | (with_reducible refine CallZ.z ?_) | simp -dsimp [go_sem, w1, hul, hrl, clean_nil, clean_cons, clean_yes, clean_no])
  all_goals first | omega | (simp [UL]; done) | trace_state
theorem cut_r10_8 {xs : List Item} {k : Nat} (z : Item) {rs : List (List V)} (hl : xs.length ≤ 200) (w2 : IntKind.i64.wrap ((xs.length : Int) + 2) = (xs.length : Int) + 2)
    (hfo : PCall Try.prog G 10 [.one (.v (.sl (lnR xs xs.length ++ [lineV ((xs.length : Int) + 2) z])))] (.tup [.agg [iC 0, iC 0, iC 0, iC 0, iC 0, .v (.sl []), iC 0, .v (.sl []), iC 0, iC 0, .v (.sl [])], iV 10])) :
    AltOk Try.prog (codeOf ptC10) 8 (stC10 G xs k (z.row.map .v) rs) (stC11 G xs k (z.row.map .v) rs) := by
  have hul := lnR_ul xs xs.length
  have hrl := lnR_len (Nat.le_refl xs.length)
  have hxl : (xs.map Item.row).length = xs.length := by simp
  obtain ⟨zt, zm, zn, zc, zs, zk, za, zb, zd, zx⟩ := z
  unfold AltOk
  simp only [Item.row, List.map_cons, List.map_nil, lineV, stC9, stC10, stC11, codeOf, nthAlt, List.getD_cons_succ, List.getD_cons_zero] at *
  generalize lnR xs xs.length = R at *
  repeat' (first | (with_reducible first | refine Cn (fun h => ?_) fun h => ?_ | refine And.intro ?_ ?_ | refine wR ?_ | exact wr _ _ | refine weak_autoC ?_ | apply awp_join | refine q hfo ?_ | refine qd hfo ?_ | refine qz hfo ?_) | (with_reducible refine CallZ.z ?_) | simp -dsimp [go_sem, w2, hul, hrl, hxl, clean_nil, clean_cons, clean_yes, clean_no])
  all_goals first | omega | (simp [UL]; done) | trace_state
theorem cut_r9_9 {xs : List Item} {k : Nat} (z : Item) {rs : List (List V)} {g49 g48 g47 g46 g45 g44 g43 g42 g41 g40 g27 g26 g25 g24 g1 : AV} (hl : xs.length ≤ 200) (w1 : IntKind.i64.wrap ((k : Int) + 1) = (k : Int) + 1)
    (hfo : PCall Try.prog G 10 [.one (.v (.sl (lnR xs xs.length ++ [lineV ((k : Int) + 1) z])))] (.tup [.agg (dskN rs), iV 0])) :
    AltOk Try.prog (codeOf ptC9) 9 (stC9 G xs k (z.row.map .v) g49 g48 g47 g46 g45 g44 g43 g42 g41 g40 g27 g26 g25 g24 g1) (stC10 G xs k (z.row.map .v) rs) := by
  have hul := lnR_ul xs xs.length
  have hrl := lnR_len (Nat.le_refl xs.length)
  obtain ⟨zt, zm, zn, zc, zs, zk, za, zb, zd, zx⟩ := z
  unfold AltOk
  simp only [Item.row, List.map_cons, List.map_nil, lineV, stC9, stC10, stC11, codeOf, nthAlt, List.getD_cons_succ, List.getD_cons_zero] at *
  generalize lnR xs xs.length = R at *
  repeat' (first | (with_reducible first | refine Cn (fun h => ?_) fun h => ?_ | refine And.intro ?_ ?_ | refine wR ?_ | exact wr _ _ | refine weak_autoC ?_ | apply awp_join | refine q hfo ?_ | refine qd hfo ?_ | refine qz hfo ?_) | (with_reducible refine CallZ.z ?_) | simp -dsimp [go_sem, w1, hul, hrl, clean_nil, clean_cons, clean_yes, clean_no])
  all_goals first | omega | (simp [UL]; done) | trace_state
theorem cut_r10_9 {xs : List Item} {k : Nat} (z : Item) {rs : List (List V)} (hl : xs.length ≤ 200) (w2 : IntKind.i64.wrap ((xs.length : Int) + 2) = (xs.length : Int) + 2)
    (hfo : PCall Try.prog G 10 [.one (.v (.sl (lnR xs xs.length ++ [lineV ((xs.length : Int) + 2) z])))] (.tup [.agg [iC 0, iC 0, iC 0, iC 0, iC 0, .v (.sl []), iC 0, .v (.sl []), iC 0, iC 0, .v (.sl [])], iV 10])) :
    AltOk Try.prog (codeOf ptC10) 9 (stC10 G xs k (z.row.map .v) rs) (stC11 G xs k (z.row.map .v) rs) := by
  have hul := lnR_ul xs xs.length
  have hrl := lnR_len (Nat.le_refl xs.length)
  have hxl : (xs.map Item.row).length = xs.length := by simp
  obtain ⟨zt, zm, zn, zc, zs, zk, za, zb, zd, zx⟩ := z
  unfold AltOk
  simp only [Item.row, List.map_cons, List.map_nil, lineV, stC9, stC10, stC11, codeOf, nthAlt, List.getD_cons_succ, List.getD_cons_zero] at *
  generalize lnR xs xs.length = R at *
  repeat' (first | (with_reducible first | refine Cn (fun h => ?_) fun h => ?_ | refine And.intro ?_ ?_ | refine wR ?_ | exact wr _ _ | refine weak_autoC ?_ | apply awp_join | refine q hfo ?_ | refine qd hfo ?_ | refine qz hfo ?_) | (with_reducible refine CallZ.z ?_) | simp -dsimp [go_sem, w2, hul, hrl, hxl, clean_nil, clean_cons, clean_yes, clean_no])
  all_goals first | omega | (simp [UL]; done) | trace_state
theorem cut_r9 {xs : List Item} {k : Nat} (z : Item) {rs : List (List V)} {zc : List C} {g49 g48 g47 g46 g45 g44 g43 g42 g41 g40 g27 g26 g25 g24 g1 : AV} (hl : xs.length ≤ 200) (w1 : IntKind.i64.wrap ((k : Int) + 1) = (k : Int) + 1)
    (hfo : PCall Try.prog G 10 [.one (.v (.sl (lnR xs xs.length ++ [lineV ((k : Int) + 1) z])))] (.tup [.agg (dskN rs), iV 0])) (hz : z.row.map .v = zc) {Q : Exit → S → Prop} (hq : Q .normal (stC10 G xs k zc rs)) :
    awp Try.prog 0 (codeOf ptC9) Q (stC9 G xs k zc g49 g48 g47 g46 g45 g44 g43 g42 g41 g40 g27 g26 g25 g24 g1) := by
  subst hz
  exact reg_of _ 10 rfl rfl ⟨cut_r9_9 z hl w1 hfo, cut_r9_8 z hl w1 hfo, cut_r9_7 z hl w1 hfo, cut_r9_6 z hl w1 hfo, cut_r9_5 z hl w1 hfo, cut_r9_4 z hl w1 hfo, cut_r9_3 z hl w1 hfo, cut_r9_2 z hl w1 hfo, cut_r9_1 z hl w1 hfo, cut_r9_0 z hl w1 hfo, trivial⟩ hq
theorem cut_r10 {xs : List Item} {k : Nat} (z : Item) {rs : List (List V)} {zc : List C} (hl : xs.length ≤ 200) (w2 : IntKind.i64.wrap ((xs.length : Int) + 2) = (xs.length : Int) + 2)
    (hfo : PCall Try.prog G 10 [.one (.v (.sl (lnR xs xs.length ++ [lineV ((xs.length : Int) + 2) z])))] (.tup [.agg [iC 0, iC 0, iC 0, iC 0, iC 0, .v (.sl []), iC 0, .v (.sl []), iC 0, iC 0, .v (.sl [])], iV 10])) (hz : z.row.map .v = zc) {Q : Exit → S → Prop} (hq : Q .normal (stC11 G xs k zc rs)) :
    awp Try.prog 0 (codeOf ptC10) Q (stC10 G xs k zc rs) := by
  subst hz
  exact reg_of _ 10 rfl rfl ⟨cut_r10_9 z hl w2 hfo, cut_r10_8 z hl w2 hfo, cut_r10_7 z hl w2 hfo, cut_r10_6 z hl w2 hfo, cut_r10_5 z hl w2 hfo, cut_r10_4 z hl w2 hfo, cut_r10_3 z hl w2 hfo, cut_r10_2 z hl w2 hfo, cut_r10_1 z hl w2 hfo, cut_r10_0 z hl w2 hfo, trivial⟩ hq
theorem app_small {a b : List Rcd} (ha : ∀ r ∈ a, r.Small) (hb : ∀ r ∈ b, r.Small) : ∀ r ∈ a ++ b, r.Small := fun r h => (List.mem_append.1 h).elim (ha r) (hb r)
theorem foldCuts_c (l : List Deed) (at' : Int) (hl : (l.length : Int) ≤ 9223372036854775807) (hd : ∀ d ∈ l, d.Ok) (ha : i64 at') : PCall Try.prog G 5 [.one (.v (.sl (l.map Deed.row))), iV at'] (bV true) := by
  obtain ⟨M, hM⟩ : ∃ M : Nat, (if (29 : Int) < (l.length : Int) then (29 : Int) else (l.length : Int)) = M := by
    split
    · exact ⟨29, rfl⟩
    · exact ⟨l.length, rfl⟩
  have hM2 : M ≤ 29 ∧ M ≤ l.length := by split at hM <;> omega
  obtain ⟨l', hl'⟩ : ∃ l', l.take M ++ [dz] = l' := ⟨_, rfl⟩
  have hlen : l'.length = M + 1 := by rw [← hl']; simp; omega
  have hd' : ∀ d ∈ l', d.Ok := by
    intro d h
    rw [← hl'] at h
    rcases List.mem_append.1 h with h | h
    · exact hd d (List.mem_of_mem_take h)
    · simp at h; subst h; exact dz_ok
  have hrows : List.map Deed.row (l.take M) ++ [dzRow] = l'.map Deed.row := by
    rw [← hl', List.map_append]; rfl
  have hrows2 : (List.map Deed.row l).take M ++ [dzRow] = l'.map Deed.row := by
    rw [← hrows, List.map_take]
  have hit := items_c (G := G) l' 1 (by omega) hd' (by omega)
  have hlog := items_log l' hd'
  have hxlen : (itemsOf l' 1).length = M + 1 := by unfold itemsOf; rw [itemsGo_length, List.length_take, hlen]; omega
  obtain ⟨hlen2, _⟩ := log0_iff.1 hlog
  generalize itemsOf l' 1 = xs at *
  have hul8 : UL 8 ((List.map Deed.row l).take M) := ul_take (deeds_ul l)
  have hul9 := deeds_ul l
  have hulz : UL 8 [dzRow] := deeds_ul [dz]
  have hdl : ((List.map Deed.row l).take M).length = M := by simp; omega
  have hdl2 : (List.map Deed.row l).length = l.length := by simp
  have hxl : (xs.map Item.row).length = xs.length := by simp
  have hk := pk_range (n := at') (m := (xs.length : Int)) (by omega)
  have hpk := picked_c (G := G) at' (xs.length : Int) ha (by omega)
  obtain ⟨k, hk'⟩ : ∃ k : Nat, pk at' (xs.length : Int) = k := ⟨(pk at' (xs.length : Int)).toNat, by omega⟩
  rw [hk'] at hk hpk
  have hkl : k < xs.length := by omega
  obtain ⟨z, hz⟩ : ∃ z, xs[xs.length - 1]? = some z := ⟨_, List.getElem?_eq_getElem (by omega)⟩
  have hzr : (xs.map Item.row)[xs.length - 1]? = some z.row := by rw [List.getElem?_map, hz]; rfl
  have hzc := (chk_all (log0_iff.1 hlog).2 z (List.mem_of_getElem? hz)).1
  rw [← hrows2] at hit
  refine pcallc mixed Try.func5 ac_rostrumkeep_FoldCuts ?_
  repeat' (first | (with_reducible first | refine Cn (fun h => ?_) fun h => ?_ | refine And.intro ?_ ?_ | refine wR ?_ | exact wr _ _ | refine wa ?_ | apply awp_join | refine q hit ?_ | refine qd hit ?_ | refine qz hit ?_) | (with_reducible refine CallZ.z ?_) | simp -dsimp [go_sem, hM, hul8, hul9, hulz, hdl, hdl2, hxl])
  all_goals first | omega | skip
  refine awp_loop (fun i : Nat => ⟨[(1, iV at'), (4, bV false), (5, rowsV xs), (6, .one (.ar 0)), (7, iV i)], G, [some (.arr 48 20 (lnR xs i))]⟩) (fun i => i ≤ xs.length) (fun i => xs.length - i) 0 (Weak.trans (weak_nil 6 48 20 ?_ (by omega)) (weak_auto ?_)) (Nat.zero_le _) ?_
  · simp -dsimp [go_sem]
  · simp -dsimp [go_sem, lnR_zero]
  · intro i hi
    by_cases hil : i < xs.length
    · obtain ⟨y, hx⟩ : ∃ y, xs[i]? = some y := ⟨_, List.getElem?_eq_getElem hil⟩
      have hr : (xs.map Item.row)[i]? = some y.row := by simp [hx]
      have q2 : decide (i < xs.length) = true := decide_eq_true hil
      have w1 : IntKind.i64.wrap ((i : Int) + 1) = (i : Int) + 1 := IntWalk.i64_in _ (by omega)
      have hsu := lnR_succ hx
      rw [lineRow] at hsu
      have hul := lnR_ul xs i
      have hrl := lnR_len hi
      clear hit hpk
      obtain ⟨xt, xm, xn, xc, xss, xk, xa, xb, xd, xx⟩ := y
      simp only [Item.row] at hr
      simp only at hsu
      repeat' (first | (with_reducible first | refine Cn (fun h => ?_) fun h => ?_ | refine And.intro ?_ ?_ | refine wR ?_ | exact wr _ _ | refine wa ?_ | apply awp_join) | (with_reducible refine CallZ.z ?_) | simp -dsimp [go_sem, hr, q2, w1, hul, hrl, hxl])
      all_goals first
        | omega
        | (simp [UL]; done)
        | (refine Again.auto (i + 1) ?_ hil ?_
           · simp -dsimp [go_sem, hsu]
           · show xs.length - (i + 1) < xs.length - i; omega)
        | trace_state
    · have hie : i = xs.length := by omega
      subst hie
      have q2 : decide (xs.length < xs.length) = false := decide_eq_false (by omega)
      have w3 : IntKind.i64.wrap ((xs.length : Int) - 1) = ((xs.length - 1 : Nat) : Int) := by rw [IntWalk.i64_in _ (by omega)]; omega
      have w4 : IntKind.i64.wrap ((k : Int) + 1) = (k : Int) + 1 := IntWalk.i64_in _ (by omega)
      have w5 : IntKind.i64.wrap ((xs.length : Int) + 2) = (xs.length : Int) + 2 := IntWalk.i64_in _ (by omega)
      obtain ⟨R, hR⟩ : ∃ R, (xs.map Item.row).take k = R := ⟨_, rfl⟩
      have hRl : R.length = k := by rw [← hR, List.length_take, hxl]; omega
      have hRu : UL 10 R := by rw [← hR]; exact ul_take (ul_rows _)
      have f1 : PCall Try.prog G 10 [.one (.v (.sl (lnR xs xs.length ++ [lineV ((k : Int) + 1) z])))] (.tup [.agg (dskN (R ++ [z.row])), iV 0]) := by
        have h := fold_c (G := G) (linesR xs ++ [lineRc k z]) (app_small (linesR_small xs) (fun r hr => by simp at hr; subst hr; exact zeroM_small)) (by simp [linesR_len]; omega)
        have e : foldD (linesR xs ++ [lineRc k z]) = ({ newD with log := ⟨0, 0, xs.take k ++ [z]⟩ }, 0) := fold_cut hlog hkl hz
        rw [e, List.map_append] at h
        simp only [newD, Dsk.c, newM, zeroS, zeroLg, Lg.c, logC, Mach.c, List.map_nil, List.cons_append, List.nil_append, List.map_append, List.map_take, hR, List.map_cons] at h
        have e2 : lnR xs xs.length = (linesR xs).map Rcd.row := by unfold lnR; rw [List.take_length]
        rw [e2]
        exact h
      have f2 : PCall Try.prog G 10 [.one (.v (.sl (lnR xs xs.length ++ [lineV ((xs.length : Int) + 2) z])))] (.tup [.agg [iC 0, iC 0, iC 0, iC 0, iC 0, .v (.sl []), iC 0, .v (.sl []), iC 0, iC 0, .v (.sl [])], iV 10]) := by
        have h := fold_c (G := G) (linesR xs ++ [lineRc (xs.length + 1) z]) (app_small (linesR_small xs) (fun r hr => by simp at hr; subst hr; exact zeroM_small)) (by simp [linesR_len]; omega)
        have e : foldD (linesR xs ++ [lineRc (xs.length + 1) z]) = (zeroD, 10) := fold_far hlog hzc
        rw [e, List.map_append, List.map_cons, List.map_nil, lineRow] at h
        have e3 : (((xs.length + 1 : Nat) : Int) + 1) = (xs.length : Int) + 2 := by omega
        rw [e3] at h
        simp only [zeroD, zeroM, Dsk.c, zeroS, zeroLg, Lg.c, logC, Mach.c, List.map_nil, List.cons_append, List.nil_append] at h
        have e2 : lnR xs xs.length = (linesR xs).map Rcd.row := by unfold lnR; rw [List.take_length]
        rw [e2]
        exact h
      have hsa := sameItems_c (G := G) (xs.take k) (xs.take k) (by simp; omega)
      have hsd : decide (xs.take k = xs.take k) = true := by simp
      rw [hsd] at hsa
      simp only [rowsV, List.map_take, hR] at hsa
      have t1 : (R ++ [z.row]).length = k + 1 := by simp [hRl]
      have t2 : (R ++ [z.row])[k]? = some z.row := by rw [List.getElem?_append_right (by omega), hRl]; simp
      have t3 : (R ++ [z.row]).take k = R := List.take_left' hRl
      have hXu := ul_rows xs
      have hRu2 : UL 10 (R ++ [z.row]) := fun r hr => by
        rcases List.mem_append.1 hr with h | h
        · exact hRu r h
        · simp at h; subst h; rfl
      obtain ⟨Z, hZ⟩ : ∃ Z, R ++ [z.row] = Z := ⟨_, rfl⟩
      rw [hZ] at f1 t1 t2 t3 hRu2
      have t2b : ∀ (h : k < Z.length), Z[k]'h = z.row := fun h => by have e := t2; rw [List.getElem?_eq_getElem h] at e; exact Option.some.inj e
      clear hZ hit hul8 hul9 hulz hdl hdl2 hrows hrows2
      have hkk : k ≤ xs.length := by omega
      have hk1 : k < k + 1 := by omega
      obtain ⟨zt, zm, zn, zc, zs, zk, za, zb, zd, zx⟩ := z
      simp only [Item.row] at hzr t2 t2b
      repeat' (first | (with_reducible first | refine cut_r10 ⟨zt, zm, zn, zc, zs, zk, za, zb, zd, zx⟩ hlen2 w5 f2 (by with_unfolding_all rfl) ?_ | refine cut_r9 ⟨zt, zm, zn, zc, zs, zk, za, zb, zd, zx⟩ hlen2 w4 f1 (by with_unfolding_all rfl) ?_ | refine Cn (fun h => ?_) fun h => ?_ | refine And.intro ?_ ?_ | refine wR ?_ | exact wr _ _ | refine wa ?_ | apply awp_join | refine q hpk ?_ | refine qd hpk ?_ | refine qz hpk ?_ | refine q hsa ?_ | refine qd hsa ?_ | refine qz hsa ?_) | (with_reducible refine CallZ.z ?_) | simp -dsimp [go_sem, q2, w3, w4, hxl, hzr, t1, t2, t2b, t3, hR, hXu, hRu2, hkl])
      all_goals first | omega | trace_state
end Go.Proofs.Ytpdcfljbabpakaa
