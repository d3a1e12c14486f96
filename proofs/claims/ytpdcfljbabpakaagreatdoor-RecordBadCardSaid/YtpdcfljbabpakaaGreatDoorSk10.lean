/- Texts joined. -/
import Derived.Test.YtpdcfljbabpakaaGreatDoorSk9
import Derived.Test.YtpdcfljbabpakaaGreatDoorSk8
set_option linter.unusedVariables false
set_option linter.unusedSimpArgs false
set_option maxRecDepth 100000
set_option maxHeartbeats 8000000
namespace Go.Proofs.YtpdcfljbabpakaaGreatDoor
open Go Go.RowKit Go.Proofs.AE
variable {G : Nat → AV}
theorem eachN_len {α : Type} (f : Rd → α × Rd) : ∀ (n : Nat) (r : Rd), (eachN f n r).1.length ≤ n
  | 0, r => Nat.le_refl _
  | n + 1, r => by
    unfold eachN
    split
    · simp
    · have := eachN_len f n (f r).2
      simp only [List.length_cons]; omega
theorem smallR_lt (r : Rd) : (smallR r).1 < 256 := by
  unfold smallR
  split
  · rename_i c _ _
    have := c.toNat_lt
    exact this
  · simp
theorem eachR_len {α : Type} (f : Rd → α × Rd) (r : Rd) : (eachR f r).1.length ≤ 255 := by
  unfold eachR
  have h1 := eachN_len f (smallR r).1 (smallR r).2
  have h2 := smallR_lt r
  omega
structure OnWay {α : Type} (f : Rd → α × Rd) (r0 : Rd) (n : Nat) (r : Rd) (l : List α) : Prop where
  eq : eachR f r0 = (l ++ (eachN f n r).1, (eachN f n r).2)
  le : l.length + n ≤ 255
theorem OnWay.first {α : Type} (f : Rd → α × Rd) (r0 : Rd) : OnWay f r0 (smallR r0).1 (smallR r0).2 [] := ⟨rfl, by have := smallR_lt r0; simp; omega⟩
theorem OnWay.next {α : Type} {f : Rd → α × Rd} {r0 r : Rd} {n : Nat} {l : List α} (h : OnWay f r0 (n + 1) r l) (hs : r.short = false) : OnWay f r0 n (f r).2 (l ++ [(f r).1]) := by
  refine ⟨?_, by have := h.le; simp; omega⟩
  have e : eachN f (n + 1) r = ((f r).1 :: (eachN f n (f r).2).1, (eachN f n (f r).2).2) := by
    show (if r.short = true then _ else _) = _
    rw [if_neg (by rw [hs]; simp)]
  rw [h.eq, e]
  simp
theorem OnWay.stop {α : Type} {f : Rd → α × Rd} {r0 r : Rd} {n : Nat} {l : List α} (h : OnWay f r0 n r l) (hs : n = 0 ∨ r.short = true) : eachR f r0 = (l, r) := by
  rw [h.eq]
  rcases hs with rfl | hs
  · simp [eachN]
  · cases n with
    | zero => simp [eachN]
    | succ n => unfold eachN; rw [if_pos hs]; simp
abbrev tHp (r : Rd) (l : List ByteArray) : Hp := [some (.box 128 [.v (.sl (bR r.rest)), .v (.lit (.bool r.short))]), some (.box 125 [.ptr 0 0]), some (.box 104 [.ar 3]), some (.arr 9 1 (strRows l))]
theorem strRows_snoc (l : List ByteArray) (t : ByteArray) : strRows (l ++ [t]) = strRows l ++ [[.lit (.string t)]] := by simp [strRows]
theorem strRows_ul (l : List ByteArray) : UL 1 (strRows l) := by
  intro r hr
  obtain ⟨y, _, rfl⟩ := List.mem_map.1 hr
  rfl
theorem txStep_c (r : Rd) (l : List ByteArray) (hl : l.length ≤ 1000) : DetCall Tryz.prog G 91 3 (tHp r l) [.one (.ptr 2 0), .one (.ptr 1 0)] (.tup []) (tHp (txtR r).2 (l ++ [(txtR r).1])) := by
  have ht := rtext_c (G := G) r
  have h1 : (strRows l).length = l.length := by simp [strRows]
  have h2 := strRows_ul l
  generalize txtR r = q at *
  obtain ⟨t, r2⟩ := q
  simp only at ht
  have h3 := strRows_snoc l t
  unfold tHp
  rw [h3]
  unfold rHp at ht
  refine gcallc mixed Tryz.func91 ac_wire_reader_texts_1 ?_
  repeat' (first | (with_reducible first | refine Cn (fun h => ?_) fun h => ?_ | refine And.intro ?_ ?_ | refine wR ?_ | exact wr _ _ | refine wa ?_ | apply awp_join | refine qg ht ?_ | refine qgd ht ?_) | (with_reducible refine CallZ.z ?_) | simp -dsimp [go_sem, h1, h2])
  all_goals first | omega | (simp [UL]; done) | trace_state
theorem txEach_c  (r0 : Rd) : DetCall Tryz.prog G 56 3 (tHp  r0 []) [.one (.ptr 0 0), .fn 91 [] [.ptr 2 0, .ptr 1 0]] (.tup []) (tHp  (eachR txtR r0).2 (eachR txtR r0).1) := by
  have hsm := rsmall_c (G := G) r0
  have hle := smallR_lt r0
  have hen := en91
  have hfirst := OnWay.first txtR r0
  generalize smallR r0 = q at *
  obtain ⟨n, r⟩ := q
  simp only at hle hfirst
  refine gcallc mixed Tryz.func56 ac_wire_reader_each ?_
  unfold tHp
  unfold rHp at hsm
  repeat' (first | (with_reducible first | refine Cn (fun h => ?_) fun h => ?_ | refine And.intro ?_ ?_ | refine wR ?_ | exact wr _ _ | refine wa ?_ | apply awp_join | refine qg hsm ?_ | refine qgd hsm ?_) | (with_reducible refine CallZ.z ?_) | simp -dsimp [go_sem])
  refine awp_loop (fun x : Nat × Rd × List ByteArray => ⟨[(0, .one (.ptr 0 0)), (1, .fn 91 [] [.ptr 2 0, .ptr 1 0]), (4, iV x.1)], G, tHp  x.2.1 x.2.2⟩) (fun x => OnWay txtR r0 x.1 x.2.1 x.2.2) (fun x => x.1) (n, r, []) (weak_auto ?_) hfirst ?_
  · simp -dsimp [go_sem, strRows]
  · rintro ⟨n, r, l⟩ hw
    simp only at hw
    have hwl := hw.le
    unfold tHp
    cases n with
    | zero =>
      rw [hw.stop (.inl rfl)]
      repeat' (first | (with_reducible first | refine Cn (fun h => ?_) fun h => ?_ | refine And.intro ?_ ?_ | refine wR ?_ | exact wr _ _ | refine wa ?_ | apply awp_join) | (with_reducible refine CallZ.z ?_) | simp -dsimp [go_sem])
      all_goals trace_state
    | succ n =>
      have w1 : IntKind.i64.wrap (n : Int) = (n : Int) := IntWalk.i64_in _ (by omega)
      have w2 : ((n + 1 : Nat) : Int) - 1 = (n : Int) := by omega
      have q1 : decide (0 < ((n + 1 : Nat) : Int)) = true := decide_eq_true (by omega)
      have q2 : decide (0 < (n : Int) + 1) = true := decide_eq_true (by omega)
      by_cases hs : r.short = true
      · rw [hw.stop (.inr hs)]
        repeat' (first | (with_reducible first | refine Cn (fun h => ?_) fun h => ?_ | refine And.intro ?_ ?_ | refine wR ?_ | exact wr _ _ | refine wa ?_ | apply awp_join) | (with_reducible refine CallZ.z ?_) | simp -dsimp [go_sem, hs, q1, q2])
        all_goals trace_state
      · have hs : r.short = false := by simpa using hs
        have hst := txStep_c (G := G)  r l (by omega)
        have hnx := hw.next hs
        generalize txtR r = q at *
        obtain ⟨t, r2⟩ := q
        simp only at hst hnx
        clear hsm
        unfold tHp at hst
        rw [hs] at hst
        repeat' (first | (with_reducible first | refine Cn (fun h => ?_) fun h => ?_ | refine And.intro ?_ ?_ | refine wR ?_ | exact wr _ _ | refine wa ?_ | apply awp_join | refine qg hst ?_ | refine qgd hst ?_) | (with_reducible refine CallZ.z ?_) | simp -dsimp [go_sem, hs, q1, q2, w1, w2, hen])
        all_goals first
          | omega
          | (refine Again.auto (n, r2, l ++ [t]) ?_ hnx ?_
             · simp -dsimp [go_sem]
             · show n < n + 1; omega)
          | trace_state
theorem rtexts_c (r : Rd) : DetCall Tryz.prog G 62 1 (rHp r) [.one (.ptr 0 0)] (.one (.v (.sl (strRows (eachR txtR r).1)))) (rHp (eachR txtR r).2) := by
  have he := txEach_c (G := G) r
  generalize eachR txtR r = q at *
  obtain ⟨l, r2⟩ := q
  simp only at he
  unfold tHp at he
  have h0 : strRows [] = [] := rfl
  rw [h0] at he
  unfold rHp
  refine gcallc mixed Tryz.func62 ac_wire_reader_texts ?_
  repeat' (first | (with_reducible first | refine Cn (fun h => ?_) fun h => ?_ | refine And.intro ?_ ?_ | refine wR ?_ | exact wr _ _ | refine wa ?_ | apply awp_join | refine qg he ?_ | refine qgd he ?_) | (refine CallZ.l (CallK.thaw 2 0 9 1 rfl rfl (by decide) ?_); simp -dsimp [go_sem]) | (with_reducible refine CallZ.z ?_) | simp -dsimp [go_sem])
  all_goals trace_state
abbrev pHp (k : Int) (t : ByteArray) (c : Int) (r : Rd) (l : List Pr) : Hp := [some (.box 128 [.v (.sl (bR r.rest)), .v (.lit (.bool r.short))]), some (.box 125 [.ptr 0 0]), some (.box 117 [iC k, sC t, iC c, .ar 3, .ar 4, .ar 5]), some (.arr 165 2 (pR l)), some (.arr 9 1 []), some (.arr 167 2 [])]
theorem pR_ul (l : List Pr) : UL 2 (pR l) := by
  intro r hr
  obtain ⟨y, _, rfl⟩ := List.mem_map.1 hr
  rfl
theorem sR_ul (l : List Sc) : UL 2 (sR l) := by
  intro r hr
  obtain ⟨y, _, rfl⟩ := List.mem_map.1 hr
  rfl
theorem prStep_c (k : Int) (t : ByteArray) (c : Int) (r : Rd) (l : List Pr) (hl : l.length ≤ 1000) : DetCall Tryz.prog G 89 3 (pHp k t c r l) [.one (.ptr 2 0), .one (.ptr 1 0)] (.tup []) (pHp k t c (prR r).2 (l ++ [(prR r).1])) := by
  have e : prR r = (((txtR r).1, (txtR (txtR r).2).1), (txtR (txtR r).2).2) := rfl
  rw [e]
  have h1 := rtext_c (G := G) r
  generalize txtR r = q at *
  obtain ⟨f, r1⟩ := q
  simp only at h1 ⊢
  have h2 := rtext_c (G := G) r1
  generalize txtR r1 = q at *
  obtain ⟨x, r2⟩ := q
  simp only at h2 ⊢
  have h3 : (pR l).length = l.length := by simp
  have h4 := pR_ul l
  have h5 : pR (l ++ [(f, x)]) = pR l ++ [[.lit (.string f), .lit (.string x)]] := by simp
  unfold pHp
  rw [h5]
  unfold rHp at h1 h2
  refine gcallc mixed Tryz.func89 ac_wire_reader_value_1 ?_
  repeat' (first | (with_reducible first | refine Cn (fun h => ?_) fun h => ?_ | refine And.intro ?_ ?_ | refine wR ?_ | exact wr _ _ | refine wa ?_ | apply awp_join | refine qg h1 ?_ | refine qgd h1 ?_ | refine qg h2 ?_ | refine qgd h2 ?_) | (with_reducible refine CallZ.z ?_) | simp -dsimp [go_sem, h3, h4])
  all_goals first | omega | (simp [UL]; done) | trace_state
theorem prEach_c (k : Int) (t : ByteArray) (c : Int) (r0 : Rd) : DetCall Tryz.prog G 56 3 (pHp k t c r0 []) [.one (.ptr 0 0), .fn 89 [] [.ptr 2 0, .ptr 1 0]] (.tup []) (pHp k t c (eachR prR r0).2 (eachR prR r0).1) := by
  have hsm := rsmall_c (G := G) r0
  have hle := smallR_lt r0
  have hen := en89
  have hfirst := OnWay.first prR r0
  generalize smallR r0 = q at *
  obtain ⟨n, r⟩ := q
  simp only at hle hfirst
  refine gcallc mixed Tryz.func56 ac_wire_reader_each ?_
  unfold pHp
  unfold rHp at hsm
  repeat' (first | (with_reducible first | refine Cn (fun h => ?_) fun h => ?_ | refine And.intro ?_ ?_ | refine wR ?_ | exact wr _ _ | refine wa ?_ | apply awp_join | refine qg hsm ?_ | refine qgd hsm ?_) | (with_reducible refine CallZ.z ?_) | simp -dsimp [go_sem])
  refine awp_loop (fun x : Nat × Rd × List Pr => ⟨[(0, .one (.ptr 0 0)), (1, .fn 89 [] [.ptr 2 0, .ptr 1 0]), (4, iV x.1)], G, pHp k t c x.2.1 x.2.2⟩) (fun x => OnWay prR r0 x.1 x.2.1 x.2.2) (fun x => x.1) (n, r, []) (weak_auto ?_) hfirst ?_
  · simp -dsimp [go_sem]
  · rintro ⟨n, r, l⟩ hw
    simp only at hw
    have hwl := hw.le
    unfold pHp
    cases n with
    | zero =>
      rw [hw.stop (.inl rfl)]
      repeat' (first | (with_reducible first | refine Cn (fun h => ?_) fun h => ?_ | refine And.intro ?_ ?_ | refine wR ?_ | exact wr _ _ | refine wa ?_ | apply awp_join) | (with_reducible refine CallZ.z ?_) | simp -dsimp [go_sem])
      all_goals trace_state
    | succ n =>
      have w1 : IntKind.i64.wrap (n : Int) = (n : Int) := IntWalk.i64_in _ (by omega)
      have w2 : ((n + 1 : Nat) : Int) - 1 = (n : Int) := by omega
      have q1 : decide (0 < ((n + 1 : Nat) : Int)) = true := decide_eq_true (by omega)
      have q2 : decide (0 < (n : Int) + 1) = true := decide_eq_true (by omega)
      by_cases hs : r.short = true
      · rw [hw.stop (.inr hs)]
        repeat' (first | (with_reducible first | refine Cn (fun h => ?_) fun h => ?_ | refine And.intro ?_ ?_ | refine wR ?_ | exact wr _ _ | refine wa ?_ | apply awp_join) | (with_reducible refine CallZ.z ?_) | simp -dsimp [go_sem, hs, q1, q2])
        all_goals trace_state
      · have hs : r.short = false := by simpa using hs
        have hst := prStep_c (G := G) k t c r l (by omega)
        have hnx := hw.next hs
        generalize prR r = q at *
        obtain ⟨t, r2⟩ := q
        simp only at hst hnx
        clear hsm
        unfold pHp at hst
        rw [hs] at hst
        repeat' (first | (with_reducible first | refine Cn (fun h => ?_) fun h => ?_ | refine And.intro ?_ ?_ | refine wR ?_ | exact wr _ _ | refine wa ?_ | apply awp_join | refine qg hst ?_ | refine qgd hst ?_) | (with_reducible refine CallZ.z ?_) | simp -dsimp [go_sem, hs, q1, q2, w1, w2, hen])
        all_goals first
          | omega
          | (refine Again.auto (n, r2, l ++ [t]) ?_ hnx ?_
             · simp -dsimp [go_sem]
             · show n < n + 1; omega)
          | trace_state
abbrev sHp (k : Int) (t : ByteArray) (c : Int) (ps : List Pr) (is : List ByteArray) (r : Rd) (l : List Sc) : Hp := [some (.box 128 [.v (.sl (bR r.rest)), .v (.lit (.bool r.short))]), some (.box 125 [.ptr 0 0]), some (.box 117 [iC k, sC t, iC c, .ar 3, .v (.sl (strRows is)), .ar 4]), some (.arr 165 2 (pR ps)), some (.arr 167 2 (sR l))]
theorem scStep_c (k : Int) (t : ByteArray) (c : Int) (ps : List Pr) (is : List ByteArray) (r : Rd) (l : List Sc) (hl : l.length ≤ 1000) : DetCall Tryz.prog G 90 3 (sHp k t c ps is r l) [.one (.ptr 2 0), .one (.ptr 1 0)] (.tup []) (sHp k t c ps is (scR r).2 (l ++ [(scR r).1])) := by
  have e : scR r = (((txtR r).1, (numR (txtR r).2).1), (numR (txtR r).2).2) := rfl
  rw [e]
  have h1 := rtext_c (G := G) r
  generalize txtR r = q at *
  obtain ⟨f, r1⟩ := q
  simp only at h1 ⊢
  have h2 := rnumber_c (G := G) r1
  generalize numR r1 = q at *
  obtain ⟨x, r2⟩ := q
  simp only at h2 ⊢
  have h3 : (sR l).length = l.length := by simp
  have h4 := sR_ul l
  have h5 : sR (l ++ [(f, x)]) = sR l ++ [[.lit (.string f), .lit (.int .i64 x)]] := by simp
  unfold sHp
  rw [h5]
  unfold rHp at h1 h2
  refine gcallc mixed Tryz.func90 ac_wire_reader_value_2 ?_
  repeat' (first | (with_reducible first | refine Cn (fun h => ?_) fun h => ?_ | refine And.intro ?_ ?_ | refine wR ?_ | exact wr _ _ | refine wa ?_ | apply awp_join | refine qg h1 ?_ | refine qgd h1 ?_ | refine qg h2 ?_ | refine qgd h2 ?_) | (with_reducible refine CallZ.z ?_) | simp -dsimp [go_sem, h3, h4])
  all_goals first | omega | (simp [UL]; done) | trace_state
theorem scEach_c (k : Int) (t : ByteArray) (c : Int) (ps : List Pr) (is : List ByteArray) (r0 : Rd) : DetCall Tryz.prog G 56 3 (sHp k t c ps is r0 []) [.one (.ptr 0 0), .fn 90 [] [.ptr 2 0, .ptr 1 0]] (.tup []) (sHp k t c ps is (eachR scR r0).2 (eachR scR r0).1) := by
  have hsm := rsmall_c (G := G) r0
  have hle := smallR_lt r0
  have hen := en90
  have hfirst := OnWay.first scR r0
  generalize smallR r0 = q at *
  obtain ⟨n, r⟩ := q
  simp only at hle hfirst
  refine gcallc mixed Tryz.func56 ac_wire_reader_each ?_
  unfold sHp
  unfold rHp at hsm
  repeat' (first | (with_reducible first | refine Cn (fun h => ?_) fun h => ?_ | refine And.intro ?_ ?_ | refine wR ?_ | exact wr _ _ | refine wa ?_ | apply awp_join | refine qg hsm ?_ | refine qgd hsm ?_) | (with_reducible refine CallZ.z ?_) | simp -dsimp [go_sem])
  refine awp_loop (fun x : Nat × Rd × List Sc => ⟨[(0, .one (.ptr 0 0)), (1, .fn 90 [] [.ptr 2 0, .ptr 1 0]), (4, iV x.1)], G, sHp k t c ps is x.2.1 x.2.2⟩) (fun x => OnWay scR r0 x.1 x.2.1 x.2.2) (fun x => x.1) (n, r, []) (weak_auto ?_) hfirst ?_
  · simp -dsimp [go_sem]
  · rintro ⟨n, r, l⟩ hw
    simp only at hw
    have hwl := hw.le
    unfold sHp
    cases n with
    | zero =>
      rw [hw.stop (.inl rfl)]
      repeat' (first | (with_reducible first | refine Cn (fun h => ?_) fun h => ?_ | refine And.intro ?_ ?_ | refine wR ?_ | exact wr _ _ | refine wa ?_ | apply awp_join) | (with_reducible refine CallZ.z ?_) | simp -dsimp [go_sem])
      all_goals trace_state
    | succ n =>
      have w1 : IntKind.i64.wrap (n : Int) = (n : Int) := IntWalk.i64_in _ (by omega)
      have w2 : ((n + 1 : Nat) : Int) - 1 = (n : Int) := by omega
      have q1 : decide (0 < ((n + 1 : Nat) : Int)) = true := decide_eq_true (by omega)
      have q2 : decide (0 < (n : Int) + 1) = true := decide_eq_true (by omega)
      by_cases hs : r.short = true
      · rw [hw.stop (.inr hs)]
        repeat' (first | (with_reducible first | refine Cn (fun h => ?_) fun h => ?_ | refine And.intro ?_ ?_ | refine wR ?_ | exact wr _ _ | refine wa ?_ | apply awp_join) | (with_reducible refine CallZ.z ?_) | simp -dsimp [go_sem, hs, q1, q2])
        all_goals trace_state
      · have hs : r.short = false := by simpa using hs
        have hst := scStep_c (G := G) k t c ps is r l (by omega)
        have hnx := hw.next hs
        generalize scR r = q at *
        obtain ⟨t, r2⟩ := q
        simp only at hst hnx
        clear hsm
        unfold sHp at hst
        rw [hs] at hst
        repeat' (first | (with_reducible first | refine Cn (fun h => ?_) fun h => ?_ | refine And.intro ?_ ?_ | refine wR ?_ | exact wr _ _ | refine wa ?_ | apply awp_join | refine qg hst ?_ | refine qgd hst ?_) | (with_reducible refine CallZ.z ?_) | simp -dsimp [go_sem, hs, q1, q2, w1, w2, hen])
        all_goals first
          | omega
          | (refine Again.auto (n, r2, l ++ [t]) ?_ hnx ?_
             · simp -dsimp [go_sem]
             · show n < n + 1; omega)
          | trace_state
theorem valR_eq (r : Rd) : valR r = (⟨((smallR r).1 : Int), (txtR (smallR r).2).1, (numR (txtR (smallR r).2).2).1, (eachR prR (numR (txtR (smallR r).2).2).2).1, (eachR txtR (eachR prR (numR (txtR (smallR r).2).2).2).2).1, (eachR scR (eachR txtR (eachR prR (numR (txtR (smallR r).2).2).2).2).2).1⟩, (eachR scR (eachR txtR (eachR prR (numR (txtR (smallR r).2).2).2).2).2).2) := id rfl
theorem rvalue_c (r : Rd) : DetCall Tryz.prog G 59 1 (rHp r) [.one (.ptr 0 0)] (.agg (valR r).1.c) (rHp (valR r).2) := by
  rw [valR_eq]
  have h1 := rsmall_c (G := G) r
  generalize smallR r = q at *
  obtain ⟨k, r1⟩ := q
  simp only at h1 ⊢
  have h2 := rtext_c (G := G) r1
  generalize txtR r1 = q at *
  obtain ⟨t, r2⟩ := q
  simp only at h2 ⊢
  have h3 := rnumber_c (G := G) r2
  generalize numR r2 = q at *
  obtain ⟨c, r3⟩ := q
  simp only at h3 ⊢
  have h4 := prEach_c (G := G) k t c r3
  generalize eachR prR r3 = q at *
  obtain ⟨ps, r4⟩ := q
  simp only at h4 ⊢
  have h5 := rtexts_c (G := G) r4
  generalize eachR txtR r4 = q at *
  obtain ⟨is, r5⟩ := q
  simp only at h5 ⊢
  have h6 := scEach_c (G := G) k t c ps is r5
  generalize eachR scR r5 = q at *
  obtain ⟨ss, r6⟩ := q
  simp only at h6 ⊢
  unfold rHp at *
  unfold pHp at h4
  unfold sHp at h6
  simp only [Val.c]
  refine gcallc mixed Tryz.func59 ac_wire_reader_value ?_
  repeat' (first | (with_reducible first | refine Cn (fun h => ?_) fun h => ?_ | refine And.intro ?_ ?_ | refine wR ?_ | exact wr _ _ | refine wa ?_ | apply awp_join | refine qg h1 ?_ | refine qgd h1 ?_ | refine qg h2 ?_ | refine qgd h2 ?_ | refine qg h3 ?_ | refine qgd h3 ?_ | refine qg h4 ?_ | refine qgd h4 ?_ | refine qg h5 ?_ | refine qgd h5 ?_ | refine qg h6 ?_ | refine qgd h6 ?_ | refine q (simp -dsimp [go_sem]) ?_ | refine qd (simp -dsimp [go_sem]) ?_ | refine qz (simp -dsimp [go_sem]) ?_) | (refine CallZ.l (CallK.thaw 3 3 165 2 rfl rfl (by decide) (CallK.thaw 3 4 9 1 rfl rfl (by decide) (CallK.thaw 3 5 167 2 rfl rfl (by decide) ?_)))) | (with_reducible refine CallZ.z ?_) | simp -dsimp [go_sem])
  all_goals trace_state
end Go.Proofs.YtpdcfljbabpakaaGreatDoor
set_option linter.unusedVariables false
set_option linter.unusedSimpArgs false
set_option maxRecDepth 100000
set_option maxHeartbeats 8000000
namespace Go.Proofs.YtpdcfljbabpakaaGreatDoor
open Go Go.RowKit Go.Proofs.AE
variable {G : Nat → AV}
abbrev eHp (now nx : Int) (cs : List Cli) (r : Rd) (l : List Ent) : Hp := [some (.box 128 [.v (.sl (bR r.rest)), .v (.lit (.bool r.short))]), some (.box 125 [.ptr 0 0]), some (.box 28 [iC now, .ar 3, iC nx, .ar 4]), some (.arr 119 8 (eR l)), some (.arr 123 7 (clR cs))]
theorem entR_eq (r : Rd) : entR r = (⟨(txtR r).1, (valR (txtR r).2).1, (numR (valR (txtR r).2).2).1⟩, (numR (valR (txtR r).2).2).2) := id rfl
theorem enStep_c (now nx : Int) (cs : List Cli) (r : Rd) (l : List Ent) (hl : l.length ≤ 1000) : DetCall Tryz.prog G 57 3 (eHp now nx cs r l) [.one (.ptr 2 0), .one (.ptr 1 0)] (.tup []) (eHp now nx cs (entR r).2 (l ++ [(entR r).1])) := by
  rw [entR_eq]
  have h1 := rtext_c (G := G) r
  generalize txtR r = q at *
  obtain ⟨f, r1⟩ := q
  simp only at h1 ⊢
  have h2 := rvalue_c (G := G) r1
  generalize valR r1 = q at *
  obtain ⟨⟨vk, vt, vn, vp, vi, vs⟩, r2⟩ := q
  simp only [Val.c] at h2 ⊢
  have h3 := rnumber_c (G := G) r2
  generalize numR r2 = q at *
  obtain ⟨x, r3⟩ := q
  simp only at h3 ⊢
  have h4 : (eR l).length = l.length := by simp
  have h5 := ul_e l
  have h6 : eR (l ++ [⟨f, ⟨vk, vt, vn, vp, vi, vs⟩, x⟩]) = eR l ++ [[.lit (.string f), .lit (.int .i64 vk), .lit (.string vt), .lit (.int .i64 vn), .sl (pR vp), .sl (strRows vi), .sl (sR vs), .lit (.int .i64 x)]] := by simp [Ent.row]
  unfold eHp
  rw [h6]
  unfold rHp at h1 h2 h3
  refine gcallc mixed Tryz.func57 ac_wire_Decode_1 ?_
  repeat' (first | (with_reducible first | refine Cn (fun h => ?_) fun h => ?_ | refine And.intro ?_ ?_ | refine wR ?_ | exact wr _ _ | refine wa ?_ | apply awp_join | refine qg h1 ?_ | refine qgd h1 ?_ | refine qg h2 ?_ | refine qgd h2 ?_ | refine qg h3 ?_ | refine qgd h3 ?_) | (with_reducible refine CallZ.z ?_) | simp -dsimp [go_sem, h4, h5])
  all_goals first | omega | (simp [UL]; done) | trace_state
theorem enEach_c (now nx : Int) (cs : List Cli) (r0 : Rd) : DetCall Tryz.prog G 56 3 (eHp now nx cs r0 []) [.one (.ptr 0 0), .fn 57 [] [.ptr 2 0, .ptr 1 0]] (.tup []) (eHp now nx cs (eachR entR r0).2 (eachR entR r0).1) := by
  have hsm := rsmall_c (G := G) r0
  have hle := smallR_lt r0
  have hen := en57
  have hfirst := OnWay.first entR r0
  generalize smallR r0 = q at *
  obtain ⟨n, r⟩ := q
  simp only at hle hfirst
  refine gcallc mixed Tryz.func56 ac_wire_reader_each ?_
  unfold eHp
  unfold rHp at hsm
  repeat' (first | (with_reducible first | refine Cn (fun h => ?_) fun h => ?_ | refine And.intro ?_ ?_ | refine wR ?_ | exact wr _ _ | refine wa ?_ | apply awp_join | refine qg hsm ?_ | refine qgd hsm ?_) | (with_reducible refine CallZ.z ?_) | simp -dsimp [go_sem])
  refine awp_loop (fun x : Nat × Rd × List Ent => ⟨[(0, .one (.ptr 0 0)), (1, .fn 57 [] [.ptr 2 0, .ptr 1 0]), (4, iV x.1)], G, eHp now nx cs x.2.1 x.2.2⟩) (fun x => OnWay entR r0 x.1 x.2.1 x.2.2) (fun x => x.1) (n, r, []) (weak_auto ?_) hfirst ?_
  · simp -dsimp [go_sem]
  · rintro ⟨n, r, l⟩ hw
    simp only at hw
    have hwl := hw.le
    unfold eHp
    cases n with
    | zero =>
      rw [hw.stop (.inl rfl)]
      repeat' (first | (with_reducible first | refine Cn (fun h => ?_) fun h => ?_ | refine And.intro ?_ ?_ | refine wR ?_ | exact wr _ _ | refine wa ?_ | apply awp_join) | (with_reducible refine CallZ.z ?_) | simp -dsimp [go_sem])
      all_goals trace_state
    | succ n =>
      have w1 : IntKind.i64.wrap (n : Int) = (n : Int) := IntWalk.i64_in _ (by omega)
      have w2 : ((n + 1 : Nat) : Int) - 1 = (n : Int) := by omega
      have q1 : decide (0 < ((n + 1 : Nat) : Int)) = true := decide_eq_true (by omega)
      have q2 : decide (0 < (n : Int) + 1) = true := decide_eq_true (by omega)
      by_cases hs : r.short = true
      · rw [hw.stop (.inr hs)]
        repeat' (first | (with_reducible first | refine Cn (fun h => ?_) fun h => ?_ | refine And.intro ?_ ?_ | refine wR ?_ | exact wr _ _ | refine wa ?_ | apply awp_join) | (with_reducible refine CallZ.z ?_) | simp -dsimp [go_sem, hs, q1, q2])
        all_goals trace_state
      · have hs : r.short = false := by simpa using hs
        have hst := enStep_c (G := G) now nx cs r l (by omega)
        have hnx := hw.next hs
        generalize entR r = q at *
        obtain ⟨t, r2⟩ := q
        simp only at hst hnx
        clear hsm
        unfold eHp at hst
        rw [hs] at hst
        repeat' (first | (with_reducible first | refine Cn (fun h => ?_) fun h => ?_ | refine And.intro ?_ ?_ | refine wR ?_ | exact wr _ _ | refine wa ?_ | apply awp_join | refine qg hst ?_ | refine qgd hst ?_) | (with_reducible refine CallZ.z ?_) | simp -dsimp [go_sem, hs, q1, q2, w1, w2, hen])
        all_goals first
          | omega
          | (refine Again.auto (n, r2, l ++ [t]) ?_ hnx ?_
             · simp -dsimp [go_sem]
             · show n < n + 1; omega)
          | trace_state
abbrev cHp (now nx : Int) (es : List Ent) (r : Rd) (l : List Cli) : Hp := [some (.box 128 [.v (.sl (bR r.rest)), .v (.lit (.bool r.short))]), some (.box 125 [.ptr 0 0]), some (.box 28 [iC now, .ar 3, iC nx, .ar 4]), some (.arr 119 8 (eR es)), some (.arr 123 7 (clR l))]
def cliR3 (r : Rd) : (Int × Int × Int) × Rd := (((numR r).1, (numR (numR r).2).1, (numR (numR (numR r).2).2).1), (numR (numR (numR r).2).2).2)
def repR3 (r : Rd) : (Int × ByteArray × Int) × Rd := ((((smallR r).1 : Int), (txtR (smallR r).2).1, (numR (txtR (smallR r).2).2).1), (numR (txtR (smallR r).2).2).2)
theorem cliR_eq (r : Rd) : cliR r = (⟨(cliR3 r).1.1, (cliR3 r).1.2.1, (cliR3 r).1.2.2, ⟨(repR3 (cliR3 r).2).1.1, (repR3 (cliR3 r).2).1.2.1, (repR3 (cliR3 r).2).1.2.2, (eachR txtR (repR3 (cliR3 r).2).2).1⟩⟩, (eachR txtR (repR3 (cliR3 r).2).2).2) := id rfl
theorem cl_ul (l : List Cli) : UL 7 (clR l) := by
  intro r hr
  obtain ⟨y, _, rfl⟩ := List.mem_map.1 hr
  rfl
theorem clStep_c (now nx : Int) (es : List Ent) (r : Rd) (l : List Cli) (hl : l.length ≤ 1000) : DetCall Tryz.prog G 60 3 (cHp now nx es r l) [.one (.ptr 1 0), .one (.ptr 2 0)] (.tup []) (cHp now nx es (cliR r).2 (l ++ [(cliR r).1])) := by
  rw [cliR_eq]
  unfold cliR3 repR3
  have h1 := rnumber_c (G := G) r
  generalize numR r = q at *
  obtain ⟨id, r1⟩ := q
  simp only at h1 ⊢
  have h2 := rnumber_c (G := G) r1
  generalize numR r1 = q at *
  obtain ⟨seq, r2⟩ := q
  simp only at h2 ⊢
  have h3 := rnumber_c (G := G) r2
  generalize numR r2 = q at *
  obtain ⟨time, r3⟩ := q
  simp only at h3 ⊢
  have h4 := rsmall_c (G := G) r3
  generalize smallR r3 = q at *
  obtain ⟨code, r4⟩ := q
  simp only at h4 ⊢
  have h5 := rtext_c (G := G) r4
  generalize txtR r4 = q at *
  obtain ⟨tx, r5⟩ := q
  simp only at h5 ⊢
  have h6 := rnumber_c (G := G) r5
  generalize numR r5 = q at *
  obtain ⟨n, r6⟩ := q
  simp only at h6 ⊢
  have h7 := rtexts_c (G := G) r6
  generalize eachR txtR r6 = q at *
  obtain ⟨li, r7⟩ := q
  simp only at h7 ⊢
  have k1 : (clR l).length = l.length := by simp
  have k2 := cl_ul l
  have k3 : clR (l ++ [⟨id, seq, time, ⟨(code : Int), tx, n, li⟩⟩]) = clR l ++ [[.lit (.int .i64 id), .lit (.int .i64 seq), .lit (.int .i64 time), .lit (.int .i64 (code : Int)), .lit (.string tx), .lit (.int .i64 n), .sl (strRows li)]] := by simp [Cli.row]
  unfold cHp
  rw [k3]
  unfold rHp at *
  refine gcallc mixed Tryz.func60 ac_wire_Decode_2 ?_
  repeat' (first | (with_reducible first | refine Cn (fun h => ?_) fun h => ?_ | refine And.intro ?_ ?_ | refine wR ?_ | exact wr _ _ | refine wa ?_ | apply awp_join | refine qg h1 ?_ | refine qgd h1 ?_ | refine qg h2 ?_ | refine qgd h2 ?_ | refine qg h3 ?_ | refine qgd h3 ?_ | refine qg h4 ?_ | refine qgd h4 ?_ | refine qg h5 ?_ | refine qgd h5 ?_ | refine qg h6 ?_ | refine qgd h6 ?_ | refine qg h7 ?_ | refine qgd h7 ?_) | (with_reducible refine CallZ.z ?_) | simp -dsimp [go_sem, k1, k2])
  all_goals first | omega | (simp [UL]; done) | trace_state
theorem clEach_c (now nx : Int) (es : List Ent) (r0 : Rd) : DetCall Tryz.prog G 56 3 (cHp now nx es r0 []) [.one (.ptr 0 0), .fn 60 [] [.ptr 1 0, .ptr 2 0]] (.tup []) (cHp now nx es (eachR cliR r0).2 (eachR cliR r0).1) := by
  have hsm := rsmall_c (G := G) r0
  have hle := smallR_lt r0
  have hen := en60
  have hfirst := OnWay.first cliR r0
  generalize smallR r0 = q at *
  obtain ⟨n, r⟩ := q
  simp only at hle hfirst
  refine gcallc mixed Tryz.func56 ac_wire_reader_each ?_
  unfold cHp
  unfold rHp at hsm
  repeat' (first | (with_reducible first | refine Cn (fun h => ?_) fun h => ?_ | refine And.intro ?_ ?_ | refine wR ?_ | exact wr _ _ | refine wa ?_ | apply awp_join | refine qg hsm ?_ | refine qgd hsm ?_) | (with_reducible refine CallZ.z ?_) | simp -dsimp [go_sem])
  refine awp_loop (fun x : Nat × Rd × List Cli => ⟨[(0, .one (.ptr 0 0)), (1, .fn 60 [] [.ptr 1 0, .ptr 2 0]), (4, iV x.1)], G, cHp now nx es x.2.1 x.2.2⟩) (fun x => OnWay cliR r0 x.1 x.2.1 x.2.2) (fun x => x.1) (n, r, []) (weak_auto ?_) hfirst ?_
  · simp -dsimp [go_sem]
  · rintro ⟨n, r, l⟩ hw
    simp only at hw
    have hwl := hw.le
    unfold cHp
    cases n with
    | zero =>
      rw [hw.stop (.inl rfl)]
      repeat' (first | (with_reducible first | refine Cn (fun h => ?_) fun h => ?_ | refine And.intro ?_ ?_ | refine wR ?_ | exact wr _ _ | refine wa ?_ | apply awp_join) | (with_reducible refine CallZ.z ?_) | simp -dsimp [go_sem])
      all_goals trace_state
    | succ n =>
      have w1 : IntKind.i64.wrap (n : Int) = (n : Int) := IntWalk.i64_in _ (by omega)
      have w2 : ((n + 1 : Nat) : Int) - 1 = (n : Int) := by omega
      have q1 : decide (0 < ((n + 1 : Nat) : Int)) = true := decide_eq_true (by omega)
      have q2 : decide (0 < (n : Int) + 1) = true := decide_eq_true (by omega)
      by_cases hs : r.short = true
      · rw [hw.stop (.inr hs)]
        repeat' (first | (with_reducible first | refine Cn (fun h => ?_) fun h => ?_ | refine And.intro ?_ ?_ | refine wR ?_ | exact wr _ _ | refine wa ?_ | apply awp_join) | (with_reducible refine CallZ.z ?_) | simp -dsimp [go_sem, hs, q1, q2])
        all_goals trace_state
      · have hs : r.short = false := by simpa using hs
        have hst := clStep_c (G := G) now nx es r l (by omega)
        have hnx := hw.next hs
        generalize cliR r = q at *
        obtain ⟨t, r2⟩ := q
        simp only at hst hnx
        clear hsm
        unfold cHp at hst
        rw [hs] at hst
        repeat' (first | (with_reducible first | refine Cn (fun h => ?_) fun h => ?_ | refine And.intro ?_ ?_ | refine wR ?_ | exact wr _ _ | refine wa ?_ | apply awp_join | refine qg hst ?_ | refine qgd hst ?_) | (with_reducible refine CallZ.z ?_) | simp -dsimp [go_sem, hs, q1, q2, w1, w2, hen])
        all_goals first
          | omega
          | (refine Again.auto (n, r2, l ++ [t]) ?_ hnx ?_
             · simp -dsimp [go_sem]
             · show n < n + 1; omega)
          | trace_state
end Go.Proofs.YtpdcfljbabpakaaGreatDoor
set_option linter.unusedVariables false
set_option linter.unusedSimpArgs false
set_option maxRecDepth 100000
set_option maxHeartbeats 8000000
namespace Go.Proofs.YtpdcfljbabpakaaGreatDoor
open Go Go.RowKit Go.Proofs.AE
variable {G : Nat → AV}
theorem eachN_of {α : Type} {f : Rd → α × Rd} : ∀ (n : Nat) (r : Rd), ∀ a ∈ (eachN f n r).1, ∃ r', a = (f r').1
  | 0, r, a, h => by cases h
  | n + 1, r, a, h => by
    unfold eachN at h
    split at h
    · cases h
    · rcases List.mem_cons.1 h with rfl | h
      · exact ⟨r, rfl⟩
      · exact eachN_of n _ a h
theorem mach_small (r : Rd) : (machR r).1.sto.Small ∧ (machR r).1.clis.length ≤ 1000000 := by
  refine ⟨⟨?_, fun e he => ?_⟩, ?_⟩
  · show (eachR entR (numR r).2).1.length ≤ 1000
    have := eachR_len entR (numR r).2; omega
  · obtain ⟨r', rfl⟩ := eachN_of _ _ e he
    rw [entR_eq]
    show (valR (txtR r').2).1.Small
    rw [valR_eq]
    have h1 := eachR_len prR (numR (txtR (smallR (txtR r').2).2).2).2
    have h2 := eachR_len txtR (eachR prR (numR (txtR (smallR (txtR r').2).2).2).2).2
    have h3 := eachR_len scR (eachR txtR (eachR prR (numR (txtR (smallR (txtR r').2).2).2).2).2).2
    unfold Val.Small
    simp only
    omega
  · have := eachR_len cliR (numR (eachR entR (numR r).2).2).2
    show (eachR cliR (numR (eachR entR (numR r).2).2).2).1.length ≤ 1000000
    omega
theorem cloneB_c (l : List UInt8) (hx : l.length ≤ 1000000) : PCall Tryz.prog G 54 [.one (.v (.sl (bR l)))] (.one (.v (.sl (bR l)))) := by
  have h1 := bR_ul l
  have h2 := bR_len l
  refine pcallc mixed Tryz.func54 ac_slices_Clone_byte ?_
  repeat' (first | (with_reducible first | refine Cn (fun h => ?_) fun h => ?_ | refine And.intro ?_ ?_ | refine wR ?_ | exact wr _ _ | refine wa ?_ | apply awp_join | refine q (cases q) ?_ | refine qd (cases q) ?_ | refine qz (cases q) ?_) | (intro q hq) | (with_reducible refine CallZ.z ?_) | simp -dsimp [go_sem, h1, h2])
  all_goals first | omega | exact h1 | trace_state
theorem machR_eq (r : Rd) : machR r = (⟨⟨(numR r).1, (eachR entR (numR r).2).1⟩, (numR (eachR entR (numR r).2).2).1, (eachR cliR (numR (eachR entR (numR r).2).2).2).1⟩, (eachR cliR (numR (eachR entR (numR r).2).2).2).2) := id rfl
theorem endR_eq (r : Rd) : (if r.short then 9 else if true = false ∨ 0 < r.rest.length then 8 else 0 : Int) = endR r := by unfold endR; simp
theorem decode_c (l : List UInt8) : PCall Tryz.prog G 26 [.one (.v (.sl (bR l)))] (.tup [.agg (decM l).1.c, iV (decM l).2]) := by
  have hlen := bR_len l
  unfold decM
  by_cases h0 : 20000 < l.length
  · rw [if_pos h0]
    have q0 : decide (20000 < (l.length : Int)) = true := decide_eq_true (by omega)
    simp only [zeroM, zeroS, Mach.c, List.map_nil]
    refine pcallc mixed Tryz.func26 ac_wire_Decode ?_
    repeat' (first | (with_reducible first | refine Cn (fun h => ?_) fun h => ?_ | refine And.intro ?_ ?_ | refine wR ?_ | exact wr _ _ | refine wa ?_ | apply awp_join) | (with_reducible refine CallZ.z ?_) | simp -dsimp [go_sem, hlen, q0])
    all_goals trace_state
  · rw [if_neg h0]
    have q0 : decide (20000 < (l.length : Int)) = false := decide_eq_false (by omega)
    have hcl := cloneB_c (G := G) l (by omega)
    obtain ⟨hs1, hs2⟩ := mach_small ⟨l, false⟩
    have hck := checkM_c (G := G) (machR ⟨l, false⟩).1 hs1 hs2
    clear hs1 hs2
    rw [machR_eq] at hck ⊢
    have h1 := rnumber_c (G := G) ⟨l, false⟩
    generalize numR ⟨l, false⟩ = q at *
    obtain ⟨now, r1⟩ := q
    simp only at h1 hck ⊢
    have h2 := enEach_c (G := G) now 0 [] r1
    generalize eachR entR r1 = q at *
    obtain ⟨es, r2⟩ := q
    simp only at h2 hck ⊢
    have h3 := rnumber_c (G := G) r2
    generalize numR r2 = q at *
    obtain ⟨nx, r3⟩ := q
    simp only at h3 hck ⊢
    have h4 := clEach_c (G := G) now nx es r3
    generalize eachR cliR r3 = q at *
    obtain ⟨cs, r4⟩ := q
    simp only at h4 hck ⊢
    have h5 := rend_c (G := G) r4 true
    rw [endR_eq] at h5
    generalize endR r4 = e at *
    have he0 : eR [] = [] := rfl
    unfold rHp at h1 h3 h5
    unfold eHp at h2
    unfold cHp at h4
    simp only [Mach.c] at hck
    by_cases he : e ≠ 0
    · rw [if_pos he]
      have q1 : (e != 0) = true := by simpa using he
      simp only [zeroM, zeroS, Mach.c, List.map_nil]
      refine pcallc mixed Tryz.func26 ac_wire_Decode ?_
      repeat' (first | (with_reducible first | refine Cn (fun h => ?_) fun h => ?_ | refine And.intro ?_ ?_ | refine wR ?_ | exact wr _ _ | refine wa ?_ | apply awp_join | refine q hcl ?_ | refine qd hcl ?_ | refine qz hcl ?_ | refine qg h1 ?_ | refine qgd h1 ?_ | refine qg h2 ?_ | refine qgd h2 ?_ | refine qg h3 ?_ | refine qgd h3 ?_ | refine qg h4 ?_ | refine qgd h4 ?_ | refine qg h5 ?_ | refine qgd h5 ?_ | refine q (simp -dsimp [go_sem]) ?_ | refine qd (simp -dsimp [go_sem]) ?_ | refine qz (simp -dsimp [go_sem]) ?_) | (refine CallZ.l (CallK.thaw 3 1 119 8 rfl rfl (by decide) (CallK.thaw 3 3 123 7 rfl rfl (by decide) ?_))) | (with_reducible refine CallZ.z ?_) | simp -dsimp [go_sem, hlen, q0, q1])
      all_goals trace_state
    · rw [if_neg he]
      have q1 : (e != 0) = false := by simpa using he
      generalize checkM (⟨⟨now, es⟩, nx, cs⟩ : Mach) = v at *
      by_cases hv : v ≠ 0
      · rw [if_pos hv]
        have q2 : (v != 0) = true := by simpa using hv
        simp only [zeroM, zeroS, Mach.c, List.map_nil]
        refine pcallc mixed Tryz.func26 ac_wire_Decode ?_
        repeat' (first | (with_reducible first | refine Cn (fun h => ?_) fun h => ?_ | refine And.intro ?_ ?_ | refine wR ?_ | exact wr _ _ | refine wa ?_ | apply awp_join | refine q hcl ?_ | refine qd hcl ?_ | refine qz hcl ?_ | refine qg h1 ?_ | refine qgd h1 ?_ | refine qg h2 ?_ | refine qgd h2 ?_ | refine qg h3 ?_ | refine qgd h3 ?_ | refine qg h4 ?_ | refine qgd h4 ?_ | refine qg h5 ?_ | refine qgd h5 ?_ | refine q hck ?_ | refine qd hck ?_ | refine qz hck ?_ | refine q (simp -dsimp [go_sem]) ?_ | refine qd (simp -dsimp [go_sem]) ?_ | refine qz (simp -dsimp [go_sem]) ?_) | (refine CallZ.l (CallK.thaw 3 1 119 8 rfl rfl (by decide) (CallK.thaw 3 3 123 7 rfl rfl (by decide) ?_))) | (with_reducible refine CallZ.z ?_) | simp -dsimp [go_sem, hlen, q0, q1, q2])
        all_goals trace_state
      · rw [if_neg hv]
        have q2 : (v != 0) = false := by simpa using hv
        simp only [Mach.c]
        refine pcallc mixed Tryz.func26 ac_wire_Decode ?_
        repeat' (first | (with_reducible first | refine Cn (fun h => ?_) fun h => ?_ | refine And.intro ?_ ?_ | refine wR ?_ | exact wr _ _ | refine wa ?_ | apply awp_join | refine q hcl ?_ | refine qd hcl ?_ | refine qz hcl ?_ | refine qg h1 ?_ | refine qgd h1 ?_ | refine qg h2 ?_ | refine qgd h2 ?_ | refine qg h3 ?_ | refine qgd h3 ?_ | refine qg h4 ?_ | refine qgd h4 ?_ | refine qg h5 ?_ | refine qgd h5 ?_ | refine q hck ?_ | refine qd hck ?_ | refine qz hck ?_ | refine q (simp -dsimp [go_sem]) ?_ | refine qd (simp -dsimp [go_sem]) ?_ | refine qz (simp -dsimp [go_sem]) ?_) | (refine CallZ.l (CallK.thaw 3 1 119 8 rfl rfl (by decide) (CallK.thaw 3 3 123 7 rfl rfl (by decide) ?_))) | (with_reducible refine CallZ.z ?_) | simp -dsimp [go_sem, hlen, q0, q1, q2])
        all_goals trace_state
end Go.Proofs.YtpdcfljbabpakaaGreatDoor
set_option linter.unusedVariables false
set_option linter.unusedSimpArgs false
set_option maxRecDepth 100000
set_option maxHeartbeats 8000000
namespace Go.Proofs.YtpdcfljbabpakaaGreatDoor
open Go Go.RowKit Go.Proofs.AE
variable {G : Nat → AV}
theorem cloneGItems_c (rows : List (List V)) (hu : UL 10 rows) (hx : rows.length ≤ 1000000) : DetCall Tryz.prog G 71 0 [] [.one (.v (.sl rows))] (.one (.ar 0)) [some (.arr 41 10 rows)] := by
  refine gcallc mixed Tryz.func71 ac_slices_Clone_api_Item ?_
  repeat' (first | (with_reducible first | refine Cn (fun h => ?_) fun h => ?_ | refine And.intro ?_ ?_ | refine wR ?_ | exact wr _ _ | refine wa ?_ | apply awp_join | refine q (cases q) ?_ | refine qd (cases q) ?_ | refine qz (cases q) ?_) | (intro q hq) | (with_reducible refine CallZ.z ?_) | simp -dsimp [go_sem])
  all_goals first | omega | exact hu _ ‹_› | trace_state
abbrev ptL6 := PartIs.of ac_tape_line [1, 1, 1, 0]
abbrev stL6 (G : Nat → AV) (base bt p T : Int) (items : List Item) (xc : List C) : S :=
  ⟨[(24, bV false), (28, bV false), (27, iV (base + items.length + 1)), (26, iV (base + items.length)), (25, iV p), (18, bV false), (22, bV false), (21, iV base), (20, .one (.ptr 0 0)), (19, iV p), (10, iV 0), (9, iV T), (8, iV (base + items.length)), (17, iV 0), (16, iV T), (15, iV (base + items.length)), (12, .tup [iV (base + items.length), iV T, iV 0]), (14, .tup [iV (base + items.length), iV T, iV 0]), (13, .agg [iC base, iC bt, .v (.sl (items.map Item.row))]), (7, iV 0), (6, .one (.ptr 2 0)), (5, .one (.ptr 1 0)), (3, .one (.ptr 0 0)), (0, .agg [iC base, iC bt, .v (.sl (items.map Item.row))]), (1, iV p), (2, .agg xc)], G, [some (.box 47 [iC base, iC bt, .v (.sl (items.map Item.row))]), some (.box 41 xc), some (.box 47 [iC 0, iC 0, .nil])]⟩
abbrev stL7 (G : Nat → AV) (base bt : Int) (items : List Item) (k : Nat) (xr : List V) : S :=
  ⟨[(3, .one (.ptr 0 0)), (6, .one (.ptr 1 0)), (7, iV 0), (11, .one (.ptr 2 0))], G, [some (.box 47 [iC base, iC bt, .v (.sl (items.map Item.row))]), some (.box 47 [iC 0, iC 0, .nil]), some (.box 47 [iC base, iC bt, .v (.sl ((items.map Item.row).take k ++ [xr]))])]⟩
theorem line_r6_0 {base bt p T : Int} {items : List Item} {k : Nat} (x : Item) (hkl : k ≤ items.length) (hle : items.length ≤ 200) (e2 : IntKind.i64.wrap (p - base) = p - base) (e4 : IntKind.i64.wrap (p - base - 1) = (k : Int)) : AltOk Tryz.prog (codeOf ptL6) 0 (stL6 G base bt p T items (x.row.map .v)) (stL7 G base bt items k x.row) := by
  have hul : UL 10 ((items.map Item.row).take k) := ul_take (ul_rows _)
  have htl : ((items.map Item.row).take k).length = k := by simp; omega
  have hcl := cloneGItems_c (G := G) ((items.map Item.row).take k) hul (by omega)
  have hull : UL 10 (items.map Item.row) := ul_rows _
  have hll : (items.map Item.row).length = items.length := by simp
  obtain ⟨xt, xm, xn, xc, xs, xk, xa, xb, xd, xx⟩ := x
  unfold AltOk
  simp only [Item.row, List.map_cons, List.map_nil, stL6, stL7, codeOf, nthAlt, List.getD_cons_succ, List.getD_cons_zero] at *
  repeat' (first | (with_reducible first | refine Cn (fun h => ?_) fun h => ?_ | refine And.intro ?_ ?_ | refine wR ?_ | exact wr _ _ | refine weak_autoC ?_ | apply awp_join | refine qg hcl ?_ | refine qgd hcl ?_) | (with_reducible refine CallZ.z ?_) | simp -dsimp [go_sem, e2, e4, htl, hull, hul, hll, clean_nil, clean_cons, clean_yes, clean_no])
  all_goals first | omega | (simp [UL]; done) | trace_state
theorem line_r6_1 {base bt p T : Int} {items : List Item} {k : Nat} (x : Item) (hkl : k ≤ items.length) (hle : items.length ≤ 200) (e2 : IntKind.i64.wrap (p - base) = p - base) (e4 : IntKind.i64.wrap (p - base - 1) = (k : Int)) : AltOk Tryz.prog (codeOf ptL6) 1 (stL6 G base bt p T items (x.row.map .v)) (stL7 G base bt items k x.row) := by
  have hul : UL 10 ((items.map Item.row).take k) := ul_take (ul_rows _)
  have htl : ((items.map Item.row).take k).length = k := by simp; omega
  have hcl := cloneGItems_c (G := G) ((items.map Item.row).take k) hul (by omega)
  have hull : UL 10 (items.map Item.row) := ul_rows _
  have hll : (items.map Item.row).length = items.length := by simp
  obtain ⟨xt, xm, xn, xc, xs, xk, xa, xb, xd, xx⟩ := x
  unfold AltOk
  simp only [Item.row, List.map_cons, List.map_nil, stL6, stL7, codeOf, nthAlt, List.getD_cons_succ, List.getD_cons_zero] at *
  repeat' (first | (with_reducible first | refine Cn (fun h => ?_) fun h => ?_ | refine And.intro ?_ ?_ | refine wR ?_ | exact wr _ _ | refine weak_autoC ?_ | apply awp_join | refine qg hcl ?_ | refine qgd hcl ?_) | (with_reducible refine CallZ.z ?_) | simp -dsimp [go_sem, e2, e4, htl, hull, hul, hll, clean_nil, clean_cons, clean_yes, clean_no])
  all_goals first | omega | (simp [UL]; done) | trace_state
theorem line_r6_2 {base bt p T : Int} {items : List Item} {k : Nat} (x : Item) (hkl : k ≤ items.length) (hle : items.length ≤ 200) (e2 : IntKind.i64.wrap (p - base) = p - base) (e4 : IntKind.i64.wrap (p - base - 1) = (k : Int)) : AltOk Tryz.prog (codeOf ptL6) 2 (stL6 G base bt p T items (x.row.map .v)) (stL7 G base bt items k x.row) := by
  have hul : UL 10 ((items.map Item.row).take k) := ul_take (ul_rows _)
  have htl : ((items.map Item.row).take k).length = k := by simp; omega
  have hcl := cloneGItems_c (G := G) ((items.map Item.row).take k) hul (by omega)
  have hull : UL 10 (items.map Item.row) := ul_rows _
  have hll : (items.map Item.row).length = items.length := by simp
  obtain ⟨xt, xm, xn, xc, xs, xk, xa, xb, xd, xx⟩ := x
  unfold AltOk
  simp only [Item.row, List.map_cons, List.map_nil, stL6, stL7, codeOf, nthAlt, List.getD_cons_succ, List.getD_cons_zero] at *
  repeat' (first | (with_reducible first | refine Cn (fun h => ?_) fun h => ?_ | refine And.intro ?_ ?_ | refine wR ?_ | exact wr _ _ | refine weak_autoC ?_ | apply awp_join | refine qg hcl ?_ | refine qgd hcl ?_) | (with_reducible refine CallZ.z ?_) | simp -dsimp [go_sem, e2, e4, htl, hull, hul, hll, clean_nil, clean_cons, clean_yes, clean_no])
  all_goals first | omega | (simp [UL]; done) | trace_state
theorem line_r6_3 {base bt p T : Int} {items : List Item} {k : Nat} (x : Item) (hkl : k ≤ items.length) (hle : items.length ≤ 200) (e2 : IntKind.i64.wrap (p - base) = p - base) (e4 : IntKind.i64.wrap (p - base - 1) = (k : Int)) : AltOk Tryz.prog (codeOf ptL6) 3 (stL6 G base bt p T items (x.row.map .v)) (stL7 G base bt items k x.row) := by
  have hul : UL 10 ((items.map Item.row).take k) := ul_take (ul_rows _)
  have htl : ((items.map Item.row).take k).length = k := by simp; omega
  have hcl := cloneGItems_c (G := G) ((items.map Item.row).take k) hul (by omega)
  have hull : UL 10 (items.map Item.row) := ul_rows _
  have hll : (items.map Item.row).length = items.length := by simp
  obtain ⟨xt, xm, xn, xc, xs, xk, xa, xb, xd, xx⟩ := x
  unfold AltOk
  simp only [Item.row, List.map_cons, List.map_nil, stL6, stL7, codeOf, nthAlt, List.getD_cons_succ, List.getD_cons_zero] at *
  repeat' (first | (with_reducible first | refine Cn (fun h => ?_) fun h => ?_ | refine And.intro ?_ ?_ | refine wR ?_ | exact wr _ _ | refine weak_autoC ?_ | apply awp_join | refine qg hcl ?_ | refine qgd hcl ?_) | (with_reducible refine CallZ.z ?_) | simp -dsimp [go_sem, e2, e4, htl, hull, hul, hll, clean_nil, clean_cons, clean_yes, clean_no])
  all_goals first | omega | (simp [UL]; done) | trace_state
theorem line_r6_4 {base bt p T : Int} {items : List Item} {k : Nat} (x : Item) (hkl : k ≤ items.length) (hle : items.length ≤ 200) (e2 : IntKind.i64.wrap (p - base) = p - base) (e4 : IntKind.i64.wrap (p - base - 1) = (k : Int)) : AltOk Tryz.prog (codeOf ptL6) 4 (stL6 G base bt p T items (x.row.map .v)) (stL7 G base bt items k x.row) := by
  have hul : UL 10 ((items.map Item.row).take k) := ul_take (ul_rows _)
  have htl : ((items.map Item.row).take k).length = k := by simp; omega
  have hcl := cloneGItems_c (G := G) ((items.map Item.row).take k) hul (by omega)
  have hull : UL 10 (items.map Item.row) := ul_rows _
  have hll : (items.map Item.row).length = items.length := by simp
  obtain ⟨xt, xm, xn, xc, xs, xk, xa, xb, xd, xx⟩ := x
  unfold AltOk
  simp only [Item.row, List.map_cons, List.map_nil, stL6, stL7, codeOf, nthAlt, List.getD_cons_succ, List.getD_cons_zero] at *
  repeat' (first | (with_reducible first | refine Cn (fun h => ?_) fun h => ?_ | refine And.intro ?_ ?_ | refine wR ?_ | exact wr _ _ | refine weak_autoC ?_ | apply awp_join | refine qg hcl ?_ | refine qgd hcl ?_) | (with_reducible refine CallZ.z ?_) | simp -dsimp [go_sem, e2, e4, htl, hull, hul, hll, clean_nil, clean_cons, clean_yes, clean_no])
  all_goals first | omega | (simp [UL]; done) | trace_state
theorem line_r6_5 {base bt p T : Int} {items : List Item} {k : Nat} (x : Item) (hkl : k ≤ items.length) (hle : items.length ≤ 200) (e2 : IntKind.i64.wrap (p - base) = p - base) (e4 : IntKind.i64.wrap (p - base - 1) = (k : Int)) : AltOk Tryz.prog (codeOf ptL6) 5 (stL6 G base bt p T items (x.row.map .v)) (stL7 G base bt items k x.row) := by
  have hul : UL 10 ((items.map Item.row).take k) := ul_take (ul_rows _)
  have htl : ((items.map Item.row).take k).length = k := by simp; omega
  have hcl := cloneGItems_c (G := G) ((items.map Item.row).take k) hul (by omega)
  have hull : UL 10 (items.map Item.row) := ul_rows _
  have hll : (items.map Item.row).length = items.length := by simp
  obtain ⟨xt, xm, xn, xc, xs, xk, xa, xb, xd, xx⟩ := x
  unfold AltOk
  simp only [Item.row, List.map_cons, List.map_nil, stL6, stL7, codeOf, nthAlt, List.getD_cons_succ, List.getD_cons_zero] at *
  repeat' (first | (with_reducible first | refine Cn (fun h => ?_) fun h => ?_ | refine And.intro ?_ ?_ | refine wR ?_ | exact wr _ _ | refine weak_autoC ?_ | apply awp_join | refine qg hcl ?_ | refine qgd hcl ?_) | (with_reducible refine CallZ.z ?_) | simp -dsimp [go_sem, e2, e4, htl, hull, hul, hll, clean_nil, clean_cons, clean_yes, clean_no])
  all_goals first | omega | (simp [UL]; done) | trace_state
theorem line_r6_6 {base bt p T : Int} {items : List Item} {k : Nat} (x : Item) (hkl : k ≤ items.length) (hle : items.length ≤ 200) (e2 : IntKind.i64.wrap (p - base) = p - base) (e4 : IntKind.i64.wrap (p - base - 1) = (k : Int)) : AltOk Tryz.prog (codeOf ptL6) 6 (stL6 G base bt p T items (x.row.map .v)) (stL7 G base bt items k x.row) := by
  have hul : UL 10 ((items.map Item.row).take k) := ul_take (ul_rows _)
  have htl : ((items.map Item.row).take k).length = k := by simp; omega
  have hcl := cloneGItems_c (G := G) ((items.map Item.row).take k) hul (by omega)
  have hull : UL 10 (items.map Item.row) := ul_rows _
  have hll : (items.map Item.row).length = items.length := by simp
  obtain ⟨xt, xm, xn, xc, xs, xk, xa, xb, xd, xx⟩ := x
  unfold AltOk
  simp only [Item.row, List.map_cons, List.map_nil, stL6, stL7, codeOf, nthAlt, List.getD_cons_succ, List.getD_cons_zero] at *
  repeat' (first | (with_reducible first | refine Cn (fun h => ?_) fun h => ?_ | refine And.intro ?_ ?_ | refine wR ?_ | exact wr _ _ | refine weak_autoC ?_ | apply awp_join | refine qg hcl ?_ | refine qgd hcl ?_) | (with_reducible refine CallZ.z ?_) | simp -dsimp [go_sem, e2, e4, htl, hull, hul, hll, clean_nil, clean_cons, clean_yes, clean_no])
  all_goals first | omega | (simp [UL]; done) | trace_state
theorem line_r6_7 {base bt p T : Int} {items : List Item} {k : Nat} (x : Item) (hkl : k ≤ items.length) (hle : items.length ≤ 200) (e2 : IntKind.i64.wrap (p - base) = p - base) (e4 : IntKind.i64.wrap (p - base - 1) = (k : Int)) : AltOk Tryz.prog (codeOf ptL6) 7 (stL6 G base bt p T items (x.row.map .v)) (stL7 G base bt items k x.row) := by
  have hul : UL 10 ((items.map Item.row).take k) := ul_take (ul_rows _)
  have htl : ((items.map Item.row).take k).length = k := by simp; omega
  have hcl := cloneGItems_c (G := G) ((items.map Item.row).take k) hul (by omega)
  have hull : UL 10 (items.map Item.row) := ul_rows _
  have hll : (items.map Item.row).length = items.length := by simp
  obtain ⟨xt, xm, xn, xc, xs, xk, xa, xb, xd, xx⟩ := x
  unfold AltOk
  simp only [Item.row, List.map_cons, List.map_nil, stL6, stL7, codeOf, nthAlt, List.getD_cons_succ, List.getD_cons_zero] at *
  repeat' (first | (with_reducible first | refine Cn (fun h => ?_) fun h => ?_ | refine And.intro ?_ ?_ | refine wR ?_ | exact wr _ _ | refine weak_autoC ?_ | apply awp_join | refine qg hcl ?_ | refine qgd hcl ?_) | (with_reducible refine CallZ.z ?_) | simp -dsimp [go_sem, e2, e4, htl, hull, hul, hll, clean_nil, clean_cons, clean_yes, clean_no])
  all_goals first | omega | (simp [UL]; done) | trace_state
theorem line_r6 {base bt p T : Int} {items : List Item} {k : Nat} (x : Item) (hkl : k ≤ items.length) (hle : items.length ≤ 200) (e2 : IntKind.i64.wrap (p - base) = p - base) (e4 : IntKind.i64.wrap (p - base - 1) = (k : Int)) {Q : Exit → S → Prop} (hq : Q .normal (stL7 G base bt items k x.row)) : awp Tryz.prog 0 (codeOf ptL6) Q (stL6 G base bt p T items (x.row.map .v)) :=
  reg_of _ 8 rfl rfl ⟨line_r6_7 x hkl hle e2 e4, line_r6_6 x hkl hle e2 e4, line_r6_5 x hkl hle e2 e4, line_r6_4 x hkl hle e2 e4, line_r6_3 x hkl hle e2 e4, line_r6_2 x hkl hle e2 e4, line_r6_1 x hkl hle e2 e4, line_r6_0 x hkl hle e2 e4, trivial⟩ hq
theorem line_r6' {base bt p T : Int} {items : List Item} {k : Nat} (x : Item) (xr : List V) (hkl : k ≤ items.length) (hle : items.length ≤ 200) (e2 : IntKind.i64.wrap (p - base) = p - base) (e4 : IntKind.i64.wrap (p - base - 1) = (k : Int)) {xc : List C} (h1 : x.row.map .v = xc) (h2 : x.row = xr) {Q : Exit → S → Prop} (hq : Q .normal (stL7 G base bt items k xr)) : awp Tryz.prog 0 (codeOf ptL6) Q (stL6 G base bt p T items xc) := by
  subst h1; subst h2; exact line_r6 x hkl hle e2 e4 hq
theorem line_c (g : Lg) (p : Int) (x : Item) (h : g.check = 0) (hp : 1 ≤ p ∧ p ≤ 1048576) : PCall Tryz.prog G 70 [.agg g.c, iV p, .agg (x.row.map .v)] (.tup [.agg (lineD g p x).1.c, iV (lineD g p x).2]) := by
  obtain ⟨base, bt, items⟩ := g
  unfold Lg.check at h
  simp only at h
  have hla := lastGood_c (G := G) base bt items h
  have hir := last_c' base bt items h
  have e1 : IntKind.i64.wrap (base + items.length + 1) = base + items.length + 1 := IntWalk.i64_in _ (by omega)
  have e2 : IntKind.i64.wrap (p - base) = p - base := IntWalk.i64_in _ (by omega)
  have e3 : IntKind.i64.wrap (p - base - 1) = p - base - 1 := IntWalk.i64_in _ (by omega)
  unfold lineD
  simp only
  by_cases h1 : p ≤ base
  · rw [if_pos h1]
    have q1 : decide (p ≤ base) = true := decide_eq_true h1
    simp only [Lg.c, logC, Item.row, List.map_cons, List.map_nil] at *
    refine pcallc mixed Tryz.func70 ac_tape_line ?_
    repeat' (first | (with_reducible first | refine Cn (fun h => ?_) fun h => ?_ | refine And.intro ?_ ?_ | refine wR ?_ | exact wr _ _ | refine wa ?_ | apply awp_join | refine q hla ?_ | refine qd hla ?_ | refine qz hla ?_) | (with_reducible refine CallZ.z ?_) | simp -dsimp [go_sem, q1])
    all_goals trace_state
  · rw [if_neg h1]
    have q1 : decide (p ≤ base) = false := decide_eq_false h1
    by_cases h2 : base + items.length + 1 < p
    · rw [if_pos h2]
      have q2 : decide (base + (items.length : Int) + 1 < p) = true := decide_eq_true h2
      simp only [Lg.c, logC, Item.row, List.map_cons, List.map_nil] at *
      refine pcallc mixed Tryz.func70 ac_tape_line ?_
      repeat' (first | (with_reducible first | refine Cn (fun h => ?_) fun h => ?_ | refine And.intro ?_ ?_ | refine wR ?_ | exact wr _ _ | refine wa ?_ | apply awp_join | refine q hla ?_ | refine qd hla ?_ | refine qz hla ?_) | (with_reducible refine CallZ.z ?_) | simp -dsimp [go_sem, q1, q2, e1])
      all_goals trace_state
    · rw [if_neg h2]
      have q2 : decide (base + (items.length : Int) + 1 < p) = false := decide_eq_false h2
      obtain ⟨k, hk⟩ : ∃ k, (p - base - 1).toNat = k := ⟨_, rfl⟩
      rw [hk]
      have hk2 : p - base - 1 = (k : Int) := by omega
      have hkl : k ≤ items.length := by omega
      have e4 : IntKind.i64.wrap (p - base - 1) = (k : Int) := by rw [e3, hk2]
      have hck := checkLog_c (G := G) base bt (items.take k ++ [x]) (by simp; omega)
      generalize checkLog base bt (items.take k ++ [x]) = v at *
      have hrow : (items.take k ++ [x]).map Item.row = (items.map Item.row).take k ++ [x.row] := by simp
      have hkn : ((k : Nat) : Int).toNat = k := by simp
      clear hla
      have hla := lastGood_c (G := G) base bt items h
      by_cases hv : v ≠ 0
      · rw [if_pos hv]
        have q3 : (v != 0) = true := by simpa using hv
        simp only [Lg.c, logC] at *
        rw [hrow] at hck
        obtain ⟨xt, xm, xn, xc, xs, xk, xa, xb, xd, xx⟩ := x
        simp only [Item.row, List.map_cons, List.map_nil] at *
        refine pcallc mixed Tryz.func70 ac_tape_line ?_
        repeat' (first | (with_reducible first | refine line_r6' ⟨xt, xm, xn, xc, xs, xk, xa, xb, xd, xx⟩ [iL xt, iL xm, .lit (.bool xn), iL xc, iL xs, iL xk, sL xa, sL xb, sL xd, iL xx] hkl hir.2.2.1 e2 e4 (by with_unfolding_all rfl) (by with_unfolding_all rfl) ?_ | refine Cn (fun h => ?_) fun h => ?_ | refine And.intro ?_ ?_ | refine wR ?_ | exact wr _ _ | refine wa ?_ | apply awp_join | refine q hla ?_ | refine qd hla ?_ | refine qz hla ?_ | refine q hck ?_ | refine qd hck ?_ | refine qz hck ?_) | (with_reducible refine CallZ.z ?_) | simp -dsimp [go_sem, q1, q2, q3, e1])
        all_goals first | omega | (simp [UL]; done) | trace_state
      · rw [if_neg hv]
        have q3 : (v != 0) = false := by simpa using hv
        simp only [Lg.c, logC] at *
        rw [hrow] at hck ⊢
        obtain ⟨xt, xm, xn, xc, xs, xk, xa, xb, xd, xx⟩ := x
        simp only [Item.row, List.map_cons, List.map_nil] at *
        refine pcallc mixed Tryz.func70 ac_tape_line ?_
        repeat' (first | (with_reducible first | refine line_r6' ⟨xt, xm, xn, xc, xs, xk, xa, xb, xd, xx⟩ [iL xt, iL xm, .lit (.bool xn), iL xc, iL xs, iL xk, sL xa, sL xb, sL xd, iL xx] hkl hir.2.2.1 e2 e4 (by with_unfolding_all rfl) (by with_unfolding_all rfl) ?_ | refine Cn (fun h => ?_) fun h => ?_ | refine And.intro ?_ ?_ | refine wR ?_ | exact wr _ _ | refine wa ?_ | apply awp_join | refine q hla ?_ | refine qd hla ?_ | refine qz hla ?_ | refine q hck ?_ | refine qd hck ?_ | refine qz hck ?_) | (with_reducible refine CallZ.z ?_) | simp -dsimp [go_sem, q1, q2, q3, e1])
        all_goals first | omega | (simp [UL]; done) | trace_state
theorem rest_c (g : Lg) (i t : Int) (m : Mach) (h : g.check = 0) (hi : 1 ≤ i ∧ i ≤ 1048576) : PCall Tryz.prog G 44 [.agg g.c, .agg ([iC i, iC t] ++ m.c)] (.agg (restD g i t).c) := by
  obtain ⟨base, bt, items⟩ := g
  obtain ⟨⟨now, es⟩, next, cs⟩ := m
  unfold Lg.check at h
  simp only at h
  have hte := termGood_c (G := G) base bt items i h ⟨by omega, hi.2⟩
  unfold restD
  simp only
  by_cases h1 : termErr base items.length i = 0
  · have htr := trim_c (G := G) base bt items i h (by unfold i64; omega) h1
    rw [h1] at hte
    generalize termAt base bt items i = T at *
    simp only [Lg.c, logC, Mach.c, List.cons_append, List.nil_append] at *
    by_cases h2 : T = t
    · rw [if_pos ⟨h1, h2⟩]
      subst h2
      simp only
      refine pcallc mixed Tryz.func44 ac_tape_rest ?_
      repeat' (first | (with_reducible first | refine Cn (fun h => ?_) fun h => ?_ | refine And.intro ?_ ?_ | refine wR ?_ | exact wr _ _ | refine wa ?_ | apply awp_join | refine q hte ?_ | refine qd hte ?_ | refine qz hte ?_ | refine q htr ?_ | refine qd htr ?_ | refine qz htr ?_) | (with_reducible refine CallZ.z ?_) | simp -dsimp [go_sem])
      all_goals trace_state
    · rw [if_neg (fun h => h2 h.2)]
      have q1 : (T == t) = false := by simpa using h2
      refine pcallc mixed Tryz.func44 ac_tape_rest ?_
      repeat' (first | (with_reducible first | refine Cn (fun h => ?_) fun h => ?_ | refine And.intro ?_ ?_ | refine wR ?_ | exact wr _ _ | refine wa ?_ | apply awp_join | refine q hte ?_ | refine qd hte ?_ | refine qz hte ?_) | (with_reducible refine CallZ.z ?_) | simp -dsimp [go_sem, q1])
      all_goals trace_state
  · rw [if_neg (fun h => h1 h.1)]
    have q1 : (termErr base items.length i == 0) = false := by simpa using h1
    simp only [Lg.c, logC, Mach.c, List.cons_append, List.nil_append] at *
    refine pcallc mixed Tryz.func44 ac_tape_rest ?_
    repeat' (first | (with_reducible first | refine Cn (fun h => ?_) fun h => ?_ | refine And.intro ?_ ?_ | refine wR ?_ | exact wr _ _ | refine wa ?_ | apply awp_join | refine q hte ?_ | refine qd hte ?_ | refine qz hte ?_) | (with_reducible refine CallZ.z ?_) | simp -dsimp [go_sem, q1])
    all_goals trace_state
end Go.Proofs.YtpdcfljbabpakaaGreatDoor
set_option linter.unusedVariables false
set_option linter.unusedSimpArgs false
set_option maxRecDepth 100000
set_option maxHeartbeats 8000000
namespace Go.Proofs.YtpdcfljbabpakaaGreatDoor
open Go Go.RowKit Go.Proofs.AE
variable {G : Nat → AV}
end Go.Proofs.YtpdcfljbabpakaaGreatDoor
set_option linter.unusedVariables false
set_option linter.unusedSimpArgs false
set_option maxRecDepth 100000
set_option maxHeartbeats 8000000
namespace Go.Proofs.YtpdcfljbabpakaaGreatDoor
open Go Go.RowKit Go.Proofs.AE
variable {G : Nat → AV}
end Go.Proofs.YtpdcfljbabpakaaGreatDoor
set_option linter.unusedVariables false
set_option linter.unusedSimpArgs false
set_option maxRecDepth 100000
set_option maxHeartbeats 8000000
namespace Go.Proofs.YtpdcfljbabpakaaGreatDoor
open Go Go.RowKit Go.Proofs.AE
variable {G : Nat → AV}
abbrev tpC (d : List UInt8) (s : Int) : List C := [.v (.sl (bR d)), iC s]
structure TOk (d : List UInt8) (s : Int) : Prop where
  s0 : 0 ≤ s
  s1 : s ≤ d.length
  le : d.length ≤ 400000
theorem topen_c (d : List UInt8) (s : Int) (h : TOk d s) : PCall Tryz.prog G 67 [.agg (tpC d s)] (.tup [.agg (tpC d s), bV true]) := by
  have hs0 := h.s0; have hs1 := h.s1; have hle := h.le
  have q1 : decide (s < 0) = false := decide_eq_false (by omega)
  have q2 : decide ((d.length : Int) < s) = false := decide_eq_false (by omega)
  have q3 : decide (400000 < (d.length : Int)) = false := decide_eq_false (by omega)
  have hc := cloneB_c (G := G) d (by omega)
  have hl := bR_len d
  simp only [tpC]
  generalize bR d = R at *
  refine pcallc mixed Tryz.func67 ac_tape_open ?_
  repeat' (first | (with_reducible first | refine Cn (fun h => ?_) fun h => ?_ | refine And.intro ?_ ?_ | refine wR ?_ | exact wr _ _ | refine wa ?_ | apply awp_join | refine q hc ?_ | refine qd hc ?_ | refine qz hc ?_) | (with_reducible refine CallZ.z ?_) | simp -dsimp [go_sem, hl, q1, q2, q3])
  all_goals trace_state
end Go.Proofs.YtpdcfljbabpakaaGreatDoor
set_option linter.unusedVariables false
set_option linter.unusedSimpArgs false
set_option maxRecDepth 100000
set_option maxHeartbeats 8000000
namespace Go.Proofs.YtpdcfljbabpakaaGreatDoor
open Go Go.RowKit Go.Proofs.AE
variable {G : Nat → AV}
theorem appendBad_c (d : List UInt8) (s : Int) (r : Rcd) (h : TOk d s) (h1 : r.mach.sto.Small) (h2 : r.mach.clis.length ≤ 1000000) (he : checkRc r ≠ 0) : PCall Tryz.prog G 38 [.agg (tpC d s), .agg r.c] (.tup [.agg [.v (.sl []), iC 0], iV (checkRc r)]) := by
  have ho := topen_c (G := G) d s h
  have hc := checkRc_c (G := G) r h1 h2
  have q1 : (checkRc r != 0) = true := by simpa using he
  generalize checkRc r = v at *
  obtain ⟨k, t, f, ix, ⟨xt, xm, xn, xc, xs, xk, xa, xb, xd, xx⟩, si, st, ⟨⟨mn, me⟩, mx, mc⟩⟩ := r
  simp only [tpC, Rcd.c] at *
  generalize bR d = R at *
  refine pcallc mixed Tryz.func38 ac_tape_Append ?_
  repeat' (first | (with_reducible first | refine Cn (fun h => ?_) fun h => ?_ | refine And.intro ?_ ?_ | refine wR ?_ | exact wr _ _ | refine wa ?_ | apply awp_join | refine q ho ?_ | refine qd ho ?_ | refine qz ho ?_ | refine q hc ?_ | refine qd hc ?_ | refine qz hc ?_) | (with_reducible refine CallZ.z ?_) | simp -dsimp [go_sem, q1])
  all_goals trace_state
end Go.Proofs.YtpdcfljbabpakaaGreatDoor
set_option linter.unusedVariables false
set_option linter.unusedSimpArgs false
set_option maxRecDepth 100000
set_option maxHeartbeats 8000000
namespace Go.Proofs.YtpdcfljbabpakaaGreatDoor
open Go Go.RowKit Go.Proofs.AE
variable {G : Nat → AV}
end Go.Proofs.YtpdcfljbabpakaaGreatDoor
set_option linter.unusedVariables false
set_option linter.unusedSimpArgs false
set_option maxRecDepth 100000
set_option maxHeartbeats 8000000
namespace Go.Proofs.YtpdcfljbabpakaaGreatDoor
open Go Go.RowKit Go.Proofs.AE
variable {G : Nat → AV}
theorem newM0_c : PCall Tryz.prog G 46 [] (.agg newM.c) := by
  simp only [newM, zeroS, Mach.c, List.map_nil]
  refine pcallc mixed Tryz.func46 ac_client_New ?_
  repeat' (first | (with_reducible first | refine Cn (fun h => ?_) fun h => ?_ | refine And.intro ?_ ?_ | refine wR ?_ | exact wr _ _ | refine wa ?_ | apply awp_join) | (with_reducible refine CallZ.z ?_) | simp -dsimp [go_sem])
theorem newD_c : PCall Tryz.prog G 69 [] (.agg newD.c) := by
  have h := newM0_c (G := G)
  simp only [newD, Dsk.c, newM, zeroS, zeroLg, Lg.c, logC, Mach.c, List.map_nil, List.cons_append, List.nil_append] at *
  refine pcallc mixed Tryz.func69 ac_tape_New ?_
  repeat' (first | (with_reducible first | refine Cn (fun h => ?_) fun h => ?_ | refine And.intro ?_ ?_ | refine wR ?_ | exact wr _ _ | refine wa ?_ | apply awp_join | refine q h ?_ | refine qd h ?_ | refine qz h ?_) | (with_reducible refine CallZ.z ?_) | simp -dsimp [go_sem])
  all_goals trace_state
def Rcd.Small (r : Rcd) : Prop := r.mach.sto.Small ∧ r.mach.clis.length ≤ 1000000
theorem foldGo_drop {d : Dsk} {l : List Rcd} {i : Nat} {r : Rcd} (h : l[i]? = some r) : foldGo d (l.drop i) = if (foldStep d r).2 ≠ 0 then foldStep d r else foldGo (foldStep d r).1 (l.drop (i + 1)) := by
  have hl := (List.getElem?_eq_some_iff.1 h).1
  have hx := (List.getElem?_eq_some_iff.1 h).2
  rw [List.drop_eq_getElem_cons hl, hx]
  rfl
def fSt (G : Nat → AV) (rows : List (List V)) (n : Nat) (x : Nat × Dsk) : S :=
  ⟨[(2, .one (.ptr 0 0)), (3, iV 0), (4, .one (.ptr 1 0)), (13, .one (.v (.sl rows))), (14, iV n), (15, iV x.1)], G, [some (.box 83 [iC 0, iC 0, iC 0, iC 0, iC 0, .nil, iC 0, .nil, iC 0, iC 0, .nil]), some (.box 83 x.2.c)]⟩
theorem fold_c (l : List Rcd) (hs : ∀ r ∈ l, r.Small) (hn : (l.length : Int) ≤ 9223372036854775807) : PCall Tryz.prog G 34 [.one (.v (.sl (l.map Rcd.row)))] (.tup [.agg (foldD l).1.c, iV (foldD l).2]) := by
  have hnew := newD_c (G := G)
  have hlen : (l.map Rcd.row).length = l.length := by simp
  obtain ⟨rows, hrows⟩ : ∃ rows, l.map Rcd.row = rows := ⟨_, rfl⟩
  have hat : ∀ (i : Nat) r, l[i]? = some r → rows[i]? = some r.row := fun i r h => by rw [← hrows]; simp [h]
  rw [hrows] at hlen ⊢
  simp only [newD, Dsk.c, newM, zeroS, zeroLg, Lg.c, logC, Mach.c, List.map_nil, List.cons_append, List.nil_append] at hnew
  refine pcallc mixed Tryz.func34 ac_tape_Fold ?_
  repeat' (first | (with_reducible first | refine Cn (fun h => ?_) fun h => ?_ | refine And.intro ?_ ?_ | refine wR ?_ | exact wr _ _ | refine wa ?_ | apply awp_join | refine q hnew ?_ | refine qd hnew ?_ | refine qz hnew ?_) | (with_reducible refine CallZ.z ?_) | simp -dsimp [go_sem, hlen])
  refine awp_loop (fSt G rows l.length) (fun x => x.1 ≤ l.length ∧ foldD l = foldGo x.2 (l.drop x.1) ∧ OkD x.2) (fun x => l.length - x.1) (0, newD) (weak_auto ?_) ⟨Nat.zero_le _, rfl, newD_ok⟩ ?_
  · unfold fSt
    simp only [newD, Dsk.c, newM, zeroS, zeroLg, Lg.c, logC, Mach.c, List.map_nil, List.cons_append, List.nil_append]
    simp -dsimp [go_sem]
  · rintro ⟨i, d⟩ ⟨hi, hf, hd⟩
    simp only at hi hf hd
    clear hnew
    by_cases hil : i < l.length
    · obtain ⟨r, hx⟩ : ∃ r, l[i]? = some r := ⟨_, List.getElem?_eq_getElem hil⟩
      have hr := hat i r hx
      have hsm := hs r (List.mem_of_getElem? hx)
      have hck := checkRc_c (G := G) r hsm.1 hsm.2
      have q1 : decide (i < l.length) = true := decide_eq_true hil
      have w1 : IntKind.i64.wrap ((i : Int) + 1) = (i : Int) + 1 := IntWalk.i64_in _ (by omega)
      rw [foldGo_drop hx] at hf
      have hag : (foldStep d r).2 = 0 → foldD l = foldGo (foldStep d r).1 (l.drop (i + 1)) ∧ OkD (foldStep d r).1 := fun h => by
        rw [if_neg (by rw [h]; simp)] at hf
        exact ⟨hf, step_ok hd r h⟩
      by_cases hc : checkRc r ≠ 0
      · have he : foldStep d r = (zeroD, checkRc r) := by unfold foldStep; rw [if_pos hc]
        rw [he, if_pos hc] at hf
        rw [hf]
        have q2 : (checkRc r != 0) = true := by simpa using hc
        clear hag he hf hd
        generalize checkRc r = v at *
        obtain ⟨term, fr, sidx, sterm, ⟨⟨now, es⟩, next, cs⟩, ⟨base, bt, items⟩⟩ := d
        obtain ⟨k, t, f, ix, ⟨xt, xm, xn, xc, xs, xk, xa, xb, xd, xx⟩, si, st, ⟨⟨mn, me⟩, mx, mc⟩⟩ := r
        simp only [Rcd.c, Rcd.row, zeroD, zeroM, zeroS, zeroLg, Dsk.c, Lg.c, logC, Mach.c, List.map_nil, List.cons_append, List.nil_append] at *
        unfold fSt
        simp only [Dsk.c, Lg.c, logC, Mach.c, List.cons_append, List.nil_append]
        repeat' (first | (with_reducible first | refine Cn (fun h => ?_) fun h => ?_ | refine And.intro ?_ ?_ | refine wR ?_ | exact wr _ _ | refine weak_autoC ?_ | apply awp_join | refine q hck ?_ | refine qd hck ?_ | refine qz hck ?_) | (with_reducible refine CallZ.z ?_) | simp -dsimp [go_sem, hr, q1, q2, clean_nil, clean_cons, clean_yes, clean_no])
        all_goals trace_state
      · have hc0 := Classical.not_not.1 hc
        rw [hc0] at hck
        rcases rc_cases hc0 with ⟨t, f, rfl, _⟩ | ⟨ix, x, rfl, hix, _⟩ | ⟨si, st, m, rfl, hsi, hst, hm⟩
        · have he : foldStep d ⟨1, t, f, 0, zeroItem, 0, 0, zeroM⟩ = ({ d with term := t, fr := f }, 0) := by unfold foldStep; rw [if_neg hc, if_pos (show (1 : Int) = 1 from rfl)]
          obtain ⟨a1, a2⟩ := hag (by rw [he])
          rw [he] at a1 a2
          clear hag hf hd he
          obtain ⟨term, fr, sidx, sterm, ⟨⟨now, es⟩, next, cs⟩, ⟨base, bt, items⟩⟩ := d
          simp only [Rcd.c, Rcd.row, zeroItem, zeroM, zeroS, Mach.c, List.map_nil, List.cons_append, List.nil_append] at hck hr
          unfold fSt
          simp only [Dsk.c, Lg.c, logC, Mach.c, List.cons_append, List.nil_append]
          repeat' (first | (with_reducible first | refine Cn (fun h => ?_) fun h => ?_ | refine And.intro ?_ ?_ | refine wR ?_ | exact wr _ _ | refine weak_autoC ?_ | apply awp_join | refine q hck ?_ | refine qd hck ?_ | refine qz hck ?_) | (with_reducible refine CallZ.z ?_) | simp -dsimp [go_sem, hr, q1, w1, clean_nil, clean_cons, clean_yes, clean_no])
          all_goals first
            | (refine Again.auto (i + 1, ⟨t, f, sidx, sterm, ⟨⟨now, es⟩, next, cs⟩, ⟨base, bt, items⟩⟩) ?_ ⟨hil, a1, a2⟩ ?_
               · simp only [Dsk.c, Lg.c, logC, Mach.c, List.cons_append, List.nil_append]
                 simp -dsimp [go_sem]
               · show l.length - (i + 1) < l.length - i; omega)
            | trace_state
        · have hli := line_c (G := G) d.log ix x hd.log (by unfold okNumber at hix; simp at hix; omega)
          have he : foldStep d ⟨2, 0, 0, ix, x, 0, 0, zeroM⟩ = if (lineD d.log ix x).2 ≠ 0 then (zeroD, (lineD d.log ix x).2) else ({ d with log := (lineD d.log ix x).1 }, 0) := by
            unfold foldStep; rw [if_neg hc, if_neg (show ¬ (2 : Int) = 1 by omega), if_pos (show (2 : Int) = 2 from rfl)]
          rw [he] at hf hag
          clear he hc
          obtain ⟨term, fr, sidx, sterm, ⟨⟨now, es⟩, next, cs⟩, ⟨base, bt, items⟩⟩ := d
          simp only at hli hf hag
          generalize lineD ⟨base, bt, items⟩ ix x = q at *
          obtain ⟨⟨base', bt', items'⟩, v⟩ := q
          simp only at hli hf hag
          obtain ⟨xt, xm, xn, xc, xs, xk, xa, xb, xd, xx⟩ := x
          simp only [Rcd.c, Rcd.row, zeroM, zeroS, Mach.c, List.map_nil, List.cons_append, List.nil_append] at hck hr
          simp only [Lg.c, logC, Item.row, List.map_cons, List.map_nil] at hli
          by_cases hv : v ≠ 0
          · have q3 : (v != 0) = true := by simpa using hv
            rw [if_pos hv] at hf
            simp only at hf
            rw [if_pos hv] at hf
            rw [hf]
            clear hag hf hd
            simp only [zeroD, zeroM, zeroS, zeroLg, Dsk.c, Lg.c, logC, Mach.c, List.map_nil, List.cons_append, List.nil_append]
            unfold fSt
            simp only [Dsk.c, Lg.c, logC, Mach.c, List.cons_append, List.nil_append]
            repeat' (first | (with_reducible first | refine Cn (fun h => ?_) fun h => ?_ | refine And.intro ?_ ?_ | refine wR ?_ | exact wr _ _ | refine weak_autoC ?_ | apply awp_join | refine q hck ?_ | refine qd hck ?_ | refine qz hck ?_ | refine q hli ?_ | refine qd hli ?_ | refine qz hli ?_) | (with_reducible refine CallZ.z ?_) | simp -dsimp [go_sem, hr, q1, q3, clean_nil, clean_cons, clean_yes, clean_no])
            all_goals trace_state
          · have q3 : (v != 0) = false := by simpa using hv
            rw [if_neg hv] at hag
            obtain ⟨a1, a2⟩ := hag rfl
            clear hag hf hd
            unfold fSt
            simp only [Dsk.c, Lg.c, logC, Mach.c, List.cons_append, List.nil_append]
            repeat' (first | (with_reducible first | refine Cn (fun h => ?_) fun h => ?_ | refine And.intro ?_ ?_ | refine wR ?_ | exact wr _ _ | refine weak_autoC ?_ | apply awp_join | refine q hck ?_ | refine qd hck ?_ | refine qz hck ?_ | refine q hli ?_ | refine qd hli ?_ | refine qz hli ?_) | (with_reducible refine CallZ.z ?_) | simp -dsimp [go_sem, hr, q1, q3, w1, clean_nil, clean_cons, clean_yes, clean_no])
            all_goals first
              | (refine Again.auto (i + 1, ⟨term, fr, sidx, sterm, ⟨⟨now, es⟩, next, cs⟩, ⟨base', bt', items'⟩⟩) ?_ ⟨hil, a1, a2⟩ ?_
                 · simp only [Dsk.c, Lg.c, logC, Mach.c, List.cons_append, List.nil_append]
                   simp -dsimp [go_sem]
                 · show l.length - (i + 1) < l.length - i; omega)
              | trace_state
        · have hre := rest_c (G := G) d.log si st m hd.log (by unfold okNumber at hsi; simp at hsi; omega)
          have he : foldStep d ⟨3, 0, 0, 0, zeroItem, si, st, m⟩ = if d.sidx < si then ({ d with sidx := si, sterm := st, mach := m, log := restD d.log si st }, 0) else (d, 0) := by
            unfold foldStep; rw [if_neg hc, if_neg (show ¬ (3 : Int) = 1 by omega), if_neg (show ¬ (3 : Int) = 2 by omega)]
          rw [he] at hf hag
          clear he hc
          obtain ⟨term, fr, sidx, sterm, ⟨⟨now, es⟩, next, cs⟩, ⟨base, bt, items⟩⟩ := d
          obtain ⟨⟨mn, me⟩, mx, mc⟩ := m
          simp only at hre hf hag
          simp only [Rcd.c, Rcd.row, zeroItem, Mach.c, List.map_nil, List.cons_append, List.nil_append] at hck hr
          by_cases hv : sidx < si
          · have q3 : decide (sidx < si) = true := decide_eq_true hv
            rw [if_pos hv] at hag
            obtain ⟨a1, a2⟩ := hag rfl
            clear hag hf hd
            generalize restD ⟨base, bt, items⟩ si st = q at *
            obtain ⟨base', bt', items'⟩ := q
            simp only [Lg.c, logC, Mach.c, List.cons_append, List.nil_append] at hre
            unfold fSt
            simp only [Dsk.c, Lg.c, logC, Mach.c, List.cons_append, List.nil_append]
            repeat' (first | (with_reducible first | refine Cn (fun h => ?_) fun h => ?_ | refine And.intro ?_ ?_ | refine wR ?_ | exact wr _ _ | refine weak_autoC ?_ | apply awp_join | refine q hck ?_ | refine qd hck ?_ | refine qz hck ?_ | refine q hre ?_ | refine qd hre ?_ | refine qz hre ?_) | (with_reducible refine CallZ.z ?_) | simp -dsimp [go_sem, hr, q1, q3, w1, clean_nil, clean_cons, clean_yes, clean_no])
            all_goals first
              | (refine Again.auto (i + 1, ⟨term, fr, si, st, ⟨⟨mn, me⟩, mx, mc⟩, ⟨base', bt', items'⟩⟩) ?_ ⟨hil, a1, a2⟩ ?_
                 · simp only [Dsk.c, Lg.c, logC, Mach.c, List.cons_append, List.nil_append]
                   simp -dsimp [go_sem]
                 · show l.length - (i + 1) < l.length - i; omega)
              | trace_state
          · have q3 : decide (sidx < si) = false := decide_eq_false hv
            rw [if_neg hv] at hag
            obtain ⟨a1, a2⟩ := hag rfl
            clear hag hf hd hre
            unfold fSt
            simp only [Dsk.c, Lg.c, logC, Mach.c, List.cons_append, List.nil_append]
            repeat' (first | (with_reducible first | refine Cn (fun h => ?_) fun h => ?_ | refine And.intro ?_ ?_ | refine wR ?_ | exact wr _ _ | refine weak_autoC ?_ | apply awp_join | refine q hck ?_ | refine qd hck ?_ | refine qz hck ?_) | (with_reducible refine CallZ.z ?_) | simp -dsimp [go_sem, hr, q1, q3, w1, clean_nil, clean_cons, clean_yes, clean_no])
            all_goals first
              | (refine Again.auto (i + 1, ⟨term, fr, sidx, sterm, ⟨⟨now, es⟩, next, cs⟩, ⟨base, bt, items⟩⟩) ?_ ⟨hil, a1, a2⟩ ?_
                 · simp only [Dsk.c, Lg.c, logC, Mach.c, List.cons_append, List.nil_append]
                   simp -dsimp [go_sem]
                 · show l.length - (i + 1) < l.length - i; omega)
              | trace_state
    · have q1 : decide (i < l.length) = false := decide_eq_false hil
      have hn2 : l.drop i = [] := List.drop_eq_nil_of_le (by omega)
      rw [hn2] at hf
      simp only [foldGo] at hf
      rw [hf]
      have he := encode_c (G := G) d.mach hd.mach
      have hb := machB_len hd.mach
      have hde := decode_c (G := G) (machB d.mach)
      rw [decM_back hd.mach (by omega)] at hde
      have hul := ul_rows d.log.items
      have hll : (d.log.items.map Item.row).length ≤ 1000000 := by
        have := (checkLog_iff.1 hd.log).1; simp; omega
      have hcl := cloneItems_c (G := G) (d.log.items.map Item.row) hul hll
      obtain ⟨term, fr, sidx, sterm, ⟨⟨now, es⟩, next, cs⟩, ⟨base, bt, items⟩⟩ := d
      simp only at he hde hcl
      clear hf hd
      generalize machB ⟨⟨now, es⟩, next, cs⟩ = bs at *
      simp only [Mach.c] at he hde
      unfold fSt
      simp only [Dsk.c, Lg.c, logC, Mach.c, List.cons_append, List.nil_append]
      repeat' (first | (with_reducible first | refine Cn (fun h => ?_) fun h => ?_ | refine And.intro ?_ ?_ | refine wR ?_ | exact wr _ _ | refine wa ?_ | apply awp_join | refine q he ?_ | refine qd he ?_ | refine qz he ?_ | refine q hde ?_ | refine qd hde ?_ | refine qz hde ?_ | refine q hcl ?_ | refine qd hcl ?_ | refine qz hcl ?_) | (with_reducible refine CallZ.z ?_) | simp -dsimp [go_sem, q1])
      all_goals trace_state
end Go.Proofs.YtpdcfljbabpakaaGreatDoor
set_option linter.unusedVariables false
set_option linter.unusedSimpArgs false
set_option maxRecDepth 100000
set_option maxHeartbeats 8000000
namespace Go.Proofs.YtpdcfljbabpakaaGreatDoor
open Go Go.RowKit Go.Proofs.AE
variable {G : Nat → AV}
theorem zeroM_small : (zeroM).sto.Small ∧ (zeroM).clis.length ≤ 1000000 := ⟨⟨by decide, fun e he => by cases he⟩, by decide⟩
end Go.Proofs.YtpdcfljbabpakaaGreatDoor
set_option linter.unusedVariables false
set_option linter.unusedSimpArgs false
set_option maxRecDepth 100000
set_option maxHeartbeats 8000000
namespace Go.Proofs.YtpdcfljbabpakaaGreatDoor
open Go Go.RowKit Go.Proofs.AE
variable {G : Nat → AV}
def accE (l : List Ent) (i : Nat) : List (List V) := eR (l.take i)
theorem accE_zero (l : List Ent) : accE l 0 = [] := rfl
theorem accE_all (l : List Ent) {i : Nat} (h : l.length ≤ i) : accE l i = eR l := by unfold accE; rw [List.take_of_length_le h]
theorem accE_len (l : List Ent) {i : Nat} (h : i ≤ l.length) : (accE l i).length = i := by unfold accE; simp; omega
theorem accE_succ {l : List Ent} {i : Nat} {e : Ent} (h : l[i]? = some e) : accE l (i + 1) = accE l i ++ [e.row] := by
  unfold accE
  rw [List.take_add_one, h, Option.toList_some]
  simp
theorem ownS_C (s : Sto) (hs : s.Small) : PCall Tryz.prog G 103 [.agg s.c] (.agg s.c) := by
  obtain ⟨now, l⟩ := s
  obtain ⟨s1, s2⟩ := hs
  simp only at s1 s2
  have hul := ul_e l
  simp only [Sto.c]
  refine pcallc mixed Tryz.func103 ac_store_own ?_
  repeat' (first | (with_reducible first | refine Cn (fun h => ?_) fun h => ?_ | refine And.intro ?_ ?_ | refine wR ?_ | exact wr _ _ | refine wa ?_ | apply awp_join) | (with_reducible refine CallZ.z ?_) | simp -dsimp [go_sem])
  refine awp_loop (fun i : Nat => ⟨[(2, .one (.ptr 0 0)), (3, .one (.ptr 1 0)), (11, .one (.v (.sl (eR l)))), (12, iV l.length), (13, iV i)], G, [some (.box 25 [iC 0, .nil]), some (.box 25 [iC now, .ar 2]), some (.arr 119 8 (accE l i))]⟩) (fun i => i ≤ l.length) (fun i => l.length - i) 0 (Weak.trans (weak_thaw 2 1 119 8 rfl rfl (by omega)) (weak_auto ?_)) (Nat.zero_le _) ?_
  · simp -dsimp [go_sem, accE_zero]
  · intro i hi
    by_cases hlt : i < l.length
    · obtain ⟨e, he⟩ : ∃ e, l[i]? = some e := ⟨_, List.getElem?_eq_getElem hlt⟩
      have e4 : IntKind.i64.wrap ((i : Int) + 1) = (i : Int) + 1 := IntWalk.i64_in _ (by omega)
      have q1 : decide (i < l.length) = true := by simpa using hlt
      obtain ⟨v1, v2, v3⟩ := s2 e (List.mem_of_getElem? he)
      have hrl := accE_len l hi
      have hsu := accE_succ he
      have hul1 : UL 8 [e.row] := fun r hr => by simp at hr; subst hr; rfl
      obtain ⟨key, ⟨vk, vt, vn, vp, vi, vs⟩, till⟩ := e
      simp only at v1 v2 v3
      have c1 := clone_api_Pair (G := G) (pR vp) (ul_p vp) (by simp; omega)
      have c2 := clone_string (G := G) (strRows vi) (ul_i vi) (by simp; omega)
      have c3 := clone_api_Score (G := G) (sR vs) (ul_s vs) (by simp; omega)
      simp only [Ent.row] at hsu hul1
      repeat' (first | (with_reducible first | refine Cn (fun h => ?_) fun h => ?_ | refine And.intro ?_ ?_ | refine wR ?_ | exact wr _ _ | refine wa ?_ | apply awp_join | refine q c1 ?_ | refine qd c1 ?_ | refine qz c1 ?_ | refine q c2 ?_ | refine qd c2 ?_ | refine qz c2 ?_ | refine q c3 ?_ | refine qd c3 ?_ | refine qz c3 ?_) | (with_reducible refine CallZ.z ?_) | simp -dsimp [go_sem, he, Ent.row, e4, q1, hrl])
      all_goals first
        | omega
        | exact hul1
        | (refine Again.auto (i + 1) ?_ ?_ ?_
           · simp -dsimp [go_sem, hsu]
           · exact hlt
           · show l.length - (i + 1) < l.length - i; omega)
    · have q1 : decide (i < l.length) = false := by simpa using hlt
      have hn := accE_all l (i := i) (by omega)
      rw [hn]
      repeat' (first | (with_reducible first | refine Cn (fun h => ?_) fun h => ?_ | refine And.intro ?_ ?_ | refine wR ?_ | exact wr _ _ | refine wa ?_ | apply awp_join) | (with_reducible refine CallZ.z ?_) | simp -dsimp [go_sem, q1])
theorem ownS_G (s : Sto) (hs : s.Small) : DetCall Tryz.prog G 103 0 [] [.agg s.c] (.agg [iC s.now, .ar 0]) [some (.arr 119 8 (eR s.ents))] := by
  obtain ⟨now, l⟩ := s
  obtain ⟨s1, s2⟩ := hs
  simp only at s1 s2
  have hul := ul_e l
  simp only [Sto.c]
  refine gcallc mixed Tryz.func103 ac_store_own ?_
  repeat' (first | (with_reducible first | refine Cn (fun h => ?_) fun h => ?_ | refine And.intro ?_ ?_ | refine wR ?_ | exact wr _ _ | refine wa ?_ | apply awp_join) | (with_reducible refine CallZ.z ?_) | simp -dsimp [go_sem])
  refine awp_loop (fun i : Nat => ⟨[(2, .one (.ptr 0 0)), (3, .one (.ptr 1 0)), (11, .one (.v (.sl (eR l)))), (12, iV l.length), (13, iV i)], G, [some (.box 25 [iC 0, .nil]), some (.box 25 [iC now, .ar 2]), some (.arr 119 8 (accE l i))]⟩) (fun i => i ≤ l.length) (fun i => l.length - i) 0 (Weak.trans (weak_thaw 2 1 119 8 rfl rfl (by omega)) (weak_auto ?_)) (Nat.zero_le _) ?_
  · simp -dsimp [go_sem, accE_zero]
  · intro i hi
    by_cases hlt : i < l.length
    · obtain ⟨e, he⟩ : ∃ e, l[i]? = some e := ⟨_, List.getElem?_eq_getElem hlt⟩
      have e4 : IntKind.i64.wrap ((i : Int) + 1) = (i : Int) + 1 := IntWalk.i64_in _ (by omega)
      have q1 : decide (i < l.length) = true := by simpa using hlt
      obtain ⟨v1, v2, v3⟩ := s2 e (List.mem_of_getElem? he)
      have hrl := accE_len l hi
      have hsu := accE_succ he
      have hul1 : UL 8 [e.row] := fun r hr => by simp at hr; subst hr; rfl
      obtain ⟨key, ⟨vk, vt, vn, vp, vi, vs⟩, till⟩ := e
      simp only at v1 v2 v3
      have c1 := clone_api_Pair (G := G) (pR vp) (ul_p vp) (by simp; omega)
      have c2 := clone_string (G := G) (strRows vi) (ul_i vi) (by simp; omega)
      have c3 := clone_api_Score (G := G) (sR vs) (ul_s vs) (by simp; omega)
      simp only [Ent.row] at hsu hul1
      repeat' (first | (with_reducible first | refine Cn (fun h => ?_) fun h => ?_ | refine And.intro ?_ ?_ | refine wR ?_ | exact wr _ _ | refine wa ?_ | apply awp_join | refine q c1 ?_ | refine qd c1 ?_ | refine qz c1 ?_ | refine q c2 ?_ | refine qd c2 ?_ | refine qz c2 ?_ | refine q c3 ?_ | refine qd c3 ?_ | refine qz c3 ?_) | (with_reducible refine CallZ.z ?_) | simp -dsimp [go_sem, he, Ent.row, e4, q1, hrl])
      all_goals first
        | omega
        | exact hul1
        | (refine Again.auto (i + 1) ?_ ?_ ?_
           · simp -dsimp [go_sem, hsu]
           · exact hlt
           · show l.length - (i + 1) < l.length - i; omega)
    · have q1 : decide (i < l.length) = false := by simpa using hlt
      have hn := accE_all l (i := i) (by omega)
      rw [hn]
      repeat' (first | (with_reducible first | refine Cn (fun h => ?_) fun h => ?_ | refine And.intro ?_ ?_ | refine wR ?_ | exact wr _ _ | refine wa ?_ | apply awp_join) | (with_reducible refine CallZ.z ?_) | simp -dsimp [go_sem, q1])
abbrev bC' (b : Bool) : C := .v (.lit (.bool b))
theorem byKey_c (e : Ent) (k : ByteArray) : PCall Tryz.prog G 148 [.agg e.c, sV k] (iV (cmpB e.key k)) := by
  unfold Ent.c
  refine pcallc mixed Tryz.func148 ac_store_keyed_find_1 ?_
  repeat' (first | (with_reducible first | refine Cn (fun h => ?_) fun h => ?_ | refine And.intro ?_ ?_ | refine wR ?_ | exact wr _ _ | refine wa ?_ | apply awp_join | refine q (stringsCompare_c _ _) ?_ | refine qd (stringsCompare_c _ _) ?_ | refine qz (stringsCompare_c _ _) ?_) | (with_reducible refine CallZ.z ?_) | simp -dsimp [go_sem])
theorem bsearchE (l : List Ent) (key : ByteArray) (hl : l.length ≤ 1000000) (hr : Rise l) :
    PCall Tryz.prog G 147 [.one (.v (.sl (eR l))), sV key, .fn 148 [] []] (.tup [iV (findE l key), bV (inE l key)]) := by
  have he := en148
  obtain ⟨i, hi0⟩ : ∃ i, findE l key = i := ⟨_, rfl⟩
  have hi := findE_le l key
  have h1 : ∀ (j : Nat) a, l[j]? = some a → j < i → cmpB a.key key < 0 := fun j a hj hlt => by
    have := plc_lt (fun e : Ent => decide (cmpB e.key key < 0)) l j a hj (by rw [← hi0] at hlt; exact hlt)
    simpa using this
  have h2 : ∀ (j : Nat) a, l[j]? = some a → i ≤ j → 0 ≤ cmpB a.key key := fun j a hj hle => findE_ge hr j a hj (by rw [hi0]; exact hle)
  unfold inE
  rw [hi0] at hi ⊢
  clear hi0
  refine pcallc mixed Tryz.func147 ac_slices_BinarySearchFunc_api_Entry_string ?_
  repeat' (first | (with_reducible first | refine Cn (fun h => ?_) fun h => ?_ | refine And.intro ?_ ?_ | refine wR ?_ | exact wr _ _ | refine wa ?_ | apply awp_join) | (with_reducible refine CallZ.z ?_) | simp -dsimp [go_sem])
  refine awp_loop (fun q : Nat × Nat => ⟨[(0, .one (.v (.sl (eR l)))), (1, sV key), (2, .fn 148 [] []), (8, iV l.length), (9, iV q.1), (10, iV q.2)], G, []⟩) (fun q => q.1 ≤ i ∧ i ≤ q.2 ∧ q.2 ≤ l.length) (fun q => q.2 - q.1) (0, l.length) (weak_auto ?_) ⟨Nat.zero_le _, hi, Nat.le_refl _⟩ ?_
  · simp -dsimp [go_sem]
  · rintro ⟨lo, up⟩ ⟨q1, q2, q3⟩
    simp only at q1 q2 q3
    have w0 : IntKind.i64.wrap ((lo : Int) + up) = (lo : Int) + up := IntWalk.i64_in _ (by omega)
    simp -dsimp [go_sem]
    refine Cnd.intro (fun h => ?_) (fun h => ?_)
    · have hlt : lo < up := by simpa using h
      obtain ⟨m, hm, m1, m2⟩ : ∃ m : Nat, ((lo : Int) + up).fdiv 2 = m ∧ lo ≤ m ∧ m < up := by
        refine ⟨(lo + up) / 2, ?_, by omega, by omega⟩
        rw [Int.fdiv_eq_ediv_of_nonneg _ (by omega)]; omega
      have w1 : IntKind.u64.wrap ((lo : Int) + up) = (lo : Int) + up := IntWalk.u64_in _ (by omega)
      have w2 : IntKind.i64.wrap (m : Int) = m := IntWalk.i64_in _ (by omega)
      have w3 : IntKind.i64.wrap ((m : Int) + 1) = (m : Int) + 1 := IntWalk.i64_in _ (by omega)
      obtain ⟨a, ha⟩ : ∃ a, l[m]? = some a := ⟨_, List.getElem?_eq_getElem (by omega)⟩
      have hc := byKey_c (G := G) a key
      have k1 := h1 m a ha
      have k2 := h2 m a ha
      obtain ⟨x, hx⟩ : ∃ x, cmpB a.key key = x := ⟨_, rfl⟩
      rw [hx] at hc k1 k2
      simp only [Ent.c] at hc
      repeat' (first | (with_reducible first | refine Cn (fun h => ?_) fun h => ?_ | refine And.intro ?_ ?_ | refine wR ?_ | exact wr _ _ | refine wa ?_ | apply awp_join | refine q hc ?_ | refine qd hc ?_ | refine qz hc ?_) | (with_reducible refine CallZ.z ?_) | simp -dsimp [go_sem, w0, hm, w1, w2, w3, ha, Ent.row, he])
      all_goals first
        | (have hh : x < 0 := by simpa using h
           refine Again.auto (m + 1, up) ?_ ⟨?_, ?_, ?_⟩ ?_
           · simp -dsimp [go_sem]
           · show m + 1 ≤ i; omega
           · show i ≤ up; omega
           · show up ≤ l.length; omega
           · show up - (m + 1) < up - lo; omega)
        | (have hh : ¬ x < 0 := by simpa using h
           refine Again.auto (lo, m) ?_ ⟨?_, ?_, ?_⟩ ?_
           · simp -dsimp [go_sem]
           · show lo ≤ i; omega
           · show i ≤ m; omega
           · show m ≤ l.length; omega
           · show m - lo < up - lo; omega)
        | omega
    · have hge : lo = i := by simp at h; omega
      subst hge
      cases ha : l[lo]? with
      | none =>
        have hn : l.length ≤ lo := by simpa using ha
        have hlt : decide (lo < l.length) = false := by simp; omega
        repeat' (first | (with_reducible first | refine Cn (fun h => ?_) fun h => ?_ | refine And.intro ?_ ?_ | refine wR ?_ | exact wr _ _ | refine wa ?_ | apply awp_join) | (with_reducible refine CallZ.z ?_) | simp -dsimp [go_sem, hlt])
      | some a =>
        have hn : lo < l.length := lt_of_getElem? ha
        have hlt : decide (lo < l.length) = true := by simp; omega
        have hc := byKey_c (G := G) a key
        simp only [Ent.c] at hc
        repeat' (first | (with_reducible first | refine Cn (fun h => ?_) fun h => ?_ | refine And.intro ?_ ?_ | refine wR ?_ | exact wr _ _ | refine wa ?_ | apply awp_join | refine q hc ?_ | refine qd hc ?_ | refine qz hc ?_) | (with_reducible refine CallZ.z ?_) | simp -dsimp [go_sem, hlt, ha, Ent.row, he])
abbrev kHp (now : Int) (l : List (List V)) (at' : Int) (th : Bool) : Hp := [some (.box 185 [iC now, .ar 1, iC at', bC' th]), some (.arr 119 8 l)]
theorem find_c (now a0 : Int) (t0 : Bool) (l : List Ent) (key : ByteArray) (hl : l.length ≤ 1000000) (hr : Rise l) :
    DetCall Tryz.prog G 135 2 (kHp now (eR l) a0 t0) [.one (.ptr 0 0), sV key] (.tup []) (kHp now (eR l) (findE l key) (inE l key)) := by
  have hf := bsearchE (G := G) l key hl hr
  refine gcallc mixed Tryz.func135 ac_store_keyed_find ?_
  repeat' (first | (with_reducible first | refine Cn (fun h => ?_) fun h => ?_ | refine And.intro ?_ ?_ | refine wR ?_ | exact wr _ _ | refine wa ?_ | apply awp_join) | ((with_reducible refine CallZ.b ?_); simp -dsimp [go_sem]; (with_reducible refine PCall.bn (hf) (by with_unfolding_all rfl) (by with_unfolding_all rfl) (by with_unfolding_all rfl) (by with_unfolding_all rfl) ?_)) | (with_reducible refine CallZ.z ?_) | simp -dsimp [go_sem])
theorem remove_c (now : Int) (i : Nat) (th : Bool) (l : List Ent) (hi : i < l.length) (hl : l.length ≤ 1000000) :
    DetCall Tryz.prog G 136 1 (kHp now (eR l) i th) [.one (.ptr 0 0)] (.tup []) (kHp now (eR (delAt l i)) i th) := by
  have hd := delete_api_Entry (G := G) (eR l) i (by simpa using hi) (by simpa using hl)
  rw [map_del] at hd
  have w3 : IntKind.i64.wrap ((i : Int) + 1) = (i : Int) + 1 := IntWalk.i64_in _ (by omega)
  refine gcallc mixed Tryz.func136 ac_store_keyed_remove ?_
  repeat' (first | (with_reducible first | refine Cn (fun h => ?_) fun h => ?_ | refine And.intro ?_ ?_ | refine wR ?_ | exact wr _ _ | refine wa ?_ | apply awp_join | refine qg hd ?_ | refine qgd hd ?_) | (with_reducible refine CallZ.z ?_) | simp -dsimp [go_sem, w3])
theorem set_c (now : Int) (l : List Ent) (c : Cmd) (v : Val) (hl : l.length ≤ 1000) :
    DetCall Tryz.prog G 139 1 (kHp now (eR l) (findE l c.key) (inE l c.key)) [.one (.ptr 0 0), .agg c.c, .agg v.c] (.tup []) (kHp now (eR (setE l c v)) (findE l c.key) (inE l c.key)) := by
  have hle := findE_le l c.key
  unfold setE
  cases hin : inE l c.key with
  | true =>
    obtain ⟨e, he, hk⟩ := inE_some hin
    have hlt := lt_of_getElem? he
    rw [if_pos rfl, he]
    generalize findE l c.key = i at *
    obtain ⟨ck, ckey, cf, ct, cn⟩ := c
    obtain ⟨vk, vt, vn, vp, vi, vs⟩ := v
    obtain ⟨key, ⟨wk, wt, wn, wp, wi, ws⟩, till⟩ := e
    have hgs : ∀ X, ((eR l).set i X)[i]? = some X := fun X => by rw [List.getElem?_set_self (by simpa using hlt)]
    have hm : ∀ y : Ent, eR (l.set i y) = (eR l).set i y.row := fun y => by simp
    simp only [Cmd.c, Val.c, hm, Ent.row]
    by_cases h1 : ck = 1
    · have q1 : (ck == 1) = true := by simpa using h1
      rw [if_pos h1]
      refine gcallc mixed Tryz.func139 ac_store_keyed_set ?_
      repeat' (first | (with_reducible first | refine Cn (fun h => ?_) fun h => ?_ | refine And.intro ?_ ?_ | refine wR ?_ | exact wr _ _ | refine wa ?_ | apply awp_join) | (with_reducible refine CallZ.z ?_) | simp -dsimp [go_sem, he, Ent.row, q1, hgs])
      all_goals omega
    · have q1 : (ck == 1) = false := by simpa using h1
      rw [if_neg h1]
      refine gcallc mixed Tryz.func139 ac_store_keyed_set ?_
      repeat' (first | (with_reducible first | refine Cn (fun h => ?_) fun h => ?_ | refine And.intro ?_ ?_ | refine wR ?_ | exact wr _ _ | refine wa ?_ | apply awp_join) | (with_reducible refine CallZ.z ?_) | simp -dsimp [go_sem, he, Ent.row, q1, hgs])
      all_goals omega
  | false =>
    simp only [Bool.false_eq_true, if_false]
    generalize findE l c.key = i at *
    obtain ⟨ck, ckey, cf, ct, cn⟩ := c
    obtain ⟨vk, vt, vn, vp, vi, vs⟩ := v
    have hd := insert_api_Entry (G := G) (eR l) (Ent.row ⟨ckey, zeroV, 0⟩) i rfl (by simpa using hle) (by simpa using (by omega : l.length ≤ 1000000))
    rw [map_ins] at hd
    have hg : (insAt l i (⟨ckey, zeroV, 0⟩ : Ent))[i]? = some ⟨ckey, zeroV, 0⟩ := by
      unfold insAt
      rw [List.getElem?_append_right (by simp; omega)]
      simp
      rw [Nat.min_eq_left hle]; simp
    have hs : (insAt l i (⟨ckey, zeroV, 0⟩ : Ent)).set i ⟨ckey, ⟨vk, vt, vn, vp, vi, vs⟩, 0⟩ = insAt l i ⟨ckey, ⟨vk, vt, vn, vp, vi, vs⟩, 0⟩ := by
      unfold insAt
      rw [List.set_append_right _ _ (by simp; omega)]
      simp
      rw [Nat.min_eq_left hle]; simp
    have hil : (insAt l i (⟨ckey, zeroV, 0⟩ : Ent)).length = l.length + 1 := insAt_length l i _
    have hgs : ∀ X, ((eR (insAt l i (⟨ckey, zeroV, 0⟩ : Ent))).set i X)[i]? = some X := fun X => by rw [List.getElem?_set_self (by rw [List.length_map, insAt_length]; omega)]
    rw [← hs]
    have hm : ∀ (m : List Ent) (y : Ent), eR (m.set i y) = (eR m).set i y.row := fun m y => by simp
    rw [hm]
    generalize insAt l i (⟨ckey, zeroV, 0⟩ : Ent) = L at *
    simp only [Cmd.c, Val.c, Ent.row, zeroV] at hd ⊢
    by_cases h1 : ck = 1
    · have q1 : (ck == 1) = true := by simpa using h1
      refine gcallc mixed Tryz.func139 ac_store_keyed_set ?_
      repeat' (first | (with_reducible first | refine Cn (fun h => ?_) fun h => ?_ | refine And.intro ?_ ?_ | refine wR ?_ | exact wr _ _ | refine wa ?_ | apply awp_join | refine qg hd ?_ | refine qgd hd ?_) | (with_reducible refine CallZ.z ?_) | simp -dsimp [go_sem, hg, Ent.row, q1, hgs])
      all_goals omega
    · have q1 : (ck == 1) = false := by simpa using h1
      refine gcallc mixed Tryz.func139 ac_store_keyed_set ?_
      repeat' (first | (with_reducible first | refine Cn (fun h => ?_) fun h => ?_ | refine And.intro ?_ ?_ | refine wR ?_ | exact wr _ _ | refine wa ?_ | apply awp_join | refine qg hd ?_ | refine qgd hd ?_) | (with_reducible refine CallZ.z ?_) | simp -dsimp [go_sem, hg, Ent.row, q1, hgs])
      all_goals omega
theorem timed_c (now : Int) (l : List Ent) (c : Cmd) (hl : l.length ≤ 1000) (hn0 : 0 ≤ now) (hn1 : now ≤ 1073741824) (ha : ∀ e ∈ l, OkE now e) (hc : okCount c.n = true) :
    DetCall Tryz.prog G 137 1 (kHp now (eR l) (findE l c.key) (inE l c.key)) [.one (.ptr 0 0), .agg c.c] (.agg (timedE now l c).2.c) (kHp now (eR (timedE now l c).1) (findE l c.key) (inE l c.key)) := by
  have hcn : -1099511627776 ≤ c.n ∧ c.n ≤ 1099511627776 := by unfold okCount at hc; simpa using hc
  unfold timedE
  cases hin : inE l c.key with
  | false =>
    simp only [Bool.false_eq_true, if_false]
    obtain ⟨ck, ckey, cf, ct, cn⟩ := c
    simp only [Cmd.c, Rep.c, failR, List.map_nil]
    refine gcallc mixed Tryz.func137 ac_store_keyed_timed ?_
    repeat' (first | (with_reducible first | refine Cn (fun h => ?_) fun h => ?_ | refine And.intro ?_ ?_ | refine wR ?_ | exact wr _ _ | refine wa ?_ | apply awp_join) | (with_reducible refine CallZ.z ?_) | simp -dsimp [go_sem])
  | true =>
    obtain ⟨e, he, hk⟩ := inE_some hin
    have hlt := lt_of_getElem? he
    have hoe := (ha e (List.mem_of_getElem? he)).till
    rw [if_pos rfl, he]
    simp only
    generalize findE l c.key = i at *
    obtain ⟨ck, ckey, cf, ct, cn⟩ := c
    obtain ⟨key, ⟨wk, wt, wn, wp, wi, ws⟩, till⟩ := e
    simp only at hcn hoe ⊢
    have w1 : IntKind.i64.wrap (till - now) = till - now := IntWalk.i64_in _ (by omega)
    have w2 : IntKind.i64.wrap (1073741824 - now) = 1073741824 - now := IntWalk.i64_in _ (by omega)
    have hm : ∀ y : Ent, eR (l.set i y) = (eR l).set i y.row := fun y => by simp
    by_cases h1 : ck = 21
    · have q1 : (ck == 21) = true := by simpa using h1
      rw [if_pos h1]
      simp only [Cmd.c, Rep.c, toldR, List.map_nil]
      refine gcallc mixed Tryz.func137 ac_store_keyed_timed ?_
      repeat' (first | (with_reducible first | refine Cn (fun h => ?_) fun h => ?_ | refine And.intro ?_ ?_ | refine wR ?_ | exact wr _ _ | refine wa ?_ | apply awp_join) | (with_reducible refine CallZ.z ?_) | simp -dsimp [go_sem, he, Ent.row, q1, w1])
      all_goals first | omega | trace_state
    · have q1 : (ck == 21) = false := by simpa using h1
      rw [if_neg h1]
      by_cases h2 : cn < 1 ∨ 1073741824 - now < cn
      · rw [if_pos h2]
        simp only [Cmd.c, Rep.c, failR, List.map_nil]
        refine gcallc mixed Tryz.func137 ac_store_keyed_timed ?_
        repeat' (first | (with_reducible first | refine Cn (fun h => ?_) fun h => ?_ | refine And.intro ?_ ?_ | refine wR ?_ | exact wr _ _ | refine wa ?_ | apply awp_join) | (with_reducible refine CallZ.z ?_) | simp -dsimp [go_sem, he, Ent.row, q1, w2])
        all_goals first | omega | (exfalso; simp at *; omega) | trace_state
      · rw [if_neg h2]
        have w3 : IntKind.i64.wrap (now + cn) = now + cn := IntWalk.i64_in _ (by omega)
        have q2 : decide (cn < 1) = false := by simp; omega
        have q3 : decide (1073741824 - now < cn) = false := by simp; omega
        simp only [Cmd.c, Rep.c, toldR, List.map_nil, hm, Ent.row]
        refine gcallc mixed Tryz.func137 ac_store_keyed_timed ?_
        repeat' (first | (with_reducible first | refine Cn (fun h => ?_) fun h => ?_ | refine And.intro ?_ ?_ | refine wR ?_ | exact wr _ _ | refine wa ?_ | apply awp_join) | (with_reducible refine CallZ.z ?_) | simp -dsimp [go_sem, he, Ent.row, q1, q2, q3, w2, w3])
        all_goals first | omega | trace_state
abbrev dHp (now : Int) (c : Nat) (rows : List (List V)) : Hp := [some (.box 182 [.ptr 1 0]), some (.box 185 [iC now, .ar 2, iC 0, bC' false]), some (.arj 119 8 c rows)]
theorem goneE_c (now : Int) (c : Nat) (rows : List (List V)) (e : Ent) : DetCall Tryz.prog G 105 3 (dHp now c rows) [.agg e.c, .one (.ptr 0 0)] (bV (goneE now e)) (dHp now c rows) := by
  obtain ⟨key, ⟨wk, wt, wn, wp, wi, ws⟩, till⟩ := e
  unfold goneE
  simp only [Ent.c]
  refine gcallc mixed Tryz.func105 ac_store_Apply_1 ?_
  repeat' (first | (with_reducible first | refine Cn (fun h => ?_) fun h => ?_ | refine And.intro ?_ ?_ | refine wR ?_ | exact wr _ _ | refine wa ?_ | apply awp_join) | (with_reducible refine CallZ.z ?_) | simp -dsimp [go_sem])
  all_goals (simp_all; done)
theorem indexE_c (now : Int) (c : Nat) (l : List Ent) (hl : l.length ≤ 1000000) : DetCall Tryz.prog G 134 3 (dHp now c (eR l)) [.one (.sub 2 8 0 l.length c), .fn 105 [] [.ptr 0 0]] (iV (firstI (goneE now) 0 l)) (dHp now c (eR l)) := by
  have hen := en105
  refine gcallc mixed Tryz.func134 ac_slices_IndexFunc_api_Entry ?_
  repeat' (first | (with_reducible first | refine Cn (fun h => ?_) fun h => ?_ | refine And.intro ?_ ?_ | refine wR ?_ | exact wr _ _ | refine wa ?_ | apply awp_join) | (with_reducible refine CallZ.z ?_) | simp -dsimp [go_sem])
  refine awp_loop (fun i : Nat => ⟨[(0, .one (.sub 2 8 0 l.length c)), (1, .fn 105 [] [.ptr 0 0]), (7, iV l.length), (8, iV i)], G, dHp now c (eR l)⟩) (fun i => i ≤ l.length ∧ firstI (goneE now) 0 l = firstI (goneE now) i (l.drop i)) (fun i => l.length - i) 0 (weak_auto ?_) ⟨Nat.zero_le _, rfl⟩ ?_
  · simp -dsimp [go_sem]
  · rintro i ⟨hi, hx⟩
    rw [hx]
    by_cases hlt : i < l.length
    · obtain ⟨e, he⟩ : ∃ e, l[i]? = some e := ⟨_, List.getElem?_eq_getElem hlt⟩
      have hxe := (List.getElem?_eq_some_iff.1 he).2
      have hg := goneE_c (G := G) now c (eR l) e
      rw [firstI_drop _ l hlt, hxe]
      obtain ⟨b, hb⟩ : ∃ b, goneE now e = b := ⟨_, rfl⟩
      rw [hb] at hg ⊢
      have e4 : IntKind.i64.wrap ((i : Int) + 1) = (i : Int) + 1 := IntWalk.i64_in _ (by omega)
      have q1 : decide (i < l.length) = true := by simpa using hlt
      obtain ⟨key, ⟨wk, wt, wn, wp, wi, ws⟩, till⟩ := e
      simp only [Ent.c] at hg
      cases b with
      | true =>
        simp only [if_true]
        repeat' (first | (with_reducible first | refine Cn (fun h => ?_) fun h => ?_ | refine And.intro ?_ ?_ | refine wR ?_ | exact wr _ _ | refine wa ?_ | apply awp_join | refine qg hg ?_ | refine qgd hg ?_) | (with_reducible refine CallZ.z ?_) | simp -dsimp [go_sem, he, Ent.row, e4, q1, hen])
        all_goals first | omega | trace_state
      | false =>
        simp only [Bool.false_eq_true, if_false]
        repeat' (first | (with_reducible first | refine Cn (fun h => ?_) fun h => ?_ | refine And.intro ?_ ?_ | refine wR ?_ | exact wr _ _ | refine wa ?_ | apply awp_join | refine qg hg ?_ | refine qgd hg ?_) | (with_reducible refine CallZ.z ?_) | simp -dsimp [go_sem, he, Ent.row, e4, q1, hen])
        all_goals first
          | omega
          | (refine Again.auto (i + 1) ?_ ⟨hlt, rfl⟩ ?_
             · simp -dsimp [go_sem]
             · show l.length - (i + 1) < l.length - i; omega)
          | trace_state
    · have q1 : decide (i < l.length) = false := by simpa using hlt
      have hn : l.drop i = [] := List.drop_eq_nil_of_le (by omega)
      rw [hn]
      unfold firstI
      repeat' (first | (with_reducible first | refine Cn (fun h => ?_) fun h => ?_ | refine And.intro ?_ ?_ | refine wR ?_ | exact wr _ _ | refine wa ?_ | apply awp_join) | (with_reducible refine CallZ.z ?_) | simp -dsimp [go_sem, q1])
end Go.Proofs.YtpdcfljbabpakaaGreatDoor
set_option linter.unusedVariables false
set_option linter.unusedSimpArgs false
set_option maxRecDepth 100000
set_option maxHeartbeats 8000000
namespace Go.Proofs.YtpdcfljbabpakaaGreatDoor
open Go Go.RowKit Go.Proofs.AE
variable {G : Nat → AV}
theorem firstI_cases {α : Type} (p : α → Bool) : ∀ (l : List α) (i : Nat), (firstI p i l = -1 ∧ ∀ x ∈ l, p x = false) ∨ ∃ j x, firstI p i l = ((i + j : Nat) : Int) ∧ l[j]? = some x ∧ p x = true ∧ ∀ y ∈ l.take j, p y = false
  | [], i => .inl ⟨rfl, fun x h => by cases h⟩
  | a :: l, i => by
    unfold firstI
    cases h : p a with
    | true => exact .inr ⟨0, a, by simp, rfl, h, fun y hy => by simp at hy⟩
    | false =>
      simp only [Bool.false_eq_true, if_false]
      rcases firstI_cases p l (i + 1) with ⟨h1, h2⟩ | ⟨j, x, h1, h2, h3, h4⟩
      · exact .inl ⟨h1, fun x hx => by rcases List.mem_cons.1 hx with rfl | hx; exact h; exact h2 x hx⟩
      · exact .inr ⟨j + 1, x, by rw [h1]; congr 1; omega, by simpa using h2, h3, fun y hy => by
          rw [List.take_succ_cons] at hy
          rcases List.mem_cons.1 hy with rfl | hy
          · exact h
          · exact h4 y hy⟩
def keepE (now : Int) (l : List Ent) : List Ent := l.filter fun e => !goneE now e
theorem keepE_succ (now : Int) {l : List Ent} {j : Nat} {e : Ent} (h : l[j]? = some e) : keepE now (l.take (j + 1)) = if goneE now e = true then keepE now (l.take j) else keepE now (l.take j) ++ [e] := by
  unfold keepE
  rw [List.take_add_one, h, Option.toList_some, List.filter_append]
  cases hg : goneE now e <;> simp [hg]
structure Way (now : Int) (l : List Ent) (j i : Nat) (rows : List (List V)) : Prop where
  len : rows.length = l.length
  le : j ≤ l.length
  lt : i < j
  many : i = (keepE now (l.take j)).length
  head : rows.take i = eR (keepE now (l.take j))
  tail : rows.drop j = eR (l.drop j)
  ul : UL 8 rows
theorem Way.at {now : Int} {l : List Ent} {j i : Nat} {rows : List (List V)} (h : Way now l j i rows) {e : Ent} (he : l[j]? = some e) : rows[j]? = some e.row := by
  have : (rows.drop j)[0]? = (eR (l.drop j))[0]? := by rw [h.tail]
  rw [List.getElem?_drop, List.getElem?_map, List.getElem?_drop] at this
  simpa [he] using this
theorem Way.skip {now : Int} {l : List Ent} {j i : Nat} {rows : List (List V)} (h : Way now l j i rows) {e : Ent} (he : l[j]? = some e) (hg : goneE now e = true) : Way now l (j + 1) i rows := by
  have hlt := lt_of_getElem? he
  have hk := keepE_succ now he
  rw [if_pos hg] at hk
  refine ⟨h.len, hlt, by have := h.lt; omega, by rw [hk]; exact h.many, by rw [hk]; exact h.head, ?_, h.ul⟩
  have : (rows.drop j).drop 1 = (eR (l.drop j)).drop 1 := by rw [h.tail]
  rw [List.drop_drop, ← List.map_drop, List.drop_drop] at this
  exact this
theorem Way.keep {now : Int} {l : List Ent} {j i : Nat} {rows : List (List V)} (h : Way now l j i rows) {e : Ent} (he : l[j]? = some e) (hg : goneE now e = false) : Way now l (j + 1) (i + 1) (rows.set i e.row) := by
  have hlt := lt_of_getElem? he
  have hk := keepE_succ now he
  rw [if_neg (by rw [hg]; simp)] at hk
  have hl := h.len
  have hij := h.lt
  refine ⟨by rw [List.length_set]; exact hl, hlt, by omega, by rw [hk, List.length_append, ← h.many]; rfl, ?_, ?_, ?_⟩
  · rw [hk]
    show List.take (i + 1) (rows.set i e.row) = List.map Ent.row (_ ++ [e])
    have hh : List.map Ent.row (keepE now (l.take j)) = rows.take i := h.head.symm
    rw [List.map_append, hh, List.take_add_one, List.getElem?_set_self (by omega)]
    simp only [Option.toList_some, List.map_cons, List.map_nil]
    congr 1
    rw [List.take_set_of_le (Nat.le_refl _)]
  · rw [List.drop_set_of_lt (by omega)]
    have : (rows.drop j).drop 1 = (eR (l.drop j)).drop 1 := by rw [h.tail]
    rw [List.drop_drop, ← List.map_drop, List.drop_drop] at this
    exact this
  · intro r hr
    rcases List.mem_or_eq_of_mem_set hr with hr | hr
    · exact h.ul r hr
    · rw [hr]; rfl
theorem keep_all {now : Int} {l : List Ent} (h : ∀ e ∈ l, goneE now e = false) : keepE now l = l := by
  unfold keepE
  rw [List.filter_eq_self]
  intro e he
  rw [h e he]; rfl
theorem way_first {now : Int} {l : List Ent} {j : Nat} {e : Ent} (he : l[j]? = some e) (hg : goneE now e = true) (hn : ∀ y ∈ l.take j, goneE now y = false) : Way now l (j + 1) j (eR l) := by
  have hlt := lt_of_getElem? he
  have hk := keepE_succ now he
  rw [if_pos hg, keep_all hn] at hk
  exact ⟨by simp, hlt, by omega, by rw [hk, List.length_take]; omega, by rw [hk]; exact List.map_take.symm, List.map_drop.symm, ul_e l⟩
theorem wr_clear {rows : List (List V)} {z : List V} {i n : Nat} (h : rows.length = n) (hi : i ≤ n) : (wrRows rows (List.replicate (n - i) z) i).take i = rows.take i := by
  unfold wrRows
  rw [List.append_assoc, List.take_append_of_le_length (by rw [List.length_take]; omega), List.take_take, Nat.min_self]
theorem wr_clear_len {rows : List (List V)} {z : List V} {i n : Nat} (h : rows.length = n) (hi : i ≤ n) : (wrRows rows (List.replicate (n - i) z) i).length = n := by
  rw [wr_len (by omega), List.length_replicate]; omega
theorem deleteE_c (now : Int) (l : List Ent) (hl : l.length ≤ 1000) :
    DetCall Tryz.prog G 104 2 [some (.box 182 [.ptr 1 0]), some (.box 185 [iC now, .ar 2, iC 0, bC' false]), some (.arr 119 8 (eR l))] [.one (.ar 2), .fn 105 [] [.ptr 0 0]]
      (.one (.ar 2)) [some (.box 182 [.ptr 1 0]), some (.box 185 [iC now, .any, iC 0, bC' false]), some (.arr 119 8 (eR (keepE now l)))] := by
  refine DetCall.arjAt (by decide) rfl fun c hc1 hc2 hul => ?_
  rw [List.length_map] at hc1 ⊢
  show DetCall Tryz.prog G _ 2 (dHp now c (eR l)) _ _ _
  have hc3 : c ≤ 9223372036854775807 := hc2
  have hen := en105
  have hidx := indexE_c (G := G) now c l (by omega)
  rcases firstI_cases (goneE now) l 0 with ⟨h1, h2⟩ | ⟨j0, e0, h1, h2, h3, h4⟩
  · rw [h1] at hidx
    rw [keep_all h2]
    refine gcallc mixed Tryz.func104 ac_slices_DeleteFunc_api_Entry ?_
    repeat' (first | (with_reducible first | refine Cn (fun h => ?_) fun h => ?_ | refine And.intro ?_ ?_ | refine wR ?_ | exact wr _ _ | refine wa ?_ | apply awp_join | refine qg hidx ?_ | refine qgd hidx ?_) | (with_reducible refine CallZ.z ?_) | simp -dsimp [go_sem])
    all_goals first | omega | exact (List.take_of_length_le (by simp)).symm
  · rw [h1, Nat.zero_add] at hidx
    have hlt := lt_of_getElem? h2
    have w0 : IntKind.i64.wrap ((j0 : Int) + 1) = (j0 : Int) + 1 := IntWalk.i64_in _ (by omega)
    have q0 : ((j0 : Int) == -1) = false := by rw [beq_eq_false_iff_ne]; omega
    refine gcallc mixed Tryz.func104 ac_slices_DeleteFunc_api_Entry ?_
    repeat' (first | (with_reducible first | refine Cn (fun h => ?_) fun h => ?_ | refine And.intro ?_ ?_ | refine wR ?_ | exact wr _ _ | refine wa ?_ | apply awp_join | refine qg hidx ?_ | refine qgd hidx ?_) | (with_reducible refine CallZ.z ?_) | simp -dsimp [go_sem, w0, q0])
    refine awp_loop (fun x : Nat × Nat × List (List V) => ⟨[(0, .one (.sub 2 8 0 l.length c)), (1, .fn 105 [] [.ptr 0 0]), (5, iV x.2.1), (6, iV x.1)], G, dHp now c x.2.2⟩) (fun x => Way now l x.1 x.2.1 x.2.2) (fun x => l.length - x.1) (j0 + 1, j0, eR l) (weak_auto ?_) (way_first h2 h3 h4) ?_
    · simp -dsimp [go_sem]
    · rintro ⟨j, i, rows⟩ hw
      simp only at hw
      have hwl := hw.len
      have hij := hw.lt
      have hjn := hw.le
      simp only
      by_cases hjl : j < l.length
      · obtain ⟨e, he⟩ : ∃ e, l[j]? = some e := ⟨_, List.getElem?_eq_getElem hjl⟩
        have hrow := hw.at he
        have hg := goneE_c (G := G) now c rows e
        have q1 : decide (j < l.length) = true := by simpa using hjl
        have w1 : IntKind.i64.wrap ((j : Int) + 1) = (j : Int) + 1 := IntWalk.i64_in _ (by omega)
        have w2 : IntKind.i64.wrap ((i : Int) + 1) = (i : Int) + 1 := IntWalk.i64_in _ (by omega)
        obtain ⟨b, hb⟩ : ∃ b, goneE now e = b := ⟨_, rfl⟩
        rw [hb] at hg
        cases b with
        | true =>
          have hw2 := hw.skip he hb
          obtain ⟨key, ⟨wk, wt, wn, wp, wi, ws⟩, till⟩ := e
          simp only [Ent.c, Ent.row] at hg hrow
          repeat' (first | (with_reducible first | refine Cn (fun h => ?_) fun h => ?_ | refine And.intro ?_ ?_ | refine wR ?_ | exact wr _ _ | refine wa ?_ | apply awp_join | refine qg hg ?_ | refine qgd hg ?_) | (with_reducible refine CallZ.z ?_) | simp -dsimp [go_sem, hrow, w1, w2, q1, hen, hwl])
          all_goals first
            | omega
            | (refine Again.auto (j + 1, i, rows) ?_ hw2 ?_
               · simp -dsimp [go_sem]
               · show l.length - (j + 1) < l.length - j; omega)
        | false =>
          have hw2 := hw.keep he hb
          obtain ⟨key, ⟨wk, wt, wn, wp, wi, ws⟩, till⟩ := e
          obtain ⟨rowi, hri⟩ : ∃ r, rows[i]? = some r := ⟨_, List.getElem?_eq_getElem (by omega)⟩
          simp only [Ent.c, Ent.row] at hg hrow hw2
          have hr8 : List.drop 8 rowi = [] := List.drop_eq_nil_of_le (by rw [hw.ul rowi (List.mem_of_getElem? hri)]; omega)
          repeat' (first | (with_reducible first | refine Cn (fun h => ?_) fun h => ?_ | refine And.intro ?_ ?_ | refine wR ?_ | exact wr _ _ | refine wa ?_ | apply awp_join | refine qg hg ?_ | refine qgd hg ?_) | (with_reducible refine CallZ.z ?_) | simp -dsimp [go_sem, hrow, hri, hr8, w1, w2, q1, hen, hwl])
          all_goals first
            | omega
            | (refine Again.auto (j + 1, i + 1, rows.set i [V.lit (.string key), V.lit (.int .i64 wk), V.lit (.string wt), V.lit (.int .i64 wn), V.sl (pR wp), V.sl (strRows wi), V.sl (sR ws), V.lit (.int .i64 till)]) ?_ hw2 ?_
               · simp -dsimp [go_sem]
               · show l.length - (j + 1) < l.length - j; omega)
      · have q1 : decide (j < l.length) = false := by simpa using hjl
        have hje : l.take j = l := List.take_of_length_le (by omega)
        have hhead := hw.head
        rw [hje] at hhead
        have hcl := fun z => wr_clear (rows := rows) (z := z) (i := i) hwl (by omega)
        have hcl2 := fun z => wr_clear_len (rows := rows) (z := z) (i := i) hwl (by omega)
        rw [← hhead]
        repeat' (first | (with_reducible first | refine Cn (fun h => ?_) fun h => ?_ | refine And.intro ?_ ?_ | refine wR ?_ | exact wr _ _ | refine wa ?_ | apply awp_join) | (with_reducible refine CallZ.z ?_) | simp -dsimp [go_sem, q1, hwl, hcl, hcl2])
        all_goals omega
theorem accK_succ {l : List Ent} {i : Nat} {e : Ent} (h : l[i]? = some e) : accR [] Ent.key l (i + 1) = accR [] Ent.key l i ++ [[V.lit (.string e.key)]] := accR_succ [] Ent.key l h
theorem do22_c (now a0 : Int) (t0 : Bool) (l : List Ent) (c : Cmd) (hk : c.kind = 22) (hl : l.length ≤ 1000) (hr : Rise l) :
    DetCall Tryz.prog G 106 1 (kHp now (eR l) a0 t0) [.one (.ptr 0 0), .agg c.c] (.agg (doE now l c).2.c) (kHp now (eR (doE now l c).1) (findE l c.key) (inE l c.key)) := by
  have hf := find_c (G := G) now a0 t0 l c.key (by omega) hr
  unfold doE
  rw [if_pos hk]
  obtain ⟨ck, ckey, cf, ct, cn⟩ := c
  simp only at hk hf
  subst hk
  simp only [Cmd.c, Rep.c]
  generalize findE l ckey = fi at *
  generalize inE l ckey = fb at *
  refine gcallc mixed Tryz.func106 ac_store_keyed_do ?_
  repeat' (first | (with_reducible first | refine Cn (fun h => ?_) fun h => ?_ | refine And.intro ?_ ?_ | refine wR ?_ | exact wr _ _ | refine wa ?_ | apply awp_join | refine qg hf ?_ | refine qgd hf ?_) | (with_reducible refine CallZ.z ?_) | simp -dsimp [go_sem])
  refine awp_loop (fun i : Nat => ⟨[(4, .one (.ptr 2 0)), (5, .one (.ptr 3 0)), (24, .one (.ar 1)), (25, iV l.length), (26, iV i)], G, [some (.box 185 [iC now, .ar 1, iC fi, bC' fb]), some (.arr 119 8 (eR l)), some (.box 106 [iC 0, sC ⟨#[]⟩, iC 0, .nil]), some (.box 106 [iC 0, sC ⟨#[]⟩, iC 0, .ar 4]), some (.arr 9 1 (accR [] Ent.key l i))]⟩) (fun i => i ≤ l.length) (fun i => l.length - i) 0 (Weak.trans (weak_thaw 4 3 9 1 rfl rfl (by omega)) (weak_auto ?_)) (Nat.zero_le _) ?_
  · simp -dsimp [go_sem, accR_zero]
  · intro i hi
    by_cases hlt : i < l.length
    · obtain ⟨e, he⟩ : ∃ e, l[i]? = some e := ⟨_, List.getElem?_eq_getElem hlt⟩
      have e4 : IntKind.i64.wrap ((i : Int) + 1) = (i : Int) + 1 := IntWalk.i64_in _ (by omega)
      have q1 : decide (i < l.length) = true := by simpa using hlt
      have hal := accR_len [] Ent.key l hi
      have hsu := accK_succ he
      simp only [List.length_nil, Nat.zero_add] at hal
      obtain ⟨key, ⟨vk, vt, vn, vp, vi, vs⟩, till⟩ := e
      simp only at hsu
      have hul1 : UL 1 [[V.lit (.string key)]] := fun r hr => by simp at hr; subst hr; rfl
      repeat' (first | (with_reducible first | refine Cn (fun h => ?_) fun h => ?_ | refine And.intro ?_ ?_ | refine wR ?_ | exact wr _ _ | refine wa ?_ | apply awp_join) | (with_reducible refine CallZ.z ?_) | simp -dsimp [go_sem, he, Ent.row, e4, q1, hal])
      all_goals first
        | omega
        | exact hul1
        | (refine Again.auto (i + 1) ?_ ?_ ?_
           · simp -dsimp [go_sem, hsu]
           · exact hlt
           · show l.length - (i + 1) < l.length - i; omega)
    · have q1 : decide (i < l.length) = false := by simpa using hlt
      have hn : accR [] Ent.key l i = strRows (l.map Ent.key) := by
        have : i = l.length := by omega
        rw [this, accR_all]
        simp
      rw [hn]
      repeat' (first | (with_reducible first | refine Cn (fun h => ?_) fun h => ?_ | refine And.intro ?_ ?_ | refine wR ?_ | exact wr _ _ | refine wa ?_ | apply awp_join) | (with_reducible refine CallZ.z ?_) | simp -dsimp [go_sem, q1])
      all_goals omega
theorem do19_c (now a0 : Int) (t0 : Bool) (l : List Ent) (c : Cmd) (hk : c.kind = 19) (hl : l.length ≤ 1000) (hr : Rise l) :
    DetCall Tryz.prog G 106 1 (kHp now (eR l) a0 t0) [.one (.ptr 0 0), .agg c.c] (.agg (doE now l c).2.c) (kHp now (eR (doE now l c).1) (findE l c.key) (inE l c.key)) := by
  have hf := find_c (G := G) now a0 t0 l c.key (by omega) hr
  unfold doE
  rw [if_neg (by omega), if_pos hk]
  obtain ⟨ck, ckey, cf, ct, cn⟩ := c
  simp only at hk hf
  subst hk
  simp only [Cmd.c, Rep.c]
  cases hin : inE l ckey with
  | true =>
    obtain ⟨e, he, hke⟩ := inE_some hin
    have hrm := remove_c (G := G) now (findE l ckey) true l (lt_of_getElem? he) (by omega)
    rw [hin] at hf
    rw [if_pos rfl]
    generalize findE l ckey = fi at *
    simp only [toldR, List.map_nil]
    refine gcallc mixed Tryz.func106 ac_store_keyed_do ?_
    repeat' (first | (with_reducible first | refine Cn (fun h => ?_) fun h => ?_ | refine And.intro ?_ ?_ | refine wR ?_ | exact wr _ _ | refine wa ?_ | apply awp_join | refine qg hf ?_ | refine qgd hf ?_ | refine qg hrm ?_ | refine qgd hrm ?_) | (with_reducible refine CallZ.z ?_) | simp -dsimp [go_sem])
    all_goals omega
  | false =>
    rw [hin] at hf
    rw [if_neg (by simp)]
    generalize findE l ckey = fi at *
    simp only [toldR, List.map_nil]
    refine gcallc mixed Tryz.func106 ac_store_keyed_do ?_
    repeat' (first | (with_reducible first | refine Cn (fun h => ?_) fun h => ?_ | refine And.intro ?_ ?_ | refine wR ?_ | exact wr _ _ | refine wa ?_ | apply awp_join | refine qg hf ?_ | refine qgd hf ?_) | (with_reducible refine CallZ.z ?_) | simp -dsimp [go_sem])
    all_goals omega
theorem do20_c (now a0 : Int) (t0 : Bool) (l : List Ent) (c : Cmd) (hk : c.kind = 20) (hl : l.length ≤ 1000) (hr : Rise l) (hn0 : 0 ≤ now) (hn1 : now ≤ 1073741824) (ha : ∀ e ∈ l, OkE now e) (hc : okCount c.n = true) :
    DetCall Tryz.prog G 106 1 (kHp now (eR l) a0 t0) [.one (.ptr 0 0), .agg c.c] (.agg (doE now l c).2.c) (kHp now (eR (doE now l c).1) (findE l c.key) (inE l c.key)) := by
  have hf := find_c (G := G) now a0 t0 l c.key (by omega) hr
  have ht := timed_c (G := G) now l c hl hn0 hn1 ha hc
  unfold doE
  rw [if_neg (by omega), if_neg (by omega), if_pos (by omega)]
  obtain ⟨ck, ckey, cf, ct, cn⟩ := c
  simp only at hk hf ht
  subst hk
  generalize timedE now l ⟨20, ckey, cf, ct, cn⟩ = q at *
  obtain ⟨q1, q2, q3, q4, q5⟩ := q
  simp only [Cmd.c, Rep.c] at ht ⊢
  generalize findE l ckey = fi at *
  generalize inE l ckey = fb at *
  refine gcallc mixed Tryz.func106 ac_store_keyed_do ?_
  repeat' (first | (with_reducible first | refine Cn (fun h => ?_) fun h => ?_ | refine And.intro ?_ ?_ | refine wR ?_ | exact wr _ _ | refine wa ?_ | apply awp_join | refine qg hf ?_ | refine qgd hf ?_ | refine qg ht ?_ | refine qgd ht ?_) | (with_reducible refine CallZ.z ?_) | simp -dsimp [go_sem])
  all_goals omega
theorem do21_c (now a0 : Int) (t0 : Bool) (l : List Ent) (c : Cmd) (hk : c.kind = 21) (hl : l.length ≤ 1000) (hr : Rise l) (hn0 : 0 ≤ now) (hn1 : now ≤ 1073741824) (ha : ∀ e ∈ l, OkE now e) (hc : okCount c.n = true) :
    DetCall Tryz.prog G 106 1 (kHp now (eR l) a0 t0) [.one (.ptr 0 0), .agg c.c] (.agg (doE now l c).2.c) (kHp now (eR (doE now l c).1) (findE l c.key) (inE l c.key)) := by
  have hf := find_c (G := G) now a0 t0 l c.key (by omega) hr
  have ht := timed_c (G := G) now l c hl hn0 hn1 ha hc
  unfold doE
  rw [if_neg (by omega), if_neg (by omega), if_pos (by omega)]
  obtain ⟨ck, ckey, cf, ct, cn⟩ := c
  simp only at hk hf ht
  subst hk
  generalize timedE now l ⟨21, ckey, cf, ct, cn⟩ = q at *
  obtain ⟨q1, q2, q3, q4, q5⟩ := q
  simp only [Cmd.c, Rep.c] at ht ⊢
  generalize findE l ckey = fi at *
  generalize inE l ckey = fb at *
  refine gcallc mixed Tryz.func106 ac_store_keyed_do ?_
  repeat' (first | (with_reducible first | refine Cn (fun h => ?_) fun h => ?_ | refine And.intro ?_ ?_ | refine wR ?_ | exact wr _ _ | refine wa ?_ | apply awp_join | refine qg hf ?_ | refine qgd hf ?_ | refine qg ht ?_ | refine qgd ht ?_) | (with_reducible refine CallZ.z ?_) | simp -dsimp [go_sem])
  all_goals omega
theorem doVal_c (now a0 : Int) (t0 : Bool) (l : List Ent) (c : Cmd) (h1 : 1 ≤ c.kind) (h18 : c.kind ≤ 18) (hl : l.length ≤ 1000) (hr : Rise l) (ha : ∀ e ∈ l, OkE now e) :
    DetCall Tryz.prog G 106 1 (kHp now (eR l) a0 t0) [.one (.ptr 0 0), .agg c.c] (.agg (doE now l c).2.c) (kHp now (eR (doE now l c).1) (findE l c.key) (inE l c.key)) := by
  have hf := find_c (G := G) now a0 t0 l c.key (by omega) hr
  rw [show doE now l c = valE l c by unfold doE; rw [if_neg (by omega), if_neg (by omega), if_neg (by omega)]]
  have hold : (oldV l c).Small := by
    unfold oldV
    split
    · rename_i e he
      split at he
      · exact (ha e (List.mem_of_getElem? he)).val.small
      · cases he
    · exact zeroV_small
  have hd := Do_c (G := G) (oldV l c) c hold
  have hset := set_c (G := G) now l c (DoV (oldV l c) c).1 hl
  unfold valE
  have k1 : (c.kind == 22) = false := by rw [beq_eq_false_iff_ne]; omega
  have k2 : (c.kind == 19) = false := by rw [beq_eq_false_iff_ne]; omega
  have k3 : (c.kind == 20) = false := by rw [beq_eq_false_iff_ne]; omega
  have k4 : (c.kind == 21) = false := by rw [beq_eq_false_iff_ne]; omega
  obtain ⟨w, r, ee, hw⟩ : ∃ w r ee, DoV (oldV l c) c = (w, r, ee) := ⟨_, _, _, rfl⟩
  rw [hw] at hd hset ⊢
  simp only at hset ⊢
  cases hin : inE l c.key with
  | true =>
    obtain ⟨e, he, hke⟩ := inE_some hin
    have hlt := lt_of_getElem? he
    have ho : oldV l c = e.val := by unfold oldV; rw [hin, if_pos rfl, he]
    have hrm := remove_c (G := G) now (findE l c.key) true l hlt (by omega)
    rw [hin] at hf hset
    rw [ho] at hd
    obtain ⟨fi, hfi⟩ : ∃ fi, findE l c.key = fi := ⟨_, rfl⟩
    rw [hfi] at hf hset hrm he hlt ⊢
    obtain ⟨S, hS⟩ : ∃ S, setE l c w = S := ⟨_, rfl⟩
    rw [hS] at hset ⊢
    obtain ⟨ck, ckey, cf, ct, cn⟩ := c
    obtain ⟨key, ⟨wk, wt, wn, wp, wi, ws⟩, till⟩ := e
    obtain ⟨nk, nt, nn, np, ni, ns⟩ := w
    obtain ⟨rc, rt, rn, rl⟩ := r
    simp only at k1 k2 k3 k4
    simp only [DoA, Val.c, Cmd.c, Rep.c] at hd hset hf ⊢
    by_cases a1 : rc ≠ 0
    · have q1 : (rc != 0) = true := by simpa using a1
      rw [if_pos a1]
      refine gcallc mixed Tryz.func106 ac_store_keyed_do ?_
      repeat' (first | (with_reducible first | refine Cn (fun h => ?_) fun h => ?_ | refine And.intro ?_ ?_ | refine wR ?_ | exact wr _ _ | refine wa ?_ | apply awp_join | refine qg hf ?_ | refine qgd hf ?_ | refine q hd ?_ | refine qd hd ?_ | refine qz hd ?_) | (with_reducible refine CallZ.z ?_) | simp -dsimp [go_sem, he, Ent.row, k1, k2, k3, k4, q1])
      all_goals omega
    · have q1 : (rc != 0) = false := by simpa using a1
      rw [if_neg a1]
      by_cases a2 : nk = 0
      · have q2 : (nk == 0) = true := by simpa using a2
        rw [if_pos ⟨a2, trivial⟩]
        refine gcallc mixed Tryz.func106 ac_store_keyed_do ?_
        repeat' (first | (with_reducible first | refine Cn (fun h => ?_) fun h => ?_ | refine And.intro ?_ ?_ | refine wR ?_ | exact wr _ _ | refine wa ?_ | apply awp_join | refine qg hf ?_ | refine qgd hf ?_ | refine q hd ?_ | refine qd hd ?_ | refine qz hd ?_ | refine qg hrm ?_ | refine qgd hrm ?_) | (with_reducible refine CallZ.z ?_) | simp -dsimp [go_sem, he, Ent.row, k1, k2, k3, k4, q1, q2])
        all_goals omega
      · have q2 : (nk == 0) = false := by simpa using a2
        have q3 : (nk != 0) = true := by simpa using a2
        rw [if_neg (fun h => a2 h.1), if_neg (by simp), if_pos a2]
        refine gcallc mixed Tryz.func106 ac_store_keyed_do ?_
        repeat' (first | (with_reducible first | refine Cn (fun h => ?_) fun h => ?_ | refine And.intro ?_ ?_ | refine wR ?_ | exact wr _ _ | refine wa ?_ | apply awp_join | refine qg hf ?_ | refine qgd hf ?_ | refine q hd ?_ | refine qd hd ?_ | refine qz hd ?_ | refine qg hset ?_ | refine qgd hset ?_) | (with_reducible refine CallZ.z ?_) | simp -dsimp [go_sem, he, Ent.row, k1, k2, k3, k4, q1, q2, q3])
        all_goals omega
  | false =>
    have ho : oldV l c = zeroV := by unfold oldV; rw [hin]; rfl
    rw [hin] at hf hset
    rw [ho] at hd
    obtain ⟨fi, hfi⟩ : ∃ fi, findE l c.key = fi := ⟨_, rfl⟩
    rw [hfi] at hf hset ⊢
    obtain ⟨S, hS⟩ : ∃ S, setE l c w = S := ⟨_, rfl⟩
    rw [hS] at hset ⊢
    obtain ⟨ck, ckey, cf, ct, cn⟩ := c
    obtain ⟨nk, nt, nn, np, ni, ns⟩ := w
    obtain ⟨rc, rt, rn, rl⟩ := r
    simp only at k1 k2 k3 k4
    simp only [DoA, Val.c, Cmd.c, Rep.c, zeroV, List.map_nil] at hd hset hf ⊢
    by_cases a1 : rc ≠ 0
    · have q1 : (rc != 0) = true := by simpa using a1
      rw [if_pos a1]
      refine gcallc mixed Tryz.func106 ac_store_keyed_do ?_
      repeat' (first | (with_reducible first | refine Cn (fun h => ?_) fun h => ?_ | refine And.intro ?_ ?_ | refine wR ?_ | exact wr _ _ | refine wa ?_ | apply awp_join | refine qg hf ?_ | refine qgd hf ?_ | refine q hd ?_ | refine qd hd ?_ | refine qz hd ?_) | (with_reducible refine CallZ.z ?_) | simp -dsimp [go_sem, k1, k2, k3, k4, q1])
      all_goals omega
    · have q1 : (rc != 0) = false := by simpa using a1
      rw [if_neg a1, if_neg (by simp)]
      by_cases a3 : l.length = 12
      · have q3 : ((l.length : Int) == 12) = true := by rw [beq_iff_eq]; omega
        rw [if_pos (by simp [a3])]
        simp only [failR, List.map_nil]
        refine gcallc mixed Tryz.func106 ac_store_keyed_do ?_
        repeat' (first | (with_reducible first | refine Cn (fun h => ?_) fun h => ?_ | refine And.intro ?_ ?_ | refine wR ?_ | exact wr _ _ | refine wa ?_ | apply awp_join | refine qg hf ?_ | refine qgd hf ?_ | refine q hd ?_ | refine qd hd ?_ | refine qz hd ?_) | (with_reducible refine CallZ.z ?_) | simp -dsimp [go_sem, k1, k2, k3, k4, q1, q3])
        all_goals omega
      · have q3 : ((l.length : Int) == 12) = false := by rw [beq_eq_false_iff_ne]; omega
        rw [if_neg (by simp [a3])]
        by_cases a2 : nk ≠ 0
        · have q2 : (nk == 0) = false := by simpa using a2
          have q4 : (nk != 0) = true := by simpa using a2
          rw [if_pos a2]
          refine gcallc mixed Tryz.func106 ac_store_keyed_do ?_
          repeat' (first | (with_reducible first | refine Cn (fun h => ?_) fun h => ?_ | refine And.intro ?_ ?_ | refine wR ?_ | exact wr _ _ | refine wa ?_ | apply awp_join | refine qg hf ?_ | refine qgd hf ?_ | refine q hd ?_ | refine qd hd ?_ | refine qz hd ?_ | refine qg hset ?_ | refine qgd hset ?_) | (with_reducible refine CallZ.z ?_) | simp -dsimp [go_sem, k1, k2, k3, k4, q1, q2, q3, q4])
          all_goals omega
        · have q4 : (nk != 0) = false := by simpa using a2
          have q2 : (nk == 0) = true := by simpa using a2
          rw [if_neg a2]
          refine gcallc mixed Tryz.func106 ac_store_keyed_do ?_
          repeat' (first | (with_reducible first | refine Cn (fun h => ?_) fun h => ?_ | refine And.intro ?_ ?_ | refine wR ?_ | exact wr _ _ | refine wa ?_ | apply awp_join | refine qg hf ?_ | refine qgd hf ?_ | refine q hd ?_ | refine qd hd ?_ | refine qz hd ?_) | (with_reducible refine CallZ.z ?_) | simp -dsimp [go_sem, k1, k2, k3, k4, q1, q2, q3, q4])
          all_goals omega
abbrev ApA (q : Sto × Rep × Int) : AV := .tup [.agg q.1.c, .agg q.2.1.c, iV q.2.2]
theorem do_c (now a0 : Int) (t0 : Bool) (l : List Ent) (c : Cmd) (hc : checkC c = 0) (hl : l.length ≤ 1000) (hr : Rise l) (hn0 : 0 ≤ now) (hn1 : now ≤ 1073741824) (ha : ∀ e ∈ l, OkE now e) :
    DetCall Tryz.prog G 106 1 (kHp now (eR l) a0 t0) [.one (.ptr 0 0), .agg c.c] (.agg (doE now l c).2.c) (kHp now (eR (doE now l c).1) (findE l c.key) (inE l c.key)) := by
  obtain ⟨h1, h2, _, h4, _⟩ := checkC_facts hc
  by_cases k1 : c.kind ≤ 18
  · exact doVal_c now a0 t0 l c h1 k1 hl hr ha
  · by_cases k2 : c.kind = 19
    · exact do19_c now a0 t0 l c k2 hl hr
    · by_cases k3 : c.kind = 20
      · exact do20_c now a0 t0 l c k3 hl hr hn0 hn1 ha h4
      · by_cases k4 : c.kind = 21
        · exact do21_c now a0 t0 l c k4 hl hr hn0 hn1 ha h4
        · exact do22_c now a0 t0 l c (by omega) hl hr
theorem applyBad_c (s : Sto) (t : Int) (c : Cmd) (hs : s.Small) (h : checkS s ≠ 0 ∨ (t < 0 ∨ 1073741824 < t) ∨ checkC c ≠ 0) : PCall Tryz.prog G 82 [.agg s.c, iV t, .agg c.c] (ApA (ApplyS s t c)) := by
  have hcs := checkS_c (G := G) s hs
  have hcc := check_c (G := G) c.kind c.key c.field c.text c.n
  change PCall Tryz.prog G _ _ (iV (checkC c)) at hcc
  unfold ApplyS
  obtain ⟨e1, he1⟩ : ∃ e, checkS s = e := ⟨_, rfl⟩
  obtain ⟨e2, he2⟩ : ∃ e, checkC c = e := ⟨_, rfl⟩
  rw [he1] at hcs h ⊢
  rw [he2] at hcc h ⊢
  obtain ⟨now, l⟩ := s
  obtain ⟨ck, ckey, cf, ct, cn⟩ := c
  simp only [Sto.c, Cmd.c] at hcs hcc ⊢
  by_cases a1 : e1 ≠ 0
  · have q1 : (e1 != 0) = true := by simpa using a1
    rw [if_pos a1]
    simp only [ApA, Sto.c, Rep.c, toldR, zeroS, List.map_nil]
    refine pcallc mixed Tryz.func82 ac_store_Apply ?_
    repeat' (first | (with_reducible first | refine Cn (fun h => ?_) fun h => ?_ | refine And.intro ?_ ?_ | refine wR ?_ | exact wr _ _ | refine wa ?_ | apply awp_join | refine q hcs ?_ | refine qd hcs ?_ | refine qz hcs ?_) | (with_reducible refine CallZ.z ?_) | simp -dsimp [go_sem, q1])
  · have q1 : (e1 != 0) = false := by simpa using a1
    rw [if_neg a1]
    by_cases a2 : t < 0 ∨ 1073741824 < t
    · rw [if_pos a2]
      simp only [ApA, Sto.c, Rep.c, toldR, zeroS, List.map_nil]
      by_cases a4 : t < 0
      · have q2 : decide (t < 0) = true := by simpa using a4
        refine pcallc mixed Tryz.func82 ac_store_Apply ?_
        repeat' (first | (with_reducible first | refine Cn (fun h => ?_) fun h => ?_ | refine And.intro ?_ ?_ | refine wR ?_ | exact wr _ _ | refine wa ?_ | apply awp_join | refine q hcs ?_ | refine qd hcs ?_ | refine qz hcs ?_) | (with_reducible refine CallZ.z ?_) | simp -dsimp [go_sem, q1, q2])
      · have q2 : decide (t < 0) = false := by simpa using a4
        have q3 : decide (1073741824 < t) = true := by simp; omega
        refine pcallc mixed Tryz.func82 ac_store_Apply ?_
        repeat' (first | (with_reducible first | refine Cn (fun h => ?_) fun h => ?_ | refine And.intro ?_ ?_ | refine wR ?_ | exact wr _ _ | refine wa ?_ | apply awp_join | refine q hcs ?_ | refine qd hcs ?_ | refine qz hcs ?_) | (with_reducible refine CallZ.z ?_) | simp -dsimp [go_sem, q1, q2, q3])
    · rw [if_neg a2]
      have a3 : e2 ≠ 0 := (h.resolve_left a1).resolve_left a2
      rw [if_pos a3]
      have q2 : decide (t < 0) = false := by simp; omega
      have q3 : decide (1073741824 < t) = false := by simp; omega
      have q4 : (e2 != 0) = true := by simpa using a3
      simp only [ApA, Sto.c, Rep.c, toldR, zeroS, List.map_nil]
      refine pcallc mixed Tryz.func82 ac_store_Apply ?_
      repeat' (first | (with_reducible first | refine Cn (fun h => ?_) fun h => ?_ | refine And.intro ?_ ?_ | refine wR ?_ | exact wr _ _ | refine wa ?_ | apply awp_join | refine q hcs ?_ | refine qd hcs ?_ | refine qz hcs ?_ | refine q hcc ?_ | refine qd hcc ?_ | refine qz hcc ?_) | (with_reducible refine CallZ.z ?_) | simp -dsimp [go_sem, q1, q2, q3, q4])
theorem applyGood_c (s : Sto) (t : Int) (c : Cmd) (ok : OkS s) (h0 : 0 ≤ t) (h1 : t ≤ 1073741824) (hc : checkC c = 0) : PCall Tryz.prog G 82 [.agg s.c, iV t, .agg c.c] (ApA (ApplyS s t c)) := by
  have hcs := checkS_c (G := G) s ok.small
  rw [checkS_iff.2 ok] at hcs
  have hcc := check_c (G := G) c.kind c.key c.field c.text c.n
  change PCall Tryz.prog G _ _ (iV (checkC c)) at hcc
  rw [hc] at hcc
  obtain ⟨eA, okA⟩ := apply_ok ok h0 h1 hc
  rw [eA]
  have how := ownS_G (G := G) s ok.small
  obtain ⟨a1, a2, a3⟩ := alive_ok ok (maxI_le s.now t).1
  have hm := maxI_le s.now t
  have hmb : maxI s.now t ≤ 1073741824 := by have := ok.now; unfold maxI; split <;> omega
  have hdel := deleteE_c (G := G) (maxI s.now t) s.ents (by have := ok.len; omega)
  rw [show keepE (maxI s.now t) s.ents = aliveS (maxI s.now t) s from rfl] at hdel
  have hdo := do_c (G := G) (maxI s.now t) 0 false (aliveS (maxI s.now t) s) c hc (by omega) a1 (by have := ok.now; omega) hmb a2
  have how2 := ownS_C (G := G) ⟨maxI s.now t, (doE (maxI s.now t) (aliveS (maxI s.now t) s) c).1⟩ okA.small
  have hmx : (if s.now < t then t else s.now) = maxI s.now t := by unfold maxI; repeat' split <;> omega
  have hmx2 : (if t < s.now then s.now else t) = maxI s.now t := rfl
  have q2 : decide (t < 0) = false := by simp; omega
  have q3 : decide (1073741824 < t) = false := by simp; omega
  obtain ⟨Q, hQ⟩ : ∃ Q, doE (maxI s.now t) (aliveS (maxI s.now t) s) c = Q := ⟨_, rfl⟩
  rw [hQ] at hdo how2 ⊢
  generalize aliveS (maxI s.now t) s = L at *
  obtain ⟨M, hM⟩ : ∃ M, maxI s.now t = M := ⟨_, rfl⟩
  rw [hM] at hdel hdo how2 hmx hmx2 ⊢
  generalize findE L c.key = fi at *
  generalize inE L c.key = fb at *
  obtain ⟨now, l⟩ := s
  obtain ⟨ck, ckey, cf, ct, cn⟩ := c
  obtain ⟨l', rc, rt, rn, rl⟩ := Q
  simp only [Sto.c, Cmd.c, Rep.c, ApA] at hcs hcc how hdel hdo how2 hmx hmx2 ⊢
  refine pcallc mixed Tryz.func82 ac_store_Apply ?_
  repeat' (first | (with_reducible first | refine Cn (fun h => ?_) fun h => ?_ | refine And.intro ?_ ?_ | refine wR ?_ | exact wr _ _ | refine wa ?_ | apply awp_join | refine q hcs ?_ | refine qd hcs ?_ | refine qz hcs ?_ | refine q hcc ?_ | refine qd hcc ?_ | refine qz hcc ?_ | refine qg how ?_ | refine qgd how ?_ | refine qg hdel ?_ | refine qgd hdel ?_ | refine qg hdo ?_ | refine qgd hdo ?_ | refine q how2 ?_ | refine qd how2 ?_ | refine qz how2 ?_) | (with_reducible refine CallZ.z ?_) | simp -dsimp [go_sem, q2, q3, hmx, hmx2])
  all_goals trace_state
theorem apply_c (s : Sto) (t : Int) (c : Cmd) (hs : s.Small) : PCall Tryz.prog G 82 [.agg s.c, iV t, .agg c.c] (ApA (ApplyS s t c)) := by
  by_cases h : checkS s ≠ 0 ∨ (t < 0 ∨ 1073741824 < t) ∨ checkC c ≠ 0
  · exact applyBad_c s t c hs h
  · simp only [not_or, Classical.not_not] at h
    exact applyGood_c s t c (checkS_iff.1 h.1) (by omega) (by omega) h.2.2
end Go.Proofs.YtpdcfljbabpakaaGreatDoor
set_option linter.unusedVariables false
set_option linter.unusedSimpArgs false
set_option maxRecDepth 100000
set_option maxHeartbeats 8000000
namespace Go.Proofs.YtpdcfljbabpakaaGreatDoor
open Go Go.RowKit Go.Proofs.AE
variable {G : Nat → AV}
instance : DecidableEq Ent := fun a b => decidable_of_iff (a.key = b.key ∧ a.val = b.val ∧ a.till = b.till) (by cases a; cases b; simp)
instance : DecidableEq Sto := fun a b => decidable_of_iff (a.now = b.now ∧ a.ents = b.ents) (by cases a; cases b; simp)
end Go.Proofs.YtpdcfljbabpakaaGreatDoor
