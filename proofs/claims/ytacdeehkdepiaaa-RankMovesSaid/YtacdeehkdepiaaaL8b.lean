/- The function RankMoves answers true. -/
import Derived.Test.YtacdeehkdepiaaaL8
set_option linter.unusedVariables false
set_option linter.unusedSimpArgs false
set_option maxRecDepth 100000
set_option maxHeartbeats 8000000
namespace Go.Proofs.Ytacdeehkdepiaaa
open Go Go.RowKit Go.Proofs.AE
variable {G : Nat → AV}
def zaddC (m : ByteArray) (k : Int) : Cmd := ⟨14, kS, eS, m, k⟩
def zremC (m : ByteArray) : Cmd := ⟨15, kS, eS, m, 0⟩
theorem zaddC_ok {m : ByteArray} {k : Int} (h : okText m = true) (hk : okCount k = true) : checkC (zaddC m k) = 0 := cmd_form (by omega) (by omega) (.inr ⟨by omega, rfl⟩) (.inl ⟨h, by omega⟩) (.inl ⟨hk, by omega⟩)
theorem zremC_ok {m : ByteArray} (h : okText m = true) : checkC (zremC m) = 0 := cmd_form (by omega) (by omega) (.inr ⟨by omega, rfl⟩) (.inl ⟨h, by omega⟩) (.inr rfl)
theorem cut_len {l : List Sc} (h : l.Pairwise (fun a b => a.1 ≠ b.1)) {i : Nat} {s : Sc} (hs : l[i]? = some s) : (rankCut l s.1).length + 1 = l.length := by
  have hi := (List.getElem?_eq_some_iff.1 hs).1
  unfold rankCut
  rw [rankOf_at h hs, if_neg (by omega)]
  unfold delAt
  simp; omega
/-- A member there already has another number. -/
theorem zadd_done {v : Val} (ok : OkV v) (h6 : v.kind = 6) {j : Nat} {s : Sc} (hs : v.scores[j]? = some s) {k : Int} (hk : okCount k = true) :
    ∃ (S : List Sc) (j' : Nat), DoV v (zaddC s.1 k) = ({ v with scores := S }, toldR 0, 0) ∧ S.length = v.scores.length ∧ OkV { v with scores := S } ∧ S[j']? = some (s.1, k) := by
  have hm := (ok.okS s (List.mem_of_getElem? hs)).1
  have hc := zaddC_ok hm hk
  have hlen := cut_len ok.once hs
  have hle : rankAt (rankCut v.scores s.1) s.1 k ≤ (rankCut v.scores s.1).length := plc_le _ _
  obtain ⟨S, hS⟩ : ∃ S, insAt (rankCut v.scores s.1) (rankAt (rankCut v.scores s.1) s.1 k) (s.1, k) = S := ⟨_, rfl⟩
  have hSl : S.length = v.scores.length := by
    rw [← hS]; unfold insAt; simp; omega
  have hd : doV v (zaddC s.1 k) = ({ v with scores := S }, toldR 0) := by
    unfold doV ranksV
    have hr := rankOf_at ok.once hs
    have hr2 : ¬ ((j : Int) < 0) := by omega
    simp [zaddC, h6, hr, hr2, hS]
  have he := (ok.els (by omega)).1
  have e : DoV v (zaddC s.1 k) = ({ v with scores := S }, toldR 0, 0) := by
    rw [DoV_go (checkV_iff.2 ok) hc (by show (14 : Int) ≤ 18; omega) (by
      rintro (h | h)
      · exact h.2 h6.symm
      · have := h.1; simp [zaddC] at this), hd]
    exact DoEnd_some rfl (fun h => by
      have h2 := h.2
      unfold Val.els at h2 he
      simp only at h2
      omega)
  have hvk := (DoV_vk (.inl ok) hc (by show (14 : Int) ≤ 18; omega)).2
  rw [e] at hvk
  refine ⟨S, rankAt (rankCut v.scores s.1) s.1 k, e, hSl, hvk.there (by show v.kind ≠ 0; omega), ?_⟩
  rw [← hS]
  unfold insAt
  rw [List.getElem?_append_right (by simp; omega)]
  simp
  rw [Nat.min_eq_left hle]; simp
theorem zrem_done {v : Val} (ok : OkV v) (h6 : v.kind = 6) {j : Nat} {s : Sc} (hs : v.scores[j]? = some s) :
    ∃ x, DoV v (zremC s.1) = (x, toldR 1, 0) ∧ x.scores.length + 1 = v.scores.length := by
  have hm := (ok.okS s (List.mem_of_getElem? hs)).1
  have hc := zremC_ok hm
  have hlen := cut_len ok.once hs
  have c1 := ok.pairs.resolve_left (by omega)
  have c2 := (ok.items.resolve_left (by omega)).resolve_left (by omega)
  have hd : doV v (zremC s.1) = ({ v with scores := rankCut v.scores s.1 }, toldR 1) := by
    unfold doV ranksV
    have hr := rankOf_at ok.once hs
    have hr2 : ¬ ((j : Int) < 0) := by omega
    simp [zremC, h6, hr, hr2]
  rw [DoV_go (checkV_iff.2 ok) hc (by show (15 : Int) ≤ 18; omega) (by
    rintro (h | h)
    · exact h.2 h6.symm
    · have := h.1; simp [zremC] at this), hd]
  by_cases h0 : (rankCut v.scores s.1).length = 0
  · refine ⟨zeroV, DoEnd_none rfl (by show 3 ≤ v.kind; omega) (by show ((v.pairs.length : Int) + v.items.length + (rankCut v.scores s.1).length) = 0; rw [c1, c2, h0]; rfl), ?_⟩
    show 0 + 1 = _
    omega
  · refine ⟨{ v with scores := rankCut v.scores s.1 }, DoEnd_some rfl (fun h => ?_), hlen⟩
    have := h.2
    unfold Val.els at this
    simp only at this
    omega
theorem rankMoves_c (l : List Raw) (at' n : Int) (hl : ∀ r ∈ l, r.Ok) (hn : (l.length : Int) * 48 ≤ 140737488351232) (ha : i64 at') (hnn : i64 n) : PCall Try.prog G 10 [.one (.v (.sl (l.map Raw.row))), iV at', iV n] (bV true) := by
  have hf := full_c (G := G) 5 l (by unfold i64; omega) hl hn
  obtain ⟨ok, hk6, hsh⟩ := full5 l hl
  generalize fullV 5 l = v at *
  have he := (ok.els (by omega)).1
  have hpos : 0 < v.scores.length := by
    unfold Val.els at he
    rw [ok.pairs.resolve_left (by omega), (ok.items.resolve_left (by omega)).resolve_left (by omega)] at he
    simp at he; omega
  have hp := pk_range (n := at') (m := v.scores.length) (by omega)
  have hpk := picked_c (G := G) at' v.scores.length ha (by omega)
  have hp2 := pk_range (n := n) (m := 1000) (by omega)
  have hpk2 := picked_c (G := G) n 1000 hnn (by omega)
  have w0 : IntKind.i64.wrap (pk n 1000 - 500) = pk n 1000 - 500 := IntWalk.i64_in _ (by omega)
  obtain ⟨k, hk⟩ : ∃ k, pk n 1000 - 500 = k := ⟨_, rfl⟩
  obtain ⟨j, hj⟩ : ∃ j : Nat, pk at' v.scores.length = j := ⟨(pk at' v.scores.length).toNat, by omega⟩
  rw [hj] at hpk hp
  obtain ⟨⟨m, n0⟩, hs⟩ : ∃ s, v.scores[j]? = some s := ⟨_, List.getElem?_eq_getElem (by omega)⟩
  have hko : okCount k = true := (okCount_iff _).2 (by omega)
  obtain ⟨S, j', e1, e2, ok2, e3⟩ := zadd_done ok hk6 hs hko
  simp only at e1 e3
  obtain ⟨x, f1, f2⟩ := zrem_done (v := { v with scores := S }) ok2 hk6 e3
  simp only at f1 f2
  have d1 := Do_c (G := G) v (zaddC m k) ok.small
  have d2 := Do_c (G := G) { v with scores := S } (zremC m) ok2.small
  rw [e1] at d1
  rw [f1] at d2
  have honce := ok2.once
  simp only at honce
  have hat : ∀ (i : Nat) (s : Sc), S[i]? = some s → (s.1 = m ↔ i = j') := fun i s hi => by
    have h1 := rankOf_at honce hi
    have h2 := rankOf_at honce e3
    constructor
    · intro h
      rw [h] at h1
      simp only at h2
      omega
    · intro h
      subst h
      rw [e3] at hi
      cases hi; rfl
  have hsm := ok.small
  have hsm2 := ok2.small
  obtain ⟨vk, vt, vn, vp, vi, vs⟩ := v
  obtain ⟨s1, s2, s3⟩ := hsm
  obtain ⟨xk, xt, xn, xp, xi, xs⟩ := x
  simp only at hk6 s1 s2 s3 f2 e2 hpos hs hpk hp
  subst hk6
  have q0 : ((vs.length : Int) == 0) = false := by rw [beq_eq_false_iff_ne]; omega
  have w1 : IntKind.i64.wrap ((vs.length : Int) - 1) = (xs.length : Int) := by rw [IntWalk.i64_in _ (by omega)]; omega
  have q9 : ((S.length : Int) == vs.length) = true := by simp; omega
  have hpk' : PCall Try.prog G 28 [iV n, iV 1000] (iV (k + 500)) := by rw [← hk]; simpa using hpk2
  have w0' : IntKind.i64.wrap k = k := by rw [← hk]; exact w0
  simp only [DoA, Val.c, Rep.c, Cmd.c, toldR, zaddC, zremC, List.map_nil] at hf d1 d2
  refine pcall mixed Try.func10 ok_rostrumkeep_RankMoves rs_rostrumkeep_RankMoves (by simp [Try.f10]) ?_
  unfold ac_rostrumkeep_RankMoves
  repeat' (first | (with_reducible first | refine Cnd.intro (fun h => ?_) (fun h => ?_) | refine And.intro ?_ ?_ | refine Wk.refl ?_ | exact Weak.refl _ _ | refine weak_auto ?_ | apply awp_join) | ((try with_reducible refine CallZ.l ?_); with_reducible refine qcf (by first | exact hf | exact hpk | exact hpk' | exact d1) ?_ ?_) | ((try with_reducible refine CallZ.l ?_); with_reducible refine qcn (by first | exact qkc hf (by with_unfolding_all rfl) | exact qkc hpk (by with_unfolding_all rfl) | exact qkc (hpk') (by with_unfolding_all rfl) | exact qkc d1 (by with_unfolding_all rfl)) ?_) | ((with_reducible refine qcz (by first | exact qkz hf (by with_unfolding_all rfl) | exact qkz hpk (by with_unfolding_all rfl) | exact qkz (hpk') (by with_unfolding_all rfl) | exact qkz d1 (by with_unfolding_all rfl)) ?_); intro zh1 zq1; (try simp -dsimp [go_sem] at zq1); obtain ⟨rfl⟩ := zq1) | (with_reducible refine CallZ.z ?_) | simp -dsimp [go_sem, q0, hs, w0'])
  refine awp_loop (fun i : Nat => ⟨[(7, .one (.ptr 0 0)), (8, sV m), (9, iV k), (10, .one (.ptr 1 0)), (11, .one (.ptr 2 0)), (12, iV 0), (13, iV (if j' < i then 1 else 0)), (14, iV i)], G, [some (.box 29 [iC 6, sC vt, iC vn, .v (.sl (pR vp)), .v (.sl (strRows vi)), .v (.sl (sR vs))]), some (.box 29 [iC 6, sC vt, iC vn, .v (.sl (pR vp)), .v (.sl (strRows vi)), .v (.sl (sR S))]), some (.box 37 [iC 0, sC ⟨#[]⟩, iC 0, .v (.sl [])])]⟩) (fun i => i ≤ S.length) (fun i => S.length - i) 0 (weak_auto ?_) (by omega) ?_
  · simp -dsimp [go_sem]
  · intro i hi
    have e4 : IntKind.i64.wrap ((i : Int) + 1) = (i : Int) + 1 := IntWalk.i64_in _ (by omega)
    by_cases hlt : i < S.length
    · have q1 : decide (i < S.length) = true := by simpa using hlt
      obtain ⟨⟨y1, y2⟩, hx⟩ : ∃ x, S[i]? = some x := ⟨_, List.getElem?_eq_getElem (by omega)⟩
      have hm := hat i _ hx
      simp only at hm
      by_cases hij : i = j'
      · have hy : y1 = m := hm.2 hij
        subst hy
        rw [hij, e3] at hx
        obtain rfl : k = y2 := by simpa using hx
        subst hij
        have m1 : (if i < i then (1 : Int) else 0) = 0 := if_neg (by omega)
        have m2 : (if i < i + 1 then (1 : Int) else 0) = 1 := if_pos (by omega)
        have w8 : IntKind.i64.wrap 1 = 1 := rfl
        rw [m1]
        repeat' (first | (with_reducible first | refine Cnd.intro (fun h => ?_) (fun h => ?_) | refine And.intro ?_ ?_ | refine Wk.refl ?_ | exact Weak.refl _ _ | refine weak_auto ?_ | apply awp_join) | (with_reducible refine CallZ.z ?_) | simp -dsimp [go_sem, e3, e4, q1, w8])
        all_goals first
          | omega
          | (refine Again.auto (i + 1) ?_ (by omega) ?_
             · simp -dsimp [go_sem, m2]
             · show S.length - (i + 1) < S.length - i; omega)
      · have hy : decide (y1 = m) = false := by simp; exact fun h => hij (hm.1 h)
        have m1 : (if j' < i + 1 then (1 : Int) else 0) = (if j' < i then (1 : Int) else 0) := by
          by_cases h : j' < i
          · rw [if_pos h, if_pos (by omega)]
          · rw [if_neg h, if_neg (by omega)]
        generalize (if j' < i then (1 : Int) else 0) = cnt at *
        repeat' (first | (with_reducible first | refine Cnd.intro (fun h => ?_) (fun h => ?_) | refine And.intro ?_ ?_ | refine Wk.refl ?_ | exact Weak.refl _ _ | refine weak_auto ?_ | apply awp_join) | (with_reducible refine CallZ.z ?_) | simp -dsimp [go_sem, hx, e4, q1, hy])
        all_goals first
          | omega
          | (refine Again.auto (i + 1) ?_ (by omega) ?_
             · simp -dsimp [go_sem, m1]
             · show S.length - (i + 1) < S.length - i; omega)
    · have q1 : decide (i < S.length) = false := by simpa using hlt
      have hj := (List.getElem?_eq_some_iff.1 e3).1
      have m1 : (if j' < i then (1 : Int) else 0) = 1 := if_pos (by omega)
      rw [m1]
      repeat' (first | (with_reducible first | refine Cnd.intro (fun h => ?_) (fun h => ?_) | refine And.intro ?_ ?_ | refine Wk.refl ?_ | exact Weak.refl _ _ | refine weak_auto ?_ | apply awp_join) | ((try with_reducible refine CallZ.l ?_); with_reducible refine qcf (by first | exact d2) ?_ ?_) | ((try with_reducible refine CallZ.l ?_); with_reducible refine qcn (by first | exact qkc d2 (by with_unfolding_all rfl)) ?_) | ((with_reducible refine qcz (by first | exact qkz d2 (by with_unfolding_all rfl)) ?_); intro zh1 zq1; (try simp -dsimp [go_sem] at zq1); obtain ⟨rfl⟩ := zq1) | (with_reducible refine CallZ.z ?_) | simp -dsimp [go_sem, q1, w1, q9])
end Go.Proofs.Ytacdeehkdepiaaa
