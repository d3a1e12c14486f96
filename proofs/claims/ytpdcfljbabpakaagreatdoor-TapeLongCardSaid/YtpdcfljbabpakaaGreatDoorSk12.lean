/- Texts joined. -/
import Derived.Test.YtpdcfljbabpakaaGreatDoorSk11
import Derived.Test.YtpdcfljbabpakaaGreatDoorSk10
set_option linter.unusedVariables false
set_option linter.unusedSimpArgs false
set_option maxRecDepth 100000
set_option maxHeartbeats 8000000
namespace Go.Proofs.YtpdcfljbabpakaaGreatDoor
open Go Go.RowKit Go.Proofs.AE
variable {G : Nat → AV}
abbrev ac_rostrumkeep_CrashJust := CC.of Tryz.f8 [(7, [([0, 1, 2, 3, 4, 5, 6, 7, 8, 9, 10, 11, 12, 13, 14, 15, 16, 17, 18, 19, 20, 21, 22, 23, 24, 25, 26, 27, 28, 29, 30, 31, 32, 33], [])])]
abbrev ac_rostrumkeep_TapeOn := CC.of Tryz.f11 [(2, [([0, 1, 2, 3, 4, 5, 6, 7, 8], [(0, 2)])]), (7, [([0, 1, 2, 3, 4, 5, 6, 7, 8, 9, 10, 11, 12, 13, 14, 15, 16, 17, 18, 19, 20, 21, 22, 23, 24, 25, 26, 27, 28, 29, 30, 31, 32, 33, 34, 35, 36, 37, 38, 39], [])])]
theorem crashN_spec {d : List UInt8} {s k : Int} (h0 : 0 ≤ s) (hs : s ≤ d.length) (hk : 0 ≤ k) : ((crashN d s k : Nat) : Int) = (if k < (d.length : Int) - s then s + k else (d.length : Int)) ∧ crashN d s k ≤ d.length := by
  unfold crashN
  split <;> omega
theorem crashJust_c (hG : Noth G) (l : List Note) (a b : Int) (hl : (l.length : Int) ≤ 9223372036854775807) (hd : ∀ n ∈ l, n.Ok) (ha : i64 a) (hb : i64 b) : PCall Tryz.prog G 8 [.one (.v (.sl (l.map Note.row))), iV a, iV b] (bV true) := by
  have k0 := records_c hG l hl hd
  have hok := recsV_ok hd
  have hle := recsV_tape hd
  have k1 := taped_c (G := G) (recsV l) hok (recsV_small hd) (by omega)
  generalize recsV l = rs at *
  generalize tapeB rs = T at *
  have hp := pk_range (n := b) (m := 900) (by omega)
  have k2 := picked_c (G := G) b 900 hb (by omega)
  have hs := pk_range (n := a) (m := T.length + 1) (by omega)
  have k3 := picked_c (G := G) a (T.length + 1) ha (by omega)
  generalize pk b 900 = p at *
  generalize pk a (T.length + 1) = s at *
  have w1 : IntKind.i64.wrap ((T.length : Int) + 1) = (T.length : Int) + 1 := IntWalk.i64_in _ (by omega)
  have w2 : IntKind.i64.wrap (s + p) = s + p := IntWalk.i64_in _ (by omega)
  have w3 : IntKind.i64.wrap (-1 - p) = -1 - p := IntWalk.i64_in _ (by omega)
  have k4 := crash_c (G := G) T s p ⟨by omega, by omega, by omega⟩ (by omega)
  have k5 := crashBad_c (G := G) T s (-1 - p) ⟨by omega, by omega, by omega⟩ (by omega)
  obtain ⟨hN, hN2⟩ := crashN_spec (d := T) (s := s) (k := p) (by omega) (by omega) (by omega)
  generalize crashN T s p = N at *
  have q1 : (if s + p < (T.length : Int) then s + p else (T.length : Int)) = (N : Int) := by rw [hN]; split <;> split <;> omega
  have q2 : (if (T.length : Int) < s + p then (T.length : Int) else s + p) = (N : Int) := by rw [hN]; split <;> split <;> omega
  have q3 : (if s + p ≤ (T.length : Int) then s + p else (T.length : Int)) = (N : Int) := by rw [hN]; split <;> split <;> omega
  have hbb := bR_bytes (T.take N)
  have hb1 := bR_len T
  have hb2 := bR_len (T.take N)
  have hln : (T.take N).length = N := by rw [List.length_take]; omega
  rw [hln] at hb2
  have htk := bR_take T N
  have hul := bR_ul T
  simp only [tpC] at k1 k4 k5
  have q4 : decide ((N : Int) ≤ (T.length : Int)) = true := decide_eq_true (by omega)
  have q4' : decide (N ≤ T.length) = true := decide_eq_true hN2
  clear hN
  generalize bR (T.take N) = D2 at *
  generalize T.take N = T2 at *
  generalize bR T = D1 at *
  refine pcallc mixed Tryz.func8 ac_rostrumkeep_CrashJust ?_
  repeat' (first | (with_reducible first | refine Cn (fun h => ?_) fun h => ?_ | refine And.intro ?_ ?_ | refine wR ?_ | exact wr _ _ | refine wa ?_ | apply awp_join | refine q k0 ?_ | refine qd k0 ?_ | refine qz k0 ?_ | refine q k1 ?_ | refine qd k1 ?_ | refine qz k1 ?_ | refine q k2 ?_ | refine qd k2 ?_ | refine qz k2 ?_ | refine q k3 ?_ | refine qd k3 ?_ | refine qz k3 ?_ | refine q k4 ?_ | refine qd k4 ?_ | refine qz k4 ?_ | refine q k5 ?_ | refine qd k5 ?_ | refine qz k5 ?_) | (with_reducible refine CallZ.z ?_) | simp -dsimp [go_sem, w1, w2, w3, q1, q2, q3, q4, q4', hbb, hb1, hb2, htk, hul])
  all_goals first | omega | trace_state
theorem tapeOn_c (hG : Noth G) (l : List Note) (a : Int) (n : Note) (hl : (l.length : Int) ≤ 9223372036854775807) (hd : ∀ n ∈ l, n.Ok) (ha : i64 a) (hn : n.Ok) : PCall Tryz.prog G 11 [.one (.v (.sl (l.map Note.row))), iV a, .agg n.c] (bV true) := by
  have k0 := records_c hG l hl hd
  have hok := recsV_ok hd
  have hcm := recsV_cmp hd
  have hle := recsV_tape hd
  have h16 := recsV_len l
  have k1 := taped_c (G := G) (recsV l) hok (recsV_small hd) (by omega)
  have k2 := record_c hG n hn
  have hrok := record_ok hn
  have hrs := record_small hn
  have hrc := record_cmp hn
  generalize recordV n = r at *
  generalize recsV l = rs at *
  have hp := pk_range (n := a) (m := 900) (by omega)
  have k3 := picked_c (G := G) a 900 ha (by omega)
  generalize pk a 900 = p at *
  have k4 := crash_c (G := G) (tapeB rs) 0 p ⟨by omega, by omega, by omega⟩ (by omega)
  obtain ⟨-, hN2⟩ := crashN_spec (d := tapeB rs) (s := 0) (k := p) (by omega) (by omega) (by omega)
  generalize crashN (tapeB rs) 0 p = N at *
  obtain ⟨j, hj, hrec, hjk, hjn, htk⟩ := recB_take hok N
  have hokj : ∀ r ∈ rs.take j, checkRc r = 0 := fun r h => hok r (List.mem_of_mem_take h)
  have hlen1 : ((tapeB rs).take N).length = N := by rw [List.length_take]; omega
  have k5 := recover_c (G := G) ((tapeB rs).take N) N ⟨by omega, by omega, by omega⟩
  unfold recV at k5
  rw [hrec] at k5
  have hT1 : (bR ((tapeB rs).take N)).take (tapeB (rs.take j)).length = bR (tapeB (rs.take j)) := by
    rw [bR_take, List.take_take, Nat.min_eq_left hjk, htk]
  obtain ⟨S, hS, hS0, hS1⟩ : ∃ S : Int, (if ((tapeB (rs.take j)).length : Int) < (N : Int) then ((tapeB (rs.take j)).length : Int) else (N : Int)) = S ∧ 0 ≤ S ∧ S ≤ (tapeB (rs.take j)).length := by
    refine ⟨_, rfl, ?_, ?_⟩ <;> split <;> omega
  simp only [hT1, hS] at k5
  have hel := (enc_len hrok).2
  have k6 := append_c (G := G) (tapeB (rs.take j)) S r ⟨by omega, by omega, by omega⟩ hrs.1 hrs.2 hrok (by omega)
  have hT2 : tapeB (rs.take j) ++ frameB r = tapeB (rs.take j ++ [r]) := by rw [tape_app]; simp [tapeB]
  rw [hT2] at k6
  have hok2 : ∀ x ∈ rs.take j ++ [r], checkRc x = 0 := by
    intro x hx
    rcases List.mem_append.1 hx with h | h
    · exact hokj x h
    · rw [List.mem_singleton.1 h]; exact hrok
  have hall := recB_all hok2
  have hlen2 : (tapeB (rs.take j ++ [r])).length = (tapeB (rs.take j)).length + (3 + (encRc r).length) := by rw [← hT2, List.length_append, frame_len]
  have k7 := recover_c (G := G) (tapeB (rs.take j ++ [r])) S ⟨by omega, by omega, by omega⟩
  unfold recV at k7
  rw [hall] at k7
  have hT3 : (bR (tapeB (rs.take j ++ [r]))).take (tapeB (rs.take j ++ [r])).length = bR (tapeB (rs.take j ++ [r])) := by rw [bR_take, List.take_length]
  obtain ⟨S2, hS2⟩ : ∃ S2 : Int, (if ((tapeB (rs.take j ++ [r])).length : Int) < S then ((tapeB (rs.take j ++ [r])).length : Int) else S) = S2 := ⟨_, rfl⟩
  simp only [hT3, hS2] at k7
  have k8 := begins_c (G := G) (rs.take j) (rs.take j ++ [r]) (fun i x h => by
    have : i < (rs.take j).length := by
      rcases Nat.lt_or_ge i (rs.take j).length with h' | h'
      · exact h'
      · rw [List.getElem?_eq_none h'] at h; cases h
    rw [List.getElem?_append_left this]; exact h) (by simp) (by simp; omega) (fun r h => hcm r (List.mem_of_mem_take h))
  have k9 := sameRecord_c (G := G) r hrc
  have hr1 : ((rs.take j).map Rcd.row).length = j := by simp; omega
  obtain ⟨M, hr2, hM⟩ : ∃ M, ((rs.take j ++ [r]).map Rcd.row).length = M ∧ M = j + 1 := ⟨_, rfl, by simp; omega⟩
  have q1 : ((M : Int) == (j : Int) + 1) = true := by rw [hM]; simp
  have hat : ((rs.take j ++ [r]).map Rcd.row)[j]? = some r.row := by
    have : (rs.take j).length = j := by rw [List.length_take]; omega
    rw [List.getElem?_map, List.getElem?_append_right (by omega), this]; simp
  have w1 : IntKind.i64.wrap ((j : Int) + 1) = (j : Int) + 1 := IntWalk.i64_in _ (by omega)
  simp only [tpC] at k1 k4 k5 k6 k7
  clear hok hcm hjn htk hrec hokj hall hT1 hlen1 hT2 hT3 hok2 hS hS2
  generalize bR (tapeB (rs.take j ++ [r])) = D3 at *
  generalize bR (tapeB (rs.take j)) = D2 at *
  generalize bR ((tapeB rs).take N) = D1 at *
  generalize bR (tapeB rs) = D0 at *
  generalize (rs.take j ++ [r]).map Rcd.row = R3 at *
  generalize (rs.take j).map Rcd.row = R2 at *
  generalize rs.map Rcd.row = R1 at *
  obtain ⟨kind, x, y, ds⟩ := n
  obtain ⟨k, t', f, ix, ⟨xt, xm, xn, xc, xs, xk, xa, xb, xd, xx⟩, si, st, ⟨⟨mn, me⟩, mx, mc⟩⟩ := r
  simp only [Note.c, Rcd.c, Rcd.row] at k2 k6 k9 hat ⊢
  refine pcallc mixed Tryz.func11 ac_rostrumkeep_TapeOn ?_
  repeat' (first | (with_reducible first | refine Cn (fun h => ?_) fun h => ?_ | refine And.intro ?_ ?_ | refine wR ?_ | exact wr _ _ | refine wa ?_ | apply awp_join | refine q k0 ?_ | refine qd k0 ?_ | refine qz k0 ?_ | refine q k1 ?_ | refine qd k1 ?_ | refine qz k1 ?_ | refine q k2 ?_ | refine qd k2 ?_ | refine qz k2 ?_ | refine q k3 ?_ | refine qd k3 ?_ | refine qz k3 ?_ | refine q k4 ?_ | refine qd k4 ?_ | refine qz k4 ?_ | refine q k5 ?_ | refine qd k5 ?_ | refine qz k5 ?_ | refine q k6 ?_ | refine qd k6 ?_ | refine qz k6 ?_ | refine q k7 ?_ | refine qd k7 ?_ | refine qz k7 ?_ | refine q k8 ?_ | refine qd k8 ?_ | refine qz k8 ?_ | refine q k9 ?_ | refine qd k9 ?_ | refine qz k9 ?_) | (with_reducible refine CallZ.z ?_) | simp -dsimp [go_sem, w1, hr1, hr2, hat, q1])
  all_goals first | omega | trace_state
end Go.Proofs.YtpdcfljbabpakaaGreatDoor
set_option linter.unusedVariables false
set_option linter.unusedSimpArgs false
set_option maxRecDepth 100000
set_option maxHeartbeats 8000000
namespace Go.Proofs.YtpdcfljbabpakaaGreatDoor
open Go Go.RowKit Go.Proofs.AE
variable {G : Nat → AV}
end Go.Proofs.YtpdcfljbabpakaaGreatDoor
set_option linter.unusedVariables false
set_option linter.unusedSimpArgs false
set_option maxRecDepth 100000
set_option maxHeartbeats 8000000
namespace Go.Proofs.YtpdcfljbabpakaaGreatDoor
open Go Go.RowKit Go.Proofs.AE
variable {G : Nat → AV}
abbrev ac_rostrumkeep_TapeLong := CC.of Tryz.f7 []
theorem tapeLong_c (hG : Noth G) (l : List Note) (hl : (l.length : Int) ≤ 9223372036854775807) (hd : ∀ n ∈ l, n.Ok) : PCall Tryz.prog G 7 [.one (.v (.sl (l.map Note.row)))] (bV true) := by
  have k0 := records_c hG l hl hd
  have hok := recsV_ok hd
  have hle := recsV_tape hd
  have h16 := recsV_len l
  have k1 := taped_c (G := G) (recsV l) hok (recsV_small hd) (by omega)
  generalize recsV l = rs at *
  have htle := tape_le rs
  have k2 := sync_c (G := G) (tapeB rs) 0 ⟨by omega, by omega, by omega⟩
  have k3 := syncBad_c (G := G) 1 (by omega)
  have hb1 := bR_len (tapeB rs)
  obtain ⟨T, hT⟩ : ∃ T, tapeB rs = T := ⟨_, rfl⟩
  have hfull : tapeB (rs.take rs.length) = T := by rw [List.take_length, hT]
  rw [hT] at k1 k2 hb1 hle htle
  obtain ⟨rows, hrows⟩ : ∃ rows, rs.map Rcd.row = rows := ⟨_, rfl⟩
  have hlen : rows.length = rs.length := by rw [← hrows]; simp
  have hat : ∀ (i : Nat) n, rs[i]? = some n → rows[i]? = some n.row := fun i n h => by rw [← hrows]; simp [h]
  rw [hrows] at k0 k1
  simp only [tpC] at k1 k2
  generalize bR T = D at *
  refine pcallc mixed Tryz.func7 ac_rostrumkeep_TapeLong ?_
  repeat' (first | (with_reducible first | refine Cn (fun h => ?_) fun h => ?_ | refine And.intro ?_ ?_ | refine wR ?_ | exact wr _ _ | refine wa ?_ | apply awp_join | refine q k0 ?_ | refine qd k0 ?_ | refine qz k0 ?_ | refine q k1 ?_ | refine qd k1 ?_ | refine qz k1 ?_) | (with_reducible refine CallZ.z ?_) | simp -dsimp [go_sem])
  refine awp_loop (fun i : Nat => ⟨[(3, .one (.v (.sl rows))), (4, .one (.ptr 0 0)), (5, bV true), (6, iV ((tapeB (rs.take i)).length : Int)), (7, iV i)], G, [some (.box 68 [.v (.sl D), iC 0])]⟩) (fun i => i ≤ rs.length) (fun i => rs.length - i) 0 (weak_auto ?_) (Nat.zero_le _) ?_
  · simp -dsimp [go_sem, tapeB]
  · intro i hi
    by_cases hil : i < rs.length
    · obtain ⟨r, hx⟩ : ∃ y, rs[i]? = some y := ⟨_, List.getElem?_eq_getElem hil⟩
      have hr := hat i r hx
      have hm := List.mem_of_getElem? hx
      have hsu := tape_succ hx
      have hti := htle i
      have hfl := frame_len r
      have q1 : decide (i < rs.length) = true := decide_eq_true hil
      have w1 : IntKind.i64.wrap ((i : Int) + 1) = (i : Int) + 1 := IntWalk.i64_in _ (by omega)
      have hsn : (tapeB (rs.take (i + 1))).length = (tapeB (rs.take i)).length + (3 + (encRc r).length) := by rw [hsu, List.length_append, hfl]
      clear hsu hfl
      generalize tapeB (rs.take i) = T0 at *
      have w2 : IntKind.i64.wrap ((T0.length : Int) + 4) = (T0.length : Int) + 4 := IntWalk.i64_in _ (by omega)
      rcases rc_cases (hok r hm) with ⟨t, f, rfl, h1, h2, h3⟩ | ⟨x, y, rfl, h1, h2⟩ | ⟨x, t, m, rfl, h1, h2, h3⟩
      · have w3 : IntKind.i64.wrap ((T0.length : Int) + 4 + 4) = (T0.length : Int) + 4 + 4 := IntWalk.i64_in _ (by omega)
        have he : ((tapeB (rs.take (i + 1))).length : Int) = (T0.length : Int) + 4 + 4 := by
          have : (encRc ⟨1, t, f, 0, zeroItem, 0, 0, zeroM⟩).length = 5 := rfl
          omega
        simp only [Rcd.row, zeroItem, zeroM, zeroS, List.map_nil] at hr
        repeat' (first | (with_reducible first | refine Cn (fun h => ?_) fun h => ?_ | refine And.intro ?_ ?_ | refine wR ?_ | exact wr _ _ | refine wa ?_ | apply awp_join) | (with_reducible refine CallZ.z ?_) | simp -dsimp [go_sem, hr, hlen, q1, w1, w2, w3])
        all_goals first
          | omega
          | (refine Again.auto (i + 1) ?_ hil ?_
             · simp -dsimp [go_sem, he]
             · show rs.length - (i + 1) < rs.length - i; omega)
          | trace_state
      · have hen := encodeItem_c (G := G) y h2
        have hbl := bR_len (itemB y)
        have hsh := itemB_short h2
        have he : ((tapeB (rs.take (i + 1))).length : Int) = (T0.length : Int) + 4 + (3 + ((itemB y).length : Int)) := by
          have : (encRc ⟨2, 0, 0, x, y, 0, 0, zeroM⟩).length = 4 + (itemB y).length := by
            unfold encRc; rw [if_neg (show ¬ (2 : Int) = 1 by omega), if_pos (show (2 : Int) = 2 from rfl)]; simp [threeB]; omega
          omega
        generalize itemB y = B at *
        have w3 : IntKind.i64.wrap (3 + (B.length : Int)) = 3 + (B.length : Int) := IntWalk.i64_in _ (by omega)
        have w4 : IntKind.i64.wrap ((T0.length : Int) + 4 + (3 + (B.length : Int))) = (T0.length : Int) + 4 + (3 + (B.length : Int)) := IntWalk.i64_in _ (by omega)
        obtain ⟨xt, xm, xn, xc, xs, xk, xa, xb, xd, xx⟩ := y
        simp only [Rcd.row, zeroM, zeroS, List.map_nil] at hr
        simp only [Item.row, List.map_cons, List.map_nil] at hen
        generalize bR B = B' at *
        repeat' (first | (with_reducible first | refine Cn (fun h => ?_) fun h => ?_ | refine And.intro ?_ ?_ | refine wR ?_ | exact wr _ _ | refine wa ?_ | apply awp_join | refine q hen ?_ | refine qd hen ?_ | refine qz hen ?_) | (with_reducible refine CallZ.z ?_) | simp -dsimp [go_sem, hr, hlen, q1, w1, w2, w3, w4, hbl])
        all_goals first
          | omega
          | (refine Again.auto (i + 1) ?_ hil ?_
             · simp -dsimp [go_sem, he]
             · show rs.length - (i + 1) < rs.length - i; omega)
          | trace_state
      · have hen := encode_c (G := G) m h3
        have hbl := bR_len (machB m)
        have hml := machB_len h3
        have he : ((tapeB (rs.take (i + 1))).length : Int) = (T0.length : Int) + 4 + (6 + ((machB m).length : Int)) := by
          have : (encRc ⟨3, 0, 0, 0, zeroItem, x, t, m⟩).length = 7 + (machB m).length := by
            unfold encRc; rw [if_neg (show ¬ (3 : Int) = 1 by omega), if_neg (show ¬ (3 : Int) = 2 by omega)]; simp [threeB]; omega
          omega
        generalize machB m = B at *
        have w3 : IntKind.i64.wrap (6 + (B.length : Int)) = 6 + (B.length : Int) := IntWalk.i64_in _ (by omega)
        have w4 : IntKind.i64.wrap ((T0.length : Int) + 4 + (6 + (B.length : Int))) = (T0.length : Int) + 4 + (6 + (B.length : Int)) := IntWalk.i64_in _ (by omega)
        obtain ⟨⟨mn, me⟩, mx, mc⟩ := m
        simp only [Rcd.row, zeroItem] at hr
        simp only [Mach.c] at hen
        generalize bR B = B' at *
        repeat' (first | (with_reducible first | refine Cn (fun h => ?_) fun h => ?_ | refine And.intro ?_ ?_ | refine wR ?_ | exact wr _ _ | refine wa ?_ | apply awp_join | refine q hen ?_ | refine qd hen ?_ | refine qz hen ?_) | (with_reducible refine CallZ.z ?_) | simp -dsimp [go_sem, hr, hlen, q1, w1, w2, w3, w4, hbl])
        all_goals first
          | omega
          | (refine Again.auto (i + 1) ?_ hil ?_
             · simp -dsimp [go_sem, he]
             · show rs.length - (i + 1) < rs.length - i; omega)
          | trace_state
    · have hie : i = rs.length := by omega
      subst hie
      have q1 : decide (rs.length < rs.length) = false := decide_eq_false (by omega)
      rw [hfull]
      repeat' (first | (with_reducible first | refine Cn (fun h => ?_) fun h => ?_ | refine And.intro ?_ ?_ | refine wR ?_ | exact wr _ _ | refine wa ?_ | apply awp_join | refine q k2 ?_ | refine qd k2 ?_ | refine qz k2 ?_ | refine q k3 ?_ | refine qd k3 ?_ | refine qz k3 ?_) | (with_reducible refine CallZ.z ?_) | simp -dsimp [go_sem, hlen, q1, hb1])
      all_goals trace_state
end Go.Proofs.YtpdcfljbabpakaaGreatDoor
set_option linter.unusedVariables false
set_option linter.unusedSimpArgs false
set_option maxRecDepth 100000
set_option maxHeartbeats 8000000
namespace Go.Proofs.YtpdcfljbabpakaaGreatDoor
open Go Go.RowKit Go.Proofs.AE
variable {G : Nat → AV}
abbrev ac_rostrumkeep_TapeKeeps := CC.of Tryz.f12 [(9, [([0, 1, 2, 3, 4, 5, 6, 7, 8, 9, 10, 11], [(0, 9), (3, 9), (4, 9)]), ([0, 1, 2, 3, 4, 9, 5, 6, 7, 8, 10, 11], [(0, 5), (3, 5), (4, 5)])]), (13, [([0, 1, 2, 3, 4, 5, 6, 7, 8], [(0, 2)])])]
theorem tape_mono (l : List Rcd) {i j : Nat} (h : i ≤ j) : (tapeB (l.take i)).length ≤ (tapeB (l.take j)).length := by
  have := tape_le (l.take j) i
  rwa [List.take_take, Nat.min_eq_left h] at this
theorem tapeKeeps_c (hG : Noth G) (l : List Note) (a b : Int) (hl : (l.length : Int) ≤ 9223372036854775807) (hd : ∀ n ∈ l, n.Ok) (ha : i64 a) (hb : i64 b) : PCall Tryz.prog G 12 [.one (.v (.sl (l.map Note.row))), iV a, iV b] (bV true) := by
  have k0 := records_c hG l hl hd
  have hok := recsV_ok hd
  have hsm := recsV_small hd
  have hcm := recsV_cmp hd
  have hle := recsV_tape hd
  have h16 := recsV_len l
  generalize recsV l = rs at *
  have htle := tape_le rs
  obtain ⟨K, hK, hK2⟩ : ∃ K : Nat, pk a (rs.length + 1) = K ∧ K ≤ rs.length := by
    have hp := pk_range (n := a) (m := rs.length + 1) (by omega)
    exact ⟨(pk a (rs.length + 1)).toNat, by omega, by omega⟩
  have k1 := picked_c (G := G) a (rs.length + 1) ha (by omega)
  rw [hK] at k1
  have w0 : IntKind.i64.wrap ((rs.length : Int) + 1) = (rs.length : Int) + 1 := IntWalk.i64_in _ (by omega)
  have hKt := htle K
  have k2 := taped_c (G := G) (rs.take K) (fun r h => hok r (List.mem_of_mem_take h)) (fun r h => hsm r (List.mem_of_mem_take h)) (by omega)
  have k3 := sync_c (G := G) (tapeB (rs.take K)) 0 ⟨by omega, by omega, by omega⟩
  have hnz : K = 0 ∨ 0 < (tapeB (rs.take K)).length := by
    have := take_len_le (rs.take K)
    rw [List.length_take] at this
    omega
  have hmono : ∀ i, K ≤ i → (tapeB (rs.take K)).length ≤ (tapeB (rs.take i)).length := fun i h => tape_mono rs h
  have hbK := bR_len (tapeB (rs.take K))
  have hp := pk_range (n := b) (m := 900) (by omega)
  have k4 := picked_c (G := G) b 900 hb (by omega)
  generalize pk b 900 = p at *
  obtain ⟨S, hS⟩ : ∃ S, (tapeB (rs.take K)).length = S := ⟨_, rfl⟩
  have k5 := crash_c (G := G) (tapeB rs) (S : Int) p ⟨by omega, by omega, by omega⟩ (by omega)
  obtain ⟨hN, hN2⟩ := crashN_spec (d := tapeB rs) (s := (S : Int)) (k := p) (by omega) (by omega) (by omega)
  generalize crashN (tapeB rs) (S : Int) p = N at *
  have hSN : S ≤ N := by split at hN <;> omega
  clear hN
  obtain ⟨j, hj, hrec, hjk, hjn, htk⟩ := recB_take hok N
  have hKj : K ≤ j := recB_mono (n := 0) hK2 (by omega) hj hjn
  have hlen1 : ((tapeB rs).take N).length = N := by rw [List.length_take]; omega
  have k6 := recover_c (G := G) ((tapeB rs).take N) N ⟨by omega, by omega, by omega⟩
  unfold recV at k6
  rw [hrec] at k6
  have hT1 : (bR ((tapeB rs).take N)).take (tapeB (rs.take j)).length = bR (tapeB (rs.take j)) := by
    rw [bR_take, List.take_take, Nat.min_eq_left hjk, htk]
  have hS2 : (if ((tapeB (rs.take j)).length : Int) < (N : Int) then ((tapeB (rs.take j)).length : Int) else (N : Int)) = ((tapeB (rs.take j)).length : Int) := by split <;> omega
  simp only [hT1, hS2] at k6
  have k7 := begins_c (G := G) (rs.take j) rs (fun i r h => by
    rw [List.getElem?_take] at h
    split at h
    · exact h
    · cases h) (by rw [List.length_take]; omega) (by omega) (fun r h => hcm r (List.mem_of_mem_take h))
  have hSj : S ≤ (tapeB (rs.take j)).length := by rw [← hS]; exact tape_mono rs hKj
  have hr2 : ((rs.take j).map Rcd.row).length = j := by simp; omega
  have hbj := bR_len (tapeB (rs.take j))
  have q1 : decide ((K : Int) ≤ (j : Int)) = true := decide_eq_true (by omega)
  have q1' : decide (K ≤ j) = true := decide_eq_true hKj
  have q2 : decide ((S : Int) ≤ ((tapeB (rs.take j)).length : Int)) = true := decide_eq_true (by omega)
  have q2' : decide (S ≤ (tapeB (rs.take j)).length) = true := decide_eq_true hSj
  have q3 : ((K : Int) == 0 || decide (0 < (S : Int))) = true := by
    rcases hnz with h | h
    · rw [h]; rfl
    · rw [decide_eq_true (by omega)]; simp
  obtain ⟨rows, hrows⟩ : ∃ rows, rs.map Rcd.row = rows := ⟨_, rfl⟩
  have hlen : rows.length = rs.length := by rw [← hrows]; simp
  have hat : ∀ (i : Nat) n, rs[i]? = some n → rows[i]? = some n.row := fun i n h => by rw [← hrows]; simp [h]
  have hrt : (rs.take K).map Rcd.row = rows.take K := by rw [← hrows, List.map_take]
  have hul : UL 20 rows := by rw [← hrows]; exact recs_ul rs
  rw [hrows] at k0 k7
  rw [hrt] at k2
  have q4 : decide ((K : Int) ≤ (rs.length : Int)) = true := decide_eq_true (by omega)
  have q4' : decide (K ≤ rs.length) = true := decide_eq_true hK2
  rw [hS] at k3 hmono hbK
  rw [hS] at hnz
  clear hjn htk hrec hT1 hlen1 hS2 hcm
  generalize (rs.take j).map Rcd.row = R2 at *
  simp only [tpC] at k2 k3 k5 k6
  generalize bR (tapeB (rs.take j)) = D2 at *
  generalize (tapeB (rs.take j)).length = LJ at *
  generalize bR ((tapeB rs).take N) = D1 at *
  have hKr : tapeB (rs.take rs.length) = tapeB rs := by rw [List.take_length]
  refine pcallc mixed Tryz.func12 ac_rostrumkeep_TapeKeeps ?_
  repeat' (first | (with_reducible first | refine Cn (fun h => ?_) fun h => ?_ | refine And.intro ?_ ?_ | refine wR ?_ | exact wr _ _ | refine wa ?_ | apply awp_join | refine q k0 ?_ | refine qd k0 ?_ | refine qz k0 ?_ | refine q k1 ?_ | refine qd k1 ?_ | refine qz k1 ?_ | refine q k2 ?_ | refine qd k2 ?_ | refine qz k2 ?_ | refine q k3 ?_ | refine qd k3 ?_ | refine qz k3 ?_) | (with_reducible refine CallZ.z ?_) | simp -dsimp [go_sem, w0, hlen, q4, q4', hul, hbK])
  all_goals try omega
  refine awp_loop (fun i : Nat => ⟨[(2, iV b), (7, .one (.v (.sl rows))), (8, iV K), (9, .one (.ptr 0 0)), (10, bV true), (11, iV 0), (12, iV S), (13, iV i)], G, [some (.box 68 (tpC (tapeB (rs.take i)) S))]⟩) (fun i => K ≤ i ∧ i ≤ rs.length) (fun i => rs.length - i) K (weak_auto ?_) ⟨Nat.le_refl _, hK2⟩ ?_
  · simp -dsimp [go_sem]
  · rintro i ⟨hKi, hi⟩
    by_cases hil : i < rs.length
    · obtain ⟨r, hx⟩ : ∃ y, rs[i]? = some y := ⟨_, List.getElem?_eq_getElem hil⟩
      have hr := hat i r hx
      have hm := List.mem_of_getElem? hx
      have hsu := tape_succ hx
      have hti := htle i
      have hti1 := htle (i + 1)
      have hmi := hmono i hKi
      have hfl := frame_len r
      have h2 : (tapeB (rs.take (i + 1))).length = (tapeB (rs.take i)).length + (3 + (encRc r).length) := by rw [hsu, List.length_append, hfl]
      have ka := append_c (G := G) (tapeB (rs.take i)) (S : Int) r ⟨by omega, by omega, by omega⟩ (hsm r hm).1 (hsm r hm).2 (hok r hm) (by omega)
      rw [← hsu] at ka
      have q5 : decide (i < rs.length) = true := decide_eq_true hil
      have w1 : IntKind.i64.wrap ((i : Int) + 1) = (i : Int) + 1 := IntWalk.i64_in _ (by omega)
      clear hsu hfl h2 hti hti1
      obtain ⟨k, t', f, ix, ⟨xt, xm, xn, xc, xs, xk, xa, xb, xd, xx⟩, si, st, ⟨⟨mn, me⟩, mx, mc⟩⟩ := r
      simp only [tpC, Rcd.c, Rcd.row] at ka hr ⊢
      repeat' (first | (with_reducible first | refine Cn (fun h => ?_) fun h => ?_ | refine And.intro ?_ ?_ | refine wR ?_ | exact wr _ _ | refine weak_autoC ?_ | apply awp_join | refine q ka ?_ | refine qd ka ?_ | refine qz ka ?_) | (with_reducible refine CallZ.z ?_) | simp -dsimp [go_sem, hr, hlen, q5, w1, clean_nil, clean_cons, clean_yes, clean_no])
      all_goals first
        | omega
        | (refine Again.auto (i + 1) ?_ ⟨by omega, hil⟩ ?_
           · simp -dsimp [go_sem]
           · show rs.length - (i + 1) < rs.length - i; omega)
        | trace_state
    · have hie : i = rs.length := by omega
      subst hie
      have q5 : decide (rs.length < rs.length) = false := decide_eq_false (by omega)
      rw [hKr]
      simp only [tpC]
      repeat' (first | (with_reducible first | refine Cn (fun h => ?_) fun h => ?_ | refine And.intro ?_ ?_ | refine wR ?_ | exact wr _ _ | refine wa ?_ | apply awp_join | refine q k4 ?_ | refine qd k4 ?_ | refine qz k4 ?_ | refine q k5 ?_ | refine qd k5 ?_ | refine qz k5 ?_ | refine q k6 ?_ | refine qd k6 ?_ | refine qz k6 ?_ | refine q k7 ?_ | refine qd k7 ?_ | refine qz k7 ?_) | (with_reducible refine CallZ.z ?_) | simp -dsimp [go_sem, hlen, q5, q1, q1', q2, q2', q3, hr2, hbj])
      all_goals
        rcases hnz with hz | hz
        · rw [hz] at h; cases h
        · exact hz
end Go.Proofs.YtpdcfljbabpakaaGreatDoor
