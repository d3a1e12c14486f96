/- The function HashModel answers true: the whole. -/
import Derived.Test.YtcfpphadlgbfdaaL13
set_option linter.unusedVariables false
set_option linter.unusedSimpArgs false
set_option maxRecDepth 100000
set_option maxHeartbeats 8000000
namespace Go.Proofs.Ytcfpphadlgbfdaa
open Go Go.RowKit Go.Proofs.AE
variable {G : Nat → AV}
theorem hashModel_a  (l : List Raw) (hl : ∀ r ∈ l, r.Ok) (hn : (l.length : Int) ≤ 9223372036854775807) (h30 : l.length ≤ 30) : PCall Try.prog G 3 [.one (.v (.sl (l.map Raw.row)))] (bV true) := by
  have d1 := Do_c (G := G) zeroV ⟨4, kS, fS, eS, 0⟩ zeroV_small
  rw [hash_one] at d1
  simp only [DoA, Val.c, Rep.c, Cmd.c, toldR, zeroV, List.map_nil, List.map_cons] at d1
  refine pcallc mixed Try.func3 ac_rostrumkeep_HashModel ?_
  repeat' (first | (with_reducible first | refine Cn (fun h => ?_) fun h => ?_ | refine And.intro ?_ ?_ | refine wR ?_ | exact wr _ _ | refine wa ?_ | apply awp_join) | (with_reducible refine CallZ.z ?_) | simp -dsimp [go_sem])
  refine awp_loop (hmSt G l) (hmA l) hmM (0, zeroV, []) (weak_auto ?_) ⟨Nat.zero_le _, by omega, ⟨.inl rfl, fun p hp => by cases hp⟩, ⟨rfl, fun _ => rfl, .nil⟩⟩ ?_
  · simp -dsimp [go_sem, zeroV, Val.c]
  · rintro ⟨i, v, es⟩ ⟨hi, hi2, hI, hS⟩
    simp only at hi hi2 hI hS
    have w1 : IntKind.i64.wrap ((i : Int) + 1) = (i : Int) + 1 := IntWalk.i64_in _ (by omega)
    by_cases hlt : i < l.length ∧ i < 30
    · obtain ⟨r, hr⟩ : ∃ r, l[i]? = some r := ⟨_, List.getElem?_eq_getElem hlt.1⟩
      have hok := hl r (List.mem_of_getElem? hr)
      have hp := pk_range (n := r.kind) (m := 4) (by omega)
      have hcases : pk r.kind 4 = 0 ∨ pk r.kind 4 = 1 ∨ pk r.kind 4 = 2 ∨ pk r.kind 4 = 3 := by omega
      rcases hcases with e | e | e | e
      · exact hm_step0 l hn _ i v es hlt hI hS r hr hok e
      · exact hm_step1 l hn _ i v es hlt hI hS r hr hok e
      · exact hm_step2 l hn _ i v es hlt hI hS r hr hok e
      · exact hm_step3 l hn _ i v es hlt hI hS r hr hok e
    · have q1 : decide (i < l.length) = false := by simp; omega
      have hvs := hI.vk.small
      have hrise := hI.rise
      have hone := encP_once hrise
      have hlen := hS.len
      rw [encP_len] at hlen
      obtain ⟨vk, vt, vn, vp, vi, vs⟩ := v
      simp only at hrise hlen hone hS
      have hq0 : ((vp.length : Int) == es.length) = true := by simp; omega
      simp only [Val.c, hmSt]
      repeat' (first | (with_reducible first | refine Cn (fun h => ?_) fun h => ?_ | refine And.intro ?_ ?_ | refine wR ?_ | exact wr _ _ | refine wa ?_ | apply awp_join) | (with_reducible refine CallZ.z ?_) | simp -dsimp [go_sem, q1])
      refine awp_loop (hmSt2 G vk vn vt vp vi vs es) (fun j => j ≤ vp.length) (fun j => vp.length - j) 0 (weak_auto ?_) (Nat.zero_le _) ?_
      · simp -dsimp [go_sem]
      · intro j hj
        by_cases hjl : j < vp.length
        · exact hm_step9 vk vn vt vp vi vs es _ hvs.1 hS hone hrise j hjl
        · have q3 : decide (j < vp.length) = false := by simpa using hjl
          simp only [hmSt2]
          repeat' (first | (with_reducible first | refine Cn (fun h => ?_) fun h => ?_ | refine And.intro ?_ ?_ | refine wR ?_ | exact wr _ _ | refine wa ?_ | apply awp_join | refine q d1 ?_ | refine qd d1 ?_ | refine qz d1 ?_) | (with_reducible refine CallZ.z ?_) | simp -dsimp [go_sem, q3, hq0])
theorem hashModel_b  (l : List Raw) (hl : ∀ r ∈ l, r.Ok) (hn : (l.length : Int) ≤ 9223372036854775807) (h30 : 30 < l.length) : PCall Try.prog G 3 [.one (.v (.sl (l.map Raw.row)))] (bV true) := by
  have d1 := Do_c (G := G) zeroV ⟨4, kS, fS, eS, 0⟩ zeroV_small
  rw [hash_one] at d1
  simp only [DoA, Val.c, Rep.c, Cmd.c, toldR, zeroV, List.map_nil, List.map_cons] at d1
  refine pcallc mixed Try.func3 ac_rostrumkeep_HashModel ?_
  repeat' (first | (with_reducible first | refine Cn (fun h => ?_) fun h => ?_ | refine And.intro ?_ ?_ | refine wR ?_ | exact wr _ _ | refine wa ?_ | apply awp_join) | (with_reducible refine CallZ.z ?_) | simp -dsimp [go_sem])
  refine awp_loop (hmSt G l) (hmA l) hmM (0, zeroV, []) (weak_auto ?_) ⟨Nat.zero_le _, by omega, ⟨.inl rfl, fun p hp => by cases hp⟩, ⟨rfl, fun _ => rfl, .nil⟩⟩ ?_
  · simp -dsimp [go_sem, zeroV, Val.c]
  · rintro ⟨i, v, es⟩ ⟨hi, hi2, hI, hS⟩
    simp only at hi hi2 hI hS
    have w1 : IntKind.i64.wrap ((i : Int) + 1) = (i : Int) + 1 := IntWalk.i64_in _ (by omega)
    by_cases hlt : i < l.length ∧ i < 30
    · obtain ⟨r, hr⟩ : ∃ r, l[i]? = some r := ⟨_, List.getElem?_eq_getElem hlt.1⟩
      have hok := hl r (List.mem_of_getElem? hr)
      have hp := pk_range (n := r.kind) (m := 4) (by omega)
      have hcases : pk r.kind 4 = 0 ∨ pk r.kind 4 = 1 ∨ pk r.kind 4 = 2 ∨ pk r.kind 4 = 3 := by omega
      rcases hcases with e | e | e | e
      · exact hm_step0 l hn _ i v es hlt hI hS r hr hok e
      · exact hm_step1 l hn _ i v es hlt hI hS r hr hok e
      · exact hm_step2 l hn _ i v es hlt hI hS r hr hok e
      · exact hm_step3 l hn _ i v es hlt hI hS r hr hok e
    · have q1 : decide (i < l.length) = true := by simp; omega
      have q2 : decide ((i : Int) < 30) = false := by simp; omega
      have hvs := hI.vk.small
      have hrise := hI.rise
      have hone := encP_once hrise
      have hlen := hS.len
      rw [encP_len] at hlen
      obtain ⟨vk, vt, vn, vp, vi, vs⟩ := v
      simp only at hrise hlen hone hS
      have hq0 : ((vp.length : Int) == es.length) = true := by simp; omega
      simp only [Val.c, hmSt]
      repeat' (first | (with_reducible first | refine Cn (fun h => ?_) fun h => ?_ | refine And.intro ?_ ?_ | refine wR ?_ | exact wr _ _ | refine wa ?_ | apply awp_join) | (with_reducible refine CallZ.z ?_) | simp -dsimp [go_sem, q1, q2])
      refine awp_loop (hmSt2 G vk vn vt vp vi vs es) (fun j => j ≤ vp.length) (fun j => vp.length - j) 0 (weak_auto ?_) (Nat.zero_le _) ?_
      · simp -dsimp [go_sem]
      · intro j hj
        by_cases hjl : j < vp.length
        · exact hm_step9 vk vn vt vp vi vs es _ hvs.1 hS hone hrise j hjl
        · have q3 : decide (j < vp.length) = false := by simpa using hjl
          simp only [hmSt2]
          repeat' (first | (with_reducible first | refine Cn (fun h => ?_) fun h => ?_ | refine And.intro ?_ ?_ | refine wR ?_ | exact wr _ _ | refine wa ?_ | apply awp_join | refine q d1 ?_ | refine qd d1 ?_ | refine qz d1 ?_) | (with_reducible refine CallZ.z ?_) | simp -dsimp [go_sem, q3, hq0])
theorem hashModel_c (l : List Raw) (hl : ∀ r ∈ l, r.Ok) (hn : (l.length : Int) ≤ 9223372036854775807) : PCall Try.prog G 3 [.one (.v (.sl (l.map Raw.row)))] (bV true) := by
  rcases Nat.lt_or_ge 30 l.length with h | h
  · exact hashModel_b l hl hn h
  · exact hashModel_a l hl hn h
end Go.Proofs.Ytcfpphadlgbfdaa
