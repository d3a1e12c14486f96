/- Texts joined: D E W J14 J15 A7. -/
import Derived.Test.YtpdcfljbabpakaaPk1
import Derived.Test.YtpdcfljbabpakaaAeRead
import Derived.Test.YtpdcfljbabpakaaPk2
/- What the functions that make commands answer. -/
set_option linter.unusedVariables false
set_option linter.unusedSimpArgs false
set_option maxRecDepth 100000
set_option maxHeartbeats 8000000
namespace Go.Proofs.Ytpdcfljbabpakaa
open Go Go.RowKit Go.Proofs.AE
variable {G : Nat → AV}
theorem kids : Kids Try.prog (· < Try.prog.types.size) := kids_rows (by kernel_rfl) (by kernel_rfl)
theorem slok : slicesOk Try.prog = true := by kernel_rfl
def someS (n : Int) : ByteArray := ⟨#[UInt8.ofNat (97 + pk n 9).toNat]⟩
theorem someS_size (n : Int) : (someS n).size = 1 := rfl
theorem some_c (n : Int) (hn : i64 n) : PCall Try.prog G 54 [iV n] (sV (someS n)) := by
  have hk := pk_range (n := n) (m := 9) (by omega)
  have hw : IntKind.i64.wrap (97 + pk n 9) = 97 + pk n 9 := IntWalk.i64_in _ (by omega)
  have hw8 : IntKind.u8.wrap (97 + pk n 9) = 97 + pk n 9 := by
    exact IntWalk.u8_in _ (by omega)
  refine pcallc mixed Try.func54 ac_rostrumkeep_some ?_
  unfold someS
  repeat' (first | (with_reducible first | refine Cn (fun h => ?_) fun h => ?_ | refine And.intro ?_ ?_ | refine wR ?_ | exact wr _ _ | refine wa ?_ | apply awp_join | refine q1 (by exact picked_c _ _ (by assumption) (by simp)) ?_ | refine q1d (by exact picked_c _ _ (by assumption) (by simp)) ?_) | (with_reducible refine CallZ.z ?_) | simp -dsimp [go_sem, hw, hw8, bytesOf, AE.byteOf])
def cutS (s : ByteArray) (n : Int) : ByteArray := s.extract 0 (if n < (s.size : Int) then n else (s.size : Int)).toNat
theorem cut_c (s : ByteArray) (n : Int) (hn : 0 ≤ n) : PCall Try.prog G 55 [sV s, iV n] (sV (cutS s n)) := by
  refine pcallc mixed Try.func55 ac_rostrumkeep_cut ?_
  unfold cutS
  have h1 : 0 ≤ if n < (s.size : Int) then n else (s.size : Int) := by split <;> omega
  have h2 : (if n < (s.size : Int) then n else (s.size : Int)) ≤ (s.size : Int) := by split <;> omega
  simp -dsimp [go_sem, h1, h2]
theorem cutS_size (s : ByteArray) {n : Int} (hn : 0 ≤ n) : ((cutS s n).size : Int) ≤ n := by
  unfold cutS
  rw [ByteArray.size_extract]
  split <;> omega

/-- The command of raw numbers, of a kind. -/
def cmdText (n : Int) (text : ByteArray) : ByteArray := if pk n 3 = 0 then someS n else cutS text 6
def cmdOf (k key field n : Int) (text : ByteArray) : List C :=
  [iC k, sC (if k = 22 then ⟨#[]⟩ else someS key), sC (if k = 4 ∨ k = 5 ∨ k = 6 then someS field else ⟨#[]⟩),
   sC (if k = 1 ∨ k = 4 ∨ k = 7 ∨ k = 8 ∨ k = 11 ∨ k = 12 ∨ k = 13 ∨ k = 14 ∨ k = 15 ∨ k = 16 then cmdText n text else ⟨#[]⟩),
   iC (if k = 3 then n.tmod 1073741824 else if k = 20 then pk n 60 else if k = 14 then pk n 12 - 6 else 0)]
theorem cmd6 (n : Int) : IntKind.i64.wrap (pk n 12 - 6) = pk n 12 - 6 := by
  have := pk_range (n := n) (m := 12) (by omega)
  exact IntWalk.i64_in _ (by omega)
theorem command0_c (kind key field n : Int) (text : ByteArray) (h1 : i64 kind) (h2 : i64 key) (h3 : i64 field) (h4 : i64 n) (hk : pk kind 22 = 0) : PCall Try.prog G 42 [.agg [iC kind, iC key, iC field, iC n, sC text]] (.agg (cmdOf (1 + pk kind 22) key field n text)) := by
  rw [hk]
  refine pcallc mixed Try.func42 ac_rostrumkeep_Command ?_
  have e : IntKind.i64.wrap (1 + 0) = 1 + 0 := by rfl
  simp -dsimp [go_sem]
  refine awp_join ⟨[(1, .one (.ptr 0 0)), (2, .one (.ptr 1 0)), (3, .one (.ptr 2 0))], G, [some (.box 59 [iC kind, iC key, iC field, iC n, sC text]), some (.box 40 [iC 0, sC ⟨#[]⟩, sC ⟨#[]⟩, sC ⟨#[]⟩, iC 0]), some (.box 40 [iC (1 + 0), sC (someS key), sC ⟨#[]⟩, sC ⟨#[]⟩, iC 0])]⟩ ?_ ?_
  repeat' (first | (with_reducible first | refine Cn (fun h => ?_) fun h => ?_ | refine And.intro ?_ ?_ | refine wR ?_ | exact wr _ _ | refine wa ?_ | apply awp_join | refine q1 (by exact picked_c _ _ (by assumption) (by simp)) ?_ | refine q1d (by exact picked_c _ _ (by assumption) (by simp)) ?_ | refine q1 (by exact some_c _ (by assumption)) ?_ | refine q1d (by exact some_c _ (by assumption)) ?_ | refine q1 (by exact picked_c _ _ (by assumption) (by simp)) ?_ | refine q1d (by exact picked_c _ _ (by assumption) (by simp)) ?_ | refine q1 (by exact some_c _ (by assumption)) ?_ | refine q1d (by exact some_c _ (by assumption)) ?_ | refine q1 (by exact cut_c _ _ (by simp)) ?_ | refine q1d (by exact cut_c _ _ (by simp)) ?_) | (with_reducible refine CallZ.z ?_) | simp -dsimp [go_sem, hk, e, cmd6])
  all_goals simp_all [cmdOf, cmdText, coeCs, coeC]
theorem command1_c (kind key field n : Int) (text : ByteArray) (h1 : i64 kind) (h2 : i64 key) (h3 : i64 field) (h4 : i64 n) (hk : pk kind 22 = 1) : PCall Try.prog G 42 [.agg [iC kind, iC key, iC field, iC n, sC text]] (.agg (cmdOf (1 + pk kind 22) key field n text)) := by
  rw [hk]
  refine pcallc mixed Try.func42 ac_rostrumkeep_Command ?_
  have e : IntKind.i64.wrap (1 + 1) = 1 + 1 := by rfl
  simp -dsimp [go_sem]
  refine awp_join ⟨[(1, .one (.ptr 0 0)), (2, .one (.ptr 1 0)), (3, .one (.ptr 2 0))], G, [some (.box 59 [iC kind, iC key, iC field, iC n, sC text]), some (.box 40 [iC 0, sC ⟨#[]⟩, sC ⟨#[]⟩, sC ⟨#[]⟩, iC 0]), some (.box 40 [iC (1 + 1), sC (someS key), sC ⟨#[]⟩, sC ⟨#[]⟩, iC 0])]⟩ ?_ ?_
  repeat' (first | (with_reducible first | refine Cn (fun h => ?_) fun h => ?_ | refine And.intro ?_ ?_ | refine wR ?_ | exact wr _ _ | refine wa ?_ | apply awp_join | refine q1 (by exact picked_c _ _ (by assumption) (by simp)) ?_ | refine q1d (by exact picked_c _ _ (by assumption) (by simp)) ?_ | refine q1 (by exact some_c _ (by assumption)) ?_ | refine q1d (by exact some_c _ (by assumption)) ?_ | refine q1 (by exact picked_c _ _ (by assumption) (by simp)) ?_ | refine q1d (by exact picked_c _ _ (by assumption) (by simp)) ?_ | refine q1 (by exact some_c _ (by assumption)) ?_ | refine q1d (by exact some_c _ (by assumption)) ?_ | refine q1 (by exact cut_c _ _ (by simp)) ?_ | refine q1d (by exact cut_c _ _ (by simp)) ?_) | (with_reducible refine CallZ.z ?_) | simp -dsimp [go_sem, hk, e, cmd6])
  all_goals simp_all [cmdOf, cmdText, coeCs, coeC]
theorem command2_c (kind key field n : Int) (text : ByteArray) (h1 : i64 kind) (h2 : i64 key) (h3 : i64 field) (h4 : i64 n) (hk : pk kind 22 = 2) : PCall Try.prog G 42 [.agg [iC kind, iC key, iC field, iC n, sC text]] (.agg (cmdOf (1 + pk kind 22) key field n text)) := by
  rw [hk]
  refine pcallc mixed Try.func42 ac_rostrumkeep_Command ?_
  have e : IntKind.i64.wrap (1 + 2) = 1 + 2 := by rfl
  simp -dsimp [go_sem]
  refine awp_join ⟨[(1, .one (.ptr 0 0)), (2, .one (.ptr 1 0)), (3, .one (.ptr 2 0))], G, [some (.box 59 [iC kind, iC key, iC field, iC n, sC text]), some (.box 40 [iC 0, sC ⟨#[]⟩, sC ⟨#[]⟩, sC ⟨#[]⟩, iC 0]), some (.box 40 [iC (1 + 2), sC (someS key), sC ⟨#[]⟩, sC ⟨#[]⟩, iC 0])]⟩ ?_ ?_
  repeat' (first | (with_reducible first | refine Cn (fun h => ?_) fun h => ?_ | refine And.intro ?_ ?_ | refine wR ?_ | exact wr _ _ | refine wa ?_ | apply awp_join | refine q1 (by exact picked_c _ _ (by assumption) (by simp)) ?_ | refine q1d (by exact picked_c _ _ (by assumption) (by simp)) ?_ | refine q1 (by exact some_c _ (by assumption)) ?_ | refine q1d (by exact some_c _ (by assumption)) ?_ | refine q1 (by exact picked_c _ _ (by assumption) (by simp)) ?_ | refine q1d (by exact picked_c _ _ (by assumption) (by simp)) ?_ | refine q1 (by exact some_c _ (by assumption)) ?_ | refine q1d (by exact some_c _ (by assumption)) ?_ | refine q1 (by exact cut_c _ _ (by simp)) ?_ | refine q1d (by exact cut_c _ _ (by simp)) ?_) | (with_reducible refine CallZ.z ?_) | simp -dsimp [go_sem, hk, e, cmd6])
  all_goals simp_all [cmdOf, cmdText, coeCs, coeC]
theorem command3_c (kind key field n : Int) (text : ByteArray) (h1 : i64 kind) (h2 : i64 key) (h3 : i64 field) (h4 : i64 n) (hk : pk kind 22 = 3) : PCall Try.prog G 42 [.agg [iC kind, iC key, iC field, iC n, sC text]] (.agg (cmdOf (1 + pk kind 22) key field n text)) := by
  rw [hk]
  refine pcallc mixed Try.func42 ac_rostrumkeep_Command ?_
  have e : IntKind.i64.wrap (1 + 3) = 1 + 3 := by rfl
  simp -dsimp [go_sem]
  refine awp_join ⟨[(1, .one (.ptr 0 0)), (2, .one (.ptr 1 0)), (3, .one (.ptr 2 0))], G, [some (.box 59 [iC kind, iC key, iC field, iC n, sC text]), some (.box 40 [iC 0, sC ⟨#[]⟩, sC ⟨#[]⟩, sC ⟨#[]⟩, iC 0]), some (.box 40 [iC (1 + 3), sC (someS key), sC ⟨#[]⟩, sC ⟨#[]⟩, iC 0])]⟩ ?_ ?_
  repeat' (first | (with_reducible first | refine Cn (fun h => ?_) fun h => ?_ | refine And.intro ?_ ?_ | refine wR ?_ | exact wr _ _ | refine wa ?_ | apply awp_join | refine q1 (by exact picked_c _ _ (by assumption) (by simp)) ?_ | refine q1d (by exact picked_c _ _ (by assumption) (by simp)) ?_ | refine q1 (by exact some_c _ (by assumption)) ?_ | refine q1d (by exact some_c _ (by assumption)) ?_ | refine q1 (by exact picked_c _ _ (by assumption) (by simp)) ?_ | refine q1d (by exact picked_c _ _ (by assumption) (by simp)) ?_ | refine q1 (by exact some_c _ (by assumption)) ?_ | refine q1d (by exact some_c _ (by assumption)) ?_ | refine q1 (by exact cut_c _ _ (by simp)) ?_ | refine q1d (by exact cut_c _ _ (by simp)) ?_) | (with_reducible refine CallZ.z ?_) | simp -dsimp [go_sem, hk, e, cmd6])
  all_goals simp_all [cmdOf, cmdText, coeCs, coeC]
theorem command4_c (kind key field n : Int) (text : ByteArray) (h1 : i64 kind) (h2 : i64 key) (h3 : i64 field) (h4 : i64 n) (hk : pk kind 22 = 4) : PCall Try.prog G 42 [.agg [iC kind, iC key, iC field, iC n, sC text]] (.agg (cmdOf (1 + pk kind 22) key field n text)) := by
  rw [hk]
  refine pcallc mixed Try.func42 ac_rostrumkeep_Command ?_
  have e : IntKind.i64.wrap (1 + 4) = 1 + 4 := by rfl
  simp -dsimp [go_sem]
  refine awp_join ⟨[(1, .one (.ptr 0 0)), (2, .one (.ptr 1 0)), (3, .one (.ptr 2 0))], G, [some (.box 59 [iC kind, iC key, iC field, iC n, sC text]), some (.box 40 [iC 0, sC ⟨#[]⟩, sC ⟨#[]⟩, sC ⟨#[]⟩, iC 0]), some (.box 40 [iC (1 + 4), sC (someS key), sC ⟨#[]⟩, sC ⟨#[]⟩, iC 0])]⟩ ?_ ?_
  repeat' (first | (with_reducible first | refine Cn (fun h => ?_) fun h => ?_ | refine And.intro ?_ ?_ | refine wR ?_ | exact wr _ _ | refine wa ?_ | apply awp_join | refine q1 (by exact picked_c _ _ (by assumption) (by simp)) ?_ | refine q1d (by exact picked_c _ _ (by assumption) (by simp)) ?_ | refine q1 (by exact some_c _ (by assumption)) ?_ | refine q1d (by exact some_c _ (by assumption)) ?_ | refine q1 (by exact picked_c _ _ (by assumption) (by simp)) ?_ | refine q1d (by exact picked_c _ _ (by assumption) (by simp)) ?_ | refine q1 (by exact some_c _ (by assumption)) ?_ | refine q1d (by exact some_c _ (by assumption)) ?_ | refine q1 (by exact cut_c _ _ (by simp)) ?_ | refine q1d (by exact cut_c _ _ (by simp)) ?_) | (with_reducible refine CallZ.z ?_) | simp -dsimp [go_sem, hk, e, cmd6])
  all_goals simp_all [cmdOf, cmdText, coeCs, coeC]
theorem command5_c (kind key field n : Int) (text : ByteArray) (h1 : i64 kind) (h2 : i64 key) (h3 : i64 field) (h4 : i64 n) (hk : pk kind 22 = 5) : PCall Try.prog G 42 [.agg [iC kind, iC key, iC field, iC n, sC text]] (.agg (cmdOf (1 + pk kind 22) key field n text)) := by
  rw [hk]
  refine pcallc mixed Try.func42 ac_rostrumkeep_Command ?_
  have e : IntKind.i64.wrap (1 + 5) = 1 + 5 := by rfl
  simp -dsimp [go_sem]
  refine awp_join ⟨[(1, .one (.ptr 0 0)), (2, .one (.ptr 1 0)), (3, .one (.ptr 2 0))], G, [some (.box 59 [iC kind, iC key, iC field, iC n, sC text]), some (.box 40 [iC 0, sC ⟨#[]⟩, sC ⟨#[]⟩, sC ⟨#[]⟩, iC 0]), some (.box 40 [iC (1 + 5), sC (someS key), sC ⟨#[]⟩, sC ⟨#[]⟩, iC 0])]⟩ ?_ ?_
  repeat' (first | (with_reducible first | refine Cn (fun h => ?_) fun h => ?_ | refine And.intro ?_ ?_ | refine wR ?_ | exact wr _ _ | refine wa ?_ | apply awp_join | refine q1 (by exact picked_c _ _ (by assumption) (by simp)) ?_ | refine q1d (by exact picked_c _ _ (by assumption) (by simp)) ?_ | refine q1 (by exact some_c _ (by assumption)) ?_ | refine q1d (by exact some_c _ (by assumption)) ?_ | refine q1 (by exact picked_c _ _ (by assumption) (by simp)) ?_ | refine q1d (by exact picked_c _ _ (by assumption) (by simp)) ?_ | refine q1 (by exact some_c _ (by assumption)) ?_ | refine q1d (by exact some_c _ (by assumption)) ?_ | refine q1 (by exact cut_c _ _ (by simp)) ?_ | refine q1d (by exact cut_c _ _ (by simp)) ?_) | (with_reducible refine CallZ.z ?_) | simp -dsimp [go_sem, hk, e, cmd6])
  all_goals simp_all [cmdOf, cmdText, coeCs, coeC]
theorem command6_c (kind key field n : Int) (text : ByteArray) (h1 : i64 kind) (h2 : i64 key) (h3 : i64 field) (h4 : i64 n) (hk : pk kind 22 = 6) : PCall Try.prog G 42 [.agg [iC kind, iC key, iC field, iC n, sC text]] (.agg (cmdOf (1 + pk kind 22) key field n text)) := by
  rw [hk]
  refine pcallc mixed Try.func42 ac_rostrumkeep_Command ?_
  have e : IntKind.i64.wrap (1 + 6) = 1 + 6 := by rfl
  simp -dsimp [go_sem]
  refine awp_join ⟨[(1, .one (.ptr 0 0)), (2, .one (.ptr 1 0)), (3, .one (.ptr 2 0))], G, [some (.box 59 [iC kind, iC key, iC field, iC n, sC text]), some (.box 40 [iC 0, sC ⟨#[]⟩, sC ⟨#[]⟩, sC ⟨#[]⟩, iC 0]), some (.box 40 [iC (1 + 6), sC (someS key), sC ⟨#[]⟩, sC ⟨#[]⟩, iC 0])]⟩ ?_ ?_
  repeat' (first | (with_reducible first | refine Cn (fun h => ?_) fun h => ?_ | refine And.intro ?_ ?_ | refine wR ?_ | exact wr _ _ | refine wa ?_ | apply awp_join | refine q1 (by exact picked_c _ _ (by assumption) (by simp)) ?_ | refine q1d (by exact picked_c _ _ (by assumption) (by simp)) ?_ | refine q1 (by exact some_c _ (by assumption)) ?_ | refine q1d (by exact some_c _ (by assumption)) ?_ | refine q1 (by exact picked_c _ _ (by assumption) (by simp)) ?_ | refine q1d (by exact picked_c _ _ (by assumption) (by simp)) ?_ | refine q1 (by exact some_c _ (by assumption)) ?_ | refine q1d (by exact some_c _ (by assumption)) ?_ | refine q1 (by exact cut_c _ _ (by simp)) ?_ | refine q1d (by exact cut_c _ _ (by simp)) ?_) | (with_reducible refine CallZ.z ?_) | simp -dsimp [go_sem, hk, e, cmd6])
  all_goals simp_all [cmdOf, cmdText, coeCs, coeC]
theorem command7_c (kind key field n : Int) (text : ByteArray) (h1 : i64 kind) (h2 : i64 key) (h3 : i64 field) (h4 : i64 n) (hk : pk kind 22 = 7) : PCall Try.prog G 42 [.agg [iC kind, iC key, iC field, iC n, sC text]] (.agg (cmdOf (1 + pk kind 22) key field n text)) := by
  rw [hk]
  refine pcallc mixed Try.func42 ac_rostrumkeep_Command ?_
  have e : IntKind.i64.wrap (1 + 7) = 1 + 7 := by rfl
  simp -dsimp [go_sem]
  refine awp_join ⟨[(1, .one (.ptr 0 0)), (2, .one (.ptr 1 0)), (3, .one (.ptr 2 0))], G, [some (.box 59 [iC kind, iC key, iC field, iC n, sC text]), some (.box 40 [iC 0, sC ⟨#[]⟩, sC ⟨#[]⟩, sC ⟨#[]⟩, iC 0]), some (.box 40 [iC (1 + 7), sC (someS key), sC ⟨#[]⟩, sC ⟨#[]⟩, iC 0])]⟩ ?_ ?_
  repeat' (first | (with_reducible first | refine Cn (fun h => ?_) fun h => ?_ | refine And.intro ?_ ?_ | refine wR ?_ | exact wr _ _ | refine wa ?_ | apply awp_join | refine q1 (by exact picked_c _ _ (by assumption) (by simp)) ?_ | refine q1d (by exact picked_c _ _ (by assumption) (by simp)) ?_ | refine q1 (by exact some_c _ (by assumption)) ?_ | refine q1d (by exact some_c _ (by assumption)) ?_ | refine q1 (by exact picked_c _ _ (by assumption) (by simp)) ?_ | refine q1d (by exact picked_c _ _ (by assumption) (by simp)) ?_ | refine q1 (by exact some_c _ (by assumption)) ?_ | refine q1d (by exact some_c _ (by assumption)) ?_ | refine q1 (by exact cut_c _ _ (by simp)) ?_ | refine q1d (by exact cut_c _ _ (by simp)) ?_) | (with_reducible refine CallZ.z ?_) | simp -dsimp [go_sem, hk, e, cmd6])
  all_goals simp_all [cmdOf, cmdText, coeCs, coeC]
theorem command8_c (kind key field n : Int) (text : ByteArray) (h1 : i64 kind) (h2 : i64 key) (h3 : i64 field) (h4 : i64 n) (hk : pk kind 22 = 8) : PCall Try.prog G 42 [.agg [iC kind, iC key, iC field, iC n, sC text]] (.agg (cmdOf (1 + pk kind 22) key field n text)) := by
  rw [hk]
  refine pcallc mixed Try.func42 ac_rostrumkeep_Command ?_
  have e : IntKind.i64.wrap (1 + 8) = 1 + 8 := by rfl
  simp -dsimp [go_sem]
  refine awp_join ⟨[(1, .one (.ptr 0 0)), (2, .one (.ptr 1 0)), (3, .one (.ptr 2 0))], G, [some (.box 59 [iC kind, iC key, iC field, iC n, sC text]), some (.box 40 [iC 0, sC ⟨#[]⟩, sC ⟨#[]⟩, sC ⟨#[]⟩, iC 0]), some (.box 40 [iC (1 + 8), sC (someS key), sC ⟨#[]⟩, sC ⟨#[]⟩, iC 0])]⟩ ?_ ?_
  repeat' (first | (with_reducible first | refine Cn (fun h => ?_) fun h => ?_ | refine And.intro ?_ ?_ | refine wR ?_ | exact wr _ _ | refine wa ?_ | apply awp_join | refine q1 (by exact picked_c _ _ (by assumption) (by simp)) ?_ | refine q1d (by exact picked_c _ _ (by assumption) (by simp)) ?_ | refine q1 (by exact some_c _ (by assumption)) ?_ | refine q1d (by exact some_c _ (by assumption)) ?_ | refine q1 (by exact picked_c _ _ (by assumption) (by simp)) ?_ | refine q1d (by exact picked_c _ _ (by assumption) (by simp)) ?_ | refine q1 (by exact some_c _ (by assumption)) ?_ | refine q1d (by exact some_c _ (by assumption)) ?_ | refine q1 (by exact cut_c _ _ (by simp)) ?_ | refine q1d (by exact cut_c _ _ (by simp)) ?_) | (with_reducible refine CallZ.z ?_) | simp -dsimp [go_sem, hk, e, cmd6])
  all_goals simp_all [cmdOf, cmdText, coeCs, coeC]
theorem command9_c (kind key field n : Int) (text : ByteArray) (h1 : i64 kind) (h2 : i64 key) (h3 : i64 field) (h4 : i64 n) (hk : pk kind 22 = 9) : PCall Try.prog G 42 [.agg [iC kind, iC key, iC field, iC n, sC text]] (.agg (cmdOf (1 + pk kind 22) key field n text)) := by
  rw [hk]
  refine pcallc mixed Try.func42 ac_rostrumkeep_Command ?_
  have e : IntKind.i64.wrap (1 + 9) = 1 + 9 := by rfl
  simp -dsimp [go_sem]
  refine awp_join ⟨[(1, .one (.ptr 0 0)), (2, .one (.ptr 1 0)), (3, .one (.ptr 2 0))], G, [some (.box 59 [iC kind, iC key, iC field, iC n, sC text]), some (.box 40 [iC 0, sC ⟨#[]⟩, sC ⟨#[]⟩, sC ⟨#[]⟩, iC 0]), some (.box 40 [iC (1 + 9), sC (someS key), sC ⟨#[]⟩, sC ⟨#[]⟩, iC 0])]⟩ ?_ ?_
  repeat' (first | (with_reducible first | refine Cn (fun h => ?_) fun h => ?_ | refine And.intro ?_ ?_ | refine wR ?_ | exact wr _ _ | refine wa ?_ | apply awp_join | refine q1 (by exact picked_c _ _ (by assumption) (by simp)) ?_ | refine q1d (by exact picked_c _ _ (by assumption) (by simp)) ?_ | refine q1 (by exact some_c _ (by assumption)) ?_ | refine q1d (by exact some_c _ (by assumption)) ?_ | refine q1 (by exact picked_c _ _ (by assumption) (by simp)) ?_ | refine q1d (by exact picked_c _ _ (by assumption) (by simp)) ?_ | refine q1 (by exact some_c _ (by assumption)) ?_ | refine q1d (by exact some_c _ (by assumption)) ?_ | refine q1 (by exact cut_c _ _ (by simp)) ?_ | refine q1d (by exact cut_c _ _ (by simp)) ?_) | (with_reducible refine CallZ.z ?_) | simp -dsimp [go_sem, hk, e, cmd6])
  all_goals simp_all [cmdOf, cmdText, coeCs, coeC]
theorem command10_c (kind key field n : Int) (text : ByteArray) (h1 : i64 kind) (h2 : i64 key) (h3 : i64 field) (h4 : i64 n) (hk : pk kind 22 = 10) : PCall Try.prog G 42 [.agg [iC kind, iC key, iC field, iC n, sC text]] (.agg (cmdOf (1 + pk kind 22) key field n text)) := by
  rw [hk]
  refine pcallc mixed Try.func42 ac_rostrumkeep_Command ?_
  have e : IntKind.i64.wrap (1 + 10) = 1 + 10 := by rfl
  simp -dsimp [go_sem]
  refine awp_join ⟨[(1, .one (.ptr 0 0)), (2, .one (.ptr 1 0)), (3, .one (.ptr 2 0))], G, [some (.box 59 [iC kind, iC key, iC field, iC n, sC text]), some (.box 40 [iC 0, sC ⟨#[]⟩, sC ⟨#[]⟩, sC ⟨#[]⟩, iC 0]), some (.box 40 [iC (1 + 10), sC (someS key), sC ⟨#[]⟩, sC ⟨#[]⟩, iC 0])]⟩ ?_ ?_
  repeat' (first | (with_reducible first | refine Cn (fun h => ?_) fun h => ?_ | refine And.intro ?_ ?_ | refine wR ?_ | exact wr _ _ | refine wa ?_ | apply awp_join | refine q1 (by exact picked_c _ _ (by assumption) (by simp)) ?_ | refine q1d (by exact picked_c _ _ (by assumption) (by simp)) ?_ | refine q1 (by exact some_c _ (by assumption)) ?_ | refine q1d (by exact some_c _ (by assumption)) ?_ | refine q1 (by exact picked_c _ _ (by assumption) (by simp)) ?_ | refine q1d (by exact picked_c _ _ (by assumption) (by simp)) ?_ | refine q1 (by exact some_c _ (by assumption)) ?_ | refine q1d (by exact some_c _ (by assumption)) ?_ | refine q1 (by exact cut_c _ _ (by simp)) ?_ | refine q1d (by exact cut_c _ _ (by simp)) ?_) | (with_reducible refine CallZ.z ?_) | simp -dsimp [go_sem, hk, e, cmd6])
  all_goals simp_all [cmdOf, cmdText, coeCs, coeC]
theorem command11_c (kind key field n : Int) (text : ByteArray) (h1 : i64 kind) (h2 : i64 key) (h3 : i64 field) (h4 : i64 n) (hk : pk kind 22 = 11) : PCall Try.prog G 42 [.agg [iC kind, iC key, iC field, iC n, sC text]] (.agg (cmdOf (1 + pk kind 22) key field n text)) := by
  rw [hk]
  refine pcallc mixed Try.func42 ac_rostrumkeep_Command ?_
  have e : IntKind.i64.wrap (1 + 11) = 1 + 11 := by rfl
  simp -dsimp [go_sem]
  refine awp_join ⟨[(1, .one (.ptr 0 0)), (2, .one (.ptr 1 0)), (3, .one (.ptr 2 0))], G, [some (.box 59 [iC kind, iC key, iC field, iC n, sC text]), some (.box 40 [iC 0, sC ⟨#[]⟩, sC ⟨#[]⟩, sC ⟨#[]⟩, iC 0]), some (.box 40 [iC (1 + 11), sC (someS key), sC ⟨#[]⟩, sC ⟨#[]⟩, iC 0])]⟩ ?_ ?_
  repeat' (first | (with_reducible first | refine Cn (fun h => ?_) fun h => ?_ | refine And.intro ?_ ?_ | refine wR ?_ | exact wr _ _ | refine wa ?_ | apply awp_join | refine q1 (by exact picked_c _ _ (by assumption) (by simp)) ?_ | refine q1d (by exact picked_c _ _ (by assumption) (by simp)) ?_ | refine q1 (by exact some_c _ (by assumption)) ?_ | refine q1d (by exact some_c _ (by assumption)) ?_ | refine q1 (by exact picked_c _ _ (by assumption) (by simp)) ?_ | refine q1d (by exact picked_c _ _ (by assumption) (by simp)) ?_ | refine q1 (by exact some_c _ (by assumption)) ?_ | refine q1d (by exact some_c _ (by assumption)) ?_ | refine q1 (by exact cut_c _ _ (by simp)) ?_ | refine q1d (by exact cut_c _ _ (by simp)) ?_) | (with_reducible refine CallZ.z ?_) | simp -dsimp [go_sem, hk, e, cmd6])
  all_goals simp_all [cmdOf, cmdText, coeCs, coeC]
theorem command12_c (kind key field n : Int) (text : ByteArray) (h1 : i64 kind) (h2 : i64 key) (h3 : i64 field) (h4 : i64 n) (hk : pk kind 22 = 12) : PCall Try.prog G 42 [.agg [iC kind, iC key, iC field, iC n, sC text]] (.agg (cmdOf (1 + pk kind 22) key field n text)) := by
  rw [hk]
  refine pcallc mixed Try.func42 ac_rostrumkeep_Command ?_
  have e : IntKind.i64.wrap (1 + 12) = 1 + 12 := by rfl
  simp -dsimp [go_sem]
  refine awp_join ⟨[(1, .one (.ptr 0 0)), (2, .one (.ptr 1 0)), (3, .one (.ptr 2 0))], G, [some (.box 59 [iC kind, iC key, iC field, iC n, sC text]), some (.box 40 [iC 0, sC ⟨#[]⟩, sC ⟨#[]⟩, sC ⟨#[]⟩, iC 0]), some (.box 40 [iC (1 + 12), sC (someS key), sC ⟨#[]⟩, sC ⟨#[]⟩, iC 0])]⟩ ?_ ?_
  repeat' (first | (with_reducible first | refine Cn (fun h => ?_) fun h => ?_ | refine And.intro ?_ ?_ | refine wR ?_ | exact wr _ _ | refine wa ?_ | apply awp_join | refine q1 (by exact picked_c _ _ (by assumption) (by simp)) ?_ | refine q1d (by exact picked_c _ _ (by assumption) (by simp)) ?_ | refine q1 (by exact some_c _ (by assumption)) ?_ | refine q1d (by exact some_c _ (by assumption)) ?_ | refine q1 (by exact picked_c _ _ (by assumption) (by simp)) ?_ | refine q1d (by exact picked_c _ _ (by assumption) (by simp)) ?_ | refine q1 (by exact some_c _ (by assumption)) ?_ | refine q1d (by exact some_c _ (by assumption)) ?_ | refine q1 (by exact cut_c _ _ (by simp)) ?_ | refine q1d (by exact cut_c _ _ (by simp)) ?_) | (with_reducible refine CallZ.z ?_) | simp -dsimp [go_sem, hk, e, cmd6])
  all_goals simp_all [cmdOf, cmdText, coeCs, coeC]
theorem command13_c (kind key field n : Int) (text : ByteArray) (h1 : i64 kind) (h2 : i64 key) (h3 : i64 field) (h4 : i64 n) (hk : pk kind 22 = 13) : PCall Try.prog G 42 [.agg [iC kind, iC key, iC field, iC n, sC text]] (.agg (cmdOf (1 + pk kind 22) key field n text)) := by
  rw [hk]
  refine pcallc mixed Try.func42 ac_rostrumkeep_Command ?_
  have e : IntKind.i64.wrap (1 + 13) = 1 + 13 := by rfl
  simp -dsimp [go_sem]
  refine awp_join ⟨[(1, .one (.ptr 0 0)), (2, .one (.ptr 1 0)), (3, .one (.ptr 2 0))], G, [some (.box 59 [iC kind, iC key, iC field, iC n, sC text]), some (.box 40 [iC 0, sC ⟨#[]⟩, sC ⟨#[]⟩, sC ⟨#[]⟩, iC 0]), some (.box 40 [iC (1 + 13), sC (someS key), sC ⟨#[]⟩, sC ⟨#[]⟩, iC 0])]⟩ ?_ ?_
  repeat' (first | (with_reducible first | refine Cn (fun h => ?_) fun h => ?_ | refine And.intro ?_ ?_ | refine wR ?_ | exact wr _ _ | refine wa ?_ | apply awp_join | refine q1 (by exact picked_c _ _ (by assumption) (by simp)) ?_ | refine q1d (by exact picked_c _ _ (by assumption) (by simp)) ?_ | refine q1 (by exact some_c _ (by assumption)) ?_ | refine q1d (by exact some_c _ (by assumption)) ?_ | refine q1 (by exact picked_c _ _ (by assumption) (by simp)) ?_ | refine q1d (by exact picked_c _ _ (by assumption) (by simp)) ?_ | refine q1 (by exact some_c _ (by assumption)) ?_ | refine q1d (by exact some_c _ (by assumption)) ?_ | refine q1 (by exact cut_c _ _ (by simp)) ?_ | refine q1d (by exact cut_c _ _ (by simp)) ?_) | (with_reducible refine CallZ.z ?_) | simp -dsimp [go_sem, hk, e, cmd6])
  all_goals simp_all [cmdOf, cmdText, coeCs, coeC]
theorem command14_c (kind key field n : Int) (text : ByteArray) (h1 : i64 kind) (h2 : i64 key) (h3 : i64 field) (h4 : i64 n) (hk : pk kind 22 = 14) : PCall Try.prog G 42 [.agg [iC kind, iC key, iC field, iC n, sC text]] (.agg (cmdOf (1 + pk kind 22) key field n text)) := by
  rw [hk]
  refine pcallc mixed Try.func42 ac_rostrumkeep_Command ?_
  have e : IntKind.i64.wrap (1 + 14) = 1 + 14 := by rfl
  simp -dsimp [go_sem]
  refine awp_join ⟨[(1, .one (.ptr 0 0)), (2, .one (.ptr 1 0)), (3, .one (.ptr 2 0))], G, [some (.box 59 [iC kind, iC key, iC field, iC n, sC text]), some (.box 40 [iC 0, sC ⟨#[]⟩, sC ⟨#[]⟩, sC ⟨#[]⟩, iC 0]), some (.box 40 [iC (1 + 14), sC (someS key), sC ⟨#[]⟩, sC ⟨#[]⟩, iC 0])]⟩ ?_ ?_
  repeat' (first | (with_reducible first | refine Cn (fun h => ?_) fun h => ?_ | refine And.intro ?_ ?_ | refine wR ?_ | exact wr _ _ | refine wa ?_ | apply awp_join | refine q1 (by exact picked_c _ _ (by assumption) (by simp)) ?_ | refine q1d (by exact picked_c _ _ (by assumption) (by simp)) ?_ | refine q1 (by exact some_c _ (by assumption)) ?_ | refine q1d (by exact some_c _ (by assumption)) ?_ | refine q1 (by exact picked_c _ _ (by assumption) (by simp)) ?_ | refine q1d (by exact picked_c _ _ (by assumption) (by simp)) ?_ | refine q1 (by exact some_c _ (by assumption)) ?_ | refine q1d (by exact some_c _ (by assumption)) ?_ | refine q1 (by exact cut_c _ _ (by simp)) ?_ | refine q1d (by exact cut_c _ _ (by simp)) ?_) | (with_reducible refine CallZ.z ?_) | simp -dsimp [go_sem, hk, e, cmd6])
  all_goals simp_all [cmdOf, cmdText, coeCs, coeC]
theorem command15_c (kind key field n : Int) (text : ByteArray) (h1 : i64 kind) (h2 : i64 key) (h3 : i64 field) (h4 : i64 n) (hk : pk kind 22 = 15) : PCall Try.prog G 42 [.agg [iC kind, iC key, iC field, iC n, sC text]] (.agg (cmdOf (1 + pk kind 22) key field n text)) := by
  rw [hk]
  refine pcallc mixed Try.func42 ac_rostrumkeep_Command ?_
  have e : IntKind.i64.wrap (1 + 15) = 1 + 15 := by rfl
  simp -dsimp [go_sem]
  refine awp_join ⟨[(1, .one (.ptr 0 0)), (2, .one (.ptr 1 0)), (3, .one (.ptr 2 0))], G, [some (.box 59 [iC kind, iC key, iC field, iC n, sC text]), some (.box 40 [iC 0, sC ⟨#[]⟩, sC ⟨#[]⟩, sC ⟨#[]⟩, iC 0]), some (.box 40 [iC (1 + 15), sC (someS key), sC ⟨#[]⟩, sC ⟨#[]⟩, iC 0])]⟩ ?_ ?_
  repeat' (first | (with_reducible first | refine Cn (fun h => ?_) fun h => ?_ | refine And.intro ?_ ?_ | refine wR ?_ | exact wr _ _ | refine wa ?_ | apply awp_join | refine q1 (by exact picked_c _ _ (by assumption) (by simp)) ?_ | refine q1d (by exact picked_c _ _ (by assumption) (by simp)) ?_ | refine q1 (by exact some_c _ (by assumption)) ?_ | refine q1d (by exact some_c _ (by assumption)) ?_ | refine q1 (by exact picked_c _ _ (by assumption) (by simp)) ?_ | refine q1d (by exact picked_c _ _ (by assumption) (by simp)) ?_ | refine q1 (by exact some_c _ (by assumption)) ?_ | refine q1d (by exact some_c _ (by assumption)) ?_ | refine q1 (by exact cut_c _ _ (by simp)) ?_ | refine q1d (by exact cut_c _ _ (by simp)) ?_) | (with_reducible refine CallZ.z ?_) | simp -dsimp [go_sem, hk, e, cmd6])
  all_goals simp_all [cmdOf, cmdText, coeCs, coeC]
theorem command16_c (kind key field n : Int) (text : ByteArray) (h1 : i64 kind) (h2 : i64 key) (h3 : i64 field) (h4 : i64 n) (hk : pk kind 22 = 16) : PCall Try.prog G 42 [.agg [iC kind, iC key, iC field, iC n, sC text]] (.agg (cmdOf (1 + pk kind 22) key field n text)) := by
  rw [hk]
  refine pcallc mixed Try.func42 ac_rostrumkeep_Command ?_
  have e : IntKind.i64.wrap (1 + 16) = 1 + 16 := by rfl
  simp -dsimp [go_sem]
  refine awp_join ⟨[(1, .one (.ptr 0 0)), (2, .one (.ptr 1 0)), (3, .one (.ptr 2 0))], G, [some (.box 59 [iC kind, iC key, iC field, iC n, sC text]), some (.box 40 [iC 0, sC ⟨#[]⟩, sC ⟨#[]⟩, sC ⟨#[]⟩, iC 0]), some (.box 40 [iC (1 + 16), sC (someS key), sC ⟨#[]⟩, sC ⟨#[]⟩, iC 0])]⟩ ?_ ?_
  repeat' (first | (with_reducible first | refine Cn (fun h => ?_) fun h => ?_ | refine And.intro ?_ ?_ | refine wR ?_ | exact wr _ _ | refine wa ?_ | apply awp_join | refine q1 (by exact picked_c _ _ (by assumption) (by simp)) ?_ | refine q1d (by exact picked_c _ _ (by assumption) (by simp)) ?_ | refine q1 (by exact some_c _ (by assumption)) ?_ | refine q1d (by exact some_c _ (by assumption)) ?_ | refine q1 (by exact picked_c _ _ (by assumption) (by simp)) ?_ | refine q1d (by exact picked_c _ _ (by assumption) (by simp)) ?_ | refine q1 (by exact some_c _ (by assumption)) ?_ | refine q1d (by exact some_c _ (by assumption)) ?_ | refine q1 (by exact cut_c _ _ (by simp)) ?_ | refine q1d (by exact cut_c _ _ (by simp)) ?_) | (with_reducible refine CallZ.z ?_) | simp -dsimp [go_sem, hk, e, cmd6])
  all_goals simp_all [cmdOf, cmdText, coeCs, coeC]
theorem command17_c (kind key field n : Int) (text : ByteArray) (h1 : i64 kind) (h2 : i64 key) (h3 : i64 field) (h4 : i64 n) (hk : pk kind 22 = 17) : PCall Try.prog G 42 [.agg [iC kind, iC key, iC field, iC n, sC text]] (.agg (cmdOf (1 + pk kind 22) key field n text)) := by
  rw [hk]
  refine pcallc mixed Try.func42 ac_rostrumkeep_Command ?_
  have e : IntKind.i64.wrap (1 + 17) = 1 + 17 := by rfl
  simp -dsimp [go_sem]
  refine awp_join ⟨[(1, .one (.ptr 0 0)), (2, .one (.ptr 1 0)), (3, .one (.ptr 2 0))], G, [some (.box 59 [iC kind, iC key, iC field, iC n, sC text]), some (.box 40 [iC 0, sC ⟨#[]⟩, sC ⟨#[]⟩, sC ⟨#[]⟩, iC 0]), some (.box 40 [iC (1 + 17), sC (someS key), sC ⟨#[]⟩, sC ⟨#[]⟩, iC 0])]⟩ ?_ ?_
  repeat' (first | (with_reducible first | refine Cn (fun h => ?_) fun h => ?_ | refine And.intro ?_ ?_ | refine wR ?_ | exact wr _ _ | refine wa ?_ | apply awp_join | refine q1 (by exact picked_c _ _ (by assumption) (by simp)) ?_ | refine q1d (by exact picked_c _ _ (by assumption) (by simp)) ?_ | refine q1 (by exact some_c _ (by assumption)) ?_ | refine q1d (by exact some_c _ (by assumption)) ?_ | refine q1 (by exact picked_c _ _ (by assumption) (by simp)) ?_ | refine q1d (by exact picked_c _ _ (by assumption) (by simp)) ?_ | refine q1 (by exact some_c _ (by assumption)) ?_ | refine q1d (by exact some_c _ (by assumption)) ?_ | refine q1 (by exact cut_c _ _ (by simp)) ?_ | refine q1d (by exact cut_c _ _ (by simp)) ?_) | (with_reducible refine CallZ.z ?_) | simp -dsimp [go_sem, hk, e, cmd6])
  all_goals simp_all [cmdOf, cmdText, coeCs, coeC]
theorem command18_c (kind key field n : Int) (text : ByteArray) (h1 : i64 kind) (h2 : i64 key) (h3 : i64 field) (h4 : i64 n) (hk : pk kind 22 = 18) : PCall Try.prog G 42 [.agg [iC kind, iC key, iC field, iC n, sC text]] (.agg (cmdOf (1 + pk kind 22) key field n text)) := by
  rw [hk]
  refine pcallc mixed Try.func42 ac_rostrumkeep_Command ?_
  have e : IntKind.i64.wrap (1 + 18) = 1 + 18 := by rfl
  simp -dsimp [go_sem]
  refine awp_join ⟨[(1, .one (.ptr 0 0)), (2, .one (.ptr 1 0)), (3, .one (.ptr 2 0))], G, [some (.box 59 [iC kind, iC key, iC field, iC n, sC text]), some (.box 40 [iC 0, sC ⟨#[]⟩, sC ⟨#[]⟩, sC ⟨#[]⟩, iC 0]), some (.box 40 [iC (1 + 18), sC (someS key), sC ⟨#[]⟩, sC ⟨#[]⟩, iC 0])]⟩ ?_ ?_
  repeat' (first | (with_reducible first | refine Cn (fun h => ?_) fun h => ?_ | refine And.intro ?_ ?_ | refine wR ?_ | exact wr _ _ | refine wa ?_ | apply awp_join | refine q1 (by exact picked_c _ _ (by assumption) (by simp)) ?_ | refine q1d (by exact picked_c _ _ (by assumption) (by simp)) ?_ | refine q1 (by exact some_c _ (by assumption)) ?_ | refine q1d (by exact some_c _ (by assumption)) ?_ | refine q1 (by exact picked_c _ _ (by assumption) (by simp)) ?_ | refine q1d (by exact picked_c _ _ (by assumption) (by simp)) ?_ | refine q1 (by exact some_c _ (by assumption)) ?_ | refine q1d (by exact some_c _ (by assumption)) ?_ | refine q1 (by exact cut_c _ _ (by simp)) ?_ | refine q1d (by exact cut_c _ _ (by simp)) ?_) | (with_reducible refine CallZ.z ?_) | simp -dsimp [go_sem, hk, e, cmd6])
  all_goals simp_all [cmdOf, cmdText, coeCs, coeC]
theorem command19_c (kind key field n : Int) (text : ByteArray) (h1 : i64 kind) (h2 : i64 key) (h3 : i64 field) (h4 : i64 n) (hk : pk kind 22 = 19) : PCall Try.prog G 42 [.agg [iC kind, iC key, iC field, iC n, sC text]] (.agg (cmdOf (1 + pk kind 22) key field n text)) := by
  rw [hk]
  refine pcallc mixed Try.func42 ac_rostrumkeep_Command ?_
  have e : IntKind.i64.wrap (1 + 19) = 1 + 19 := by rfl
  simp -dsimp [go_sem]
  refine awp_join ⟨[(1, .one (.ptr 0 0)), (2, .one (.ptr 1 0)), (3, .one (.ptr 2 0))], G, [some (.box 59 [iC kind, iC key, iC field, iC n, sC text]), some (.box 40 [iC 0, sC ⟨#[]⟩, sC ⟨#[]⟩, sC ⟨#[]⟩, iC 0]), some (.box 40 [iC (1 + 19), sC (someS key), sC ⟨#[]⟩, sC ⟨#[]⟩, iC 0])]⟩ ?_ ?_
  repeat' (first | (with_reducible first | refine Cn (fun h => ?_) fun h => ?_ | refine And.intro ?_ ?_ | refine wR ?_ | exact wr _ _ | refine wa ?_ | apply awp_join | refine q1 (by exact picked_c _ _ (by assumption) (by simp)) ?_ | refine q1d (by exact picked_c _ _ (by assumption) (by simp)) ?_ | refine q1 (by exact some_c _ (by assumption)) ?_ | refine q1d (by exact some_c _ (by assumption)) ?_ | refine q1 (by exact picked_c _ _ (by assumption) (by simp)) ?_ | refine q1d (by exact picked_c _ _ (by assumption) (by simp)) ?_ | refine q1 (by exact some_c _ (by assumption)) ?_ | refine q1d (by exact some_c _ (by assumption)) ?_ | refine q1 (by exact cut_c _ _ (by simp)) ?_ | refine q1d (by exact cut_c _ _ (by simp)) ?_) | (with_reducible refine CallZ.z ?_) | simp -dsimp [go_sem, hk, e, cmd6])
  all_goals simp_all [cmdOf, cmdText, coeCs, coeC]
theorem command20_c (kind key field n : Int) (text : ByteArray) (h1 : i64 kind) (h2 : i64 key) (h3 : i64 field) (h4 : i64 n) (hk : pk kind 22 = 20) : PCall Try.prog G 42 [.agg [iC kind, iC key, iC field, iC n, sC text]] (.agg (cmdOf (1 + pk kind 22) key field n text)) := by
  rw [hk]
  refine pcallc mixed Try.func42 ac_rostrumkeep_Command ?_
  have e : IntKind.i64.wrap (1 + 20) = 1 + 20 := by rfl
  simp -dsimp [go_sem]
  refine awp_join ⟨[(1, .one (.ptr 0 0)), (2, .one (.ptr 1 0)), (3, .one (.ptr 2 0))], G, [some (.box 59 [iC kind, iC key, iC field, iC n, sC text]), some (.box 40 [iC 0, sC ⟨#[]⟩, sC ⟨#[]⟩, sC ⟨#[]⟩, iC 0]), some (.box 40 [iC (1 + 20), sC (someS key), sC ⟨#[]⟩, sC ⟨#[]⟩, iC 0])]⟩ ?_ ?_
  repeat' (first | (with_reducible first | refine Cn (fun h => ?_) fun h => ?_ | refine And.intro ?_ ?_ | refine wR ?_ | exact wr _ _ | refine wa ?_ | apply awp_join | refine q1 (by exact picked_c _ _ (by assumption) (by simp)) ?_ | refine q1d (by exact picked_c _ _ (by assumption) (by simp)) ?_ | refine q1 (by exact some_c _ (by assumption)) ?_ | refine q1d (by exact some_c _ (by assumption)) ?_ | refine q1 (by exact picked_c _ _ (by assumption) (by simp)) ?_ | refine q1d (by exact picked_c _ _ (by assumption) (by simp)) ?_ | refine q1 (by exact some_c _ (by assumption)) ?_ | refine q1d (by exact some_c _ (by assumption)) ?_ | refine q1 (by exact cut_c _ _ (by simp)) ?_ | refine q1d (by exact cut_c _ _ (by simp)) ?_) | (with_reducible refine CallZ.z ?_) | simp -dsimp [go_sem, hk, e, cmd6])
  all_goals simp_all [cmdOf, cmdText, coeCs, coeC]
theorem command21_c (kind key field n : Int) (text : ByteArray) (h1 : i64 kind) (h2 : i64 key) (h3 : i64 field) (h4 : i64 n) (hk : pk kind 22 = 21) : PCall Try.prog G 42 [.agg [iC kind, iC key, iC field, iC n, sC text]] (.agg (cmdOf (1 + pk kind 22) key field n text)) := by
  rw [hk]
  refine pcallc mixed Try.func42 ac_rostrumkeep_Command ?_
  have e : IntKind.i64.wrap (1 + 21) = 1 + 21 := by rfl
  simp -dsimp [go_sem]
  refine awp_join ⟨[(1, .one (.ptr 0 0)), (2, .one (.ptr 1 0)), (3, .one (.ptr 2 0))], G, [some (.box 59 [iC kind, iC key, iC field, iC n, sC text]), some (.box 40 [iC 0, sC ⟨#[]⟩, sC ⟨#[]⟩, sC ⟨#[]⟩, iC 0]), some (.box 40 [iC (1 + 21), sC (someS key), sC ⟨#[]⟩, sC ⟨#[]⟩, iC 0])]⟩ ?_ ?_
  repeat' (first | (with_reducible first | refine Cn (fun h => ?_) fun h => ?_ | refine And.intro ?_ ?_ | refine wR ?_ | exact wr _ _ | refine wa ?_ | apply awp_join | refine q1 (by exact picked_c _ _ (by assumption) (by simp)) ?_ | refine q1d (by exact picked_c _ _ (by assumption) (by simp)) ?_ | refine q1 (by exact some_c _ (by assumption)) ?_ | refine q1d (by exact some_c _ (by assumption)) ?_ | refine q1 (by exact picked_c _ _ (by assumption) (by simp)) ?_ | refine q1d (by exact picked_c _ _ (by assumption) (by simp)) ?_ | refine q1 (by exact some_c _ (by assumption)) ?_ | refine q1d (by exact some_c _ (by assumption)) ?_ | refine q1 (by exact cut_c _ _ (by simp)) ?_ | refine q1d (by exact cut_c _ _ (by simp)) ?_) | (with_reducible refine CallZ.z ?_) | simp -dsimp [go_sem, hk, e, cmd6])
  all_goals simp_all [cmdOf, cmdText, coeCs, coeC]
theorem command_c (kind key field n : Int) (text : ByteArray) (h1 : i64 kind) (h2 : i64 key) (h3 : i64 field) (h4 : i64 n) : PCall Try.prog G 42 [.agg [iC kind, iC key, iC field, iC n, sC text]] (.agg (cmdOf (1 + pk kind 22) key field n text)) := by
  have hr := pk_range (n := kind) (m := 22) (by omega)
  have hk : pk kind 22 = 0 ∨ pk kind 22 = 1 ∨ pk kind 22 = 2 ∨ pk kind 22 = 3 ∨ pk kind 22 = 4 ∨ pk kind 22 = 5 ∨ pk kind 22 = 6 ∨ pk kind 22 = 7 ∨ pk kind 22 = 8 ∨ pk kind 22 = 9 ∨ pk kind 22 = 10 ∨ pk kind 22 = 11 ∨ pk kind 22 = 12 ∨ pk kind 22 = 13 ∨ pk kind 22 = 14 ∨ pk kind 22 = 15 ∨ pk kind 22 = 16 ∨ pk kind 22 = 17 ∨ pk kind 22 = 18 ∨ pk kind 22 = 19 ∨ pk kind 22 = 20 ∨ pk kind 22 = 21 := by omega
  rcases hk with hk | hk | hk | hk | hk | hk | hk | hk | hk | hk | hk | hk | hk | hk | hk | hk | hk | hk | hk | hk | hk | hk
  · exact command0_c kind key field n text h1 h2 h3 h4 hk
  · exact command1_c kind key field n text h1 h2 h3 h4 hk
  · exact command2_c kind key field n text h1 h2 h3 h4 hk
  · exact command3_c kind key field n text h1 h2 h3 h4 hk
  · exact command4_c kind key field n text h1 h2 h3 h4 hk
  · exact command5_c kind key field n text h1 h2 h3 h4 hk
  · exact command6_c kind key field n text h1 h2 h3 h4 hk
  · exact command7_c kind key field n text h1 h2 h3 h4 hk
  · exact command8_c kind key field n text h1 h2 h3 h4 hk
  · exact command9_c kind key field n text h1 h2 h3 h4 hk
  · exact command10_c kind key field n text h1 h2 h3 h4 hk
  · exact command11_c kind key field n text h1 h2 h3 h4 hk
  · exact command12_c kind key field n text h1 h2 h3 h4 hk
  · exact command13_c kind key field n text h1 h2 h3 h4 hk
  · exact command14_c kind key field n text h1 h2 h3 h4 hk
  · exact command15_c kind key field n text h1 h2 h3 h4 hk
  · exact command16_c kind key field n text h1 h2 h3 h4 hk
  · exact command17_c kind key field n text h1 h2 h3 h4 hk
  · exact command18_c kind key field n text h1 h2 h3 h4 hk
  · exact command19_c kind key field n text h1 h2 h3 h4 hk
  · exact command20_c kind key field n text h1 h2 h3 h4 hk
  · exact command21_c kind key field n text h1 h2 h3 h4 hk
end Go.Proofs.Ytpdcfljbabpakaa

/- What the checks of calls answer. -/
set_option linter.unusedVariables false
set_option linter.unusedSimpArgs false
set_option maxRecDepth 100000
set_option maxHeartbeats 8000000
namespace Go.Proofs.Ytpdcfljbabpakaa
open Go Go.RowKit Go.Proofs.AE
variable {G : Nat → AV}
def checkCall (client seq k : Int) (key field text : ByteArray) (n : Int) : Int :=
  if decide (client = 0) then (if (seq == 0 && (k == 0 && (decide (key = ⟨#[]⟩) && (decide (field = ⟨#[]⟩) && (decide (text = ⟨#[]⟩) && n == 0))))) then 0 else 8)
  else if okNumber client then (if okNumber seq then checkCommand k key field text n else 2) else 2
theorem checkCall_c (client seq k : Int) (key field text : ByteArray) (n : Int) : PCall Try.prog G 56 [.agg [iC client, iC seq, iC k, sC key, sC field, sC text, iC n]] (iV (checkCall client seq k key field text n)) := by
  refine pcallc mixed Try.func56 ac_client_CheckCall ?_
  repeat' (first | (with_reducible first | refine Cn (fun h => ?_) fun h => ?_ | refine And.intro ?_ ?_ | refine wR ?_ | exact wr _ _ | refine wa ?_ | apply awp_join | refine q (number_c _) ?_ | refine qd (number_c _) ?_ | refine qz (number_c _) ?_ | refine q (check_c _ _ _ _ _) ?_ | refine qd (check_c _ _ _ _ _) ?_ | refine qz (check_c _ _ _ _ _) ?_) | (with_reducible refine CallZ.z ?_) | simp -dsimp [go_sem])
  all_goals simp_all [checkCall]
  all_goals (intros; simp_all)
theorem checkCall_one {k : Int} {a b c : ByteArray} {x : Int} (q : Int) (h : checkCommand k a b c x = 0) : checkCall 1 q k a b c x = if okNumber q then 0 else 2 := by
  simp [checkCall, h, show okNumber 1 = true from rfl]
theorem checkCall_neg {k : Int} {a b c : ByteArray} {x q w : Int} (h : w < 0) : checkCall w q k a b c x = 2 := by
  have h1 : okNumber w = false := by simp only [okNumber, Bool.and_eq_false_iff, decide_eq_false_iff_not]; omega
  have h2 : w ≠ 0 := by omega
  simp [checkCall, h1, h2]
theorem cmd_ok (kind key field n : Int) (text : ByteArray) (h4 : i64 n) : ∀ k a b c m, cmdOf (1 + pk kind 22) key field n text = [iC k, sC a, sC b, sC c, iC m] → checkCommand k a b c m = 0 := by
  intro k a b c m h
  have hr := pk_range (n := kind) (m := 22) (by omega)
  have h60 := pk_range (n := n) (m := 60) (by omega)
  have h12 := pk_range (n := n) (m := 12) (by omega)
  have hs : ∀ x, okField (someS x) = true := fun x => rfl
  have hst : ∀ x, okText (someS x) = true := fun x => rfl
  have hc : okText (cmdText n text) = true := by
    unfold cmdText
    split
    · rfl
    · have := cutS_size text (n := 6) (by omega)
      simp only [okText, decide_eq_true_eq]
      omega
  have he : okText ⟨#[]⟩ = true := rfl
  have hn : okCount (n.tmod 1073741824) = true := by
    have h1 := Int.tmod_lt_of_pos n (b := 1073741824) (by omega)
    have h2 : -1073741824 < n.tmod 1073741824 := by
      rcases Int.le_total 0 n with h | h
      · have := Int.tmod_nonneg 1073741824 h; omega
      · have h3 := Int.tmod_lt_of_pos (-n) (b := 1073741824) (by omega)
        rw [Int.neg_tmod] at h3
        omega
    simp only [okCount, Bool.and_eq_true, decide_eq_true_eq]
    omega
  have hn0 : okCount 0 = true := rfl
  have hn1 : okCount (pk n 60) = true := by simp only [okCount, Bool.and_eq_true, decide_eq_true_eq]; omega
  have hn2 : okCount (pk n 12 - 6) = true := by simp only [okCount, Bool.and_eq_true, decide_eq_true_eq]; omega
  simp only [cmdOf, List.cons.injEq, C.v.injEq, V.lit.injEq, Value.int.injEq, Value.string.injEq, and_true, true_and] at h
  obtain ⟨rfl, rfl, rfl, rfl, rfl⟩ := h
  have hk : pk kind 22 = 0 ∨ pk kind 22 = 1 ∨ pk kind 22 = 2 ∨ pk kind 22 = 3 ∨ pk kind 22 = 4 ∨ pk kind 22 = 5 ∨ pk kind 22 = 6 ∨ pk kind 22 = 7 ∨ pk kind 22 = 8 ∨ pk kind 22 = 9 ∨ pk kind 22 = 10 ∨ pk kind 22 = 11 ∨ pk kind 22 = 12 ∨ pk kind 22 = 13 ∨ pk kind 22 = 14 ∨ pk kind 22 = 15 ∨ pk kind 22 = 16 ∨ pk kind 22 = 17 ∨ pk kind 22 = 18 ∨ pk kind 22 = 19 ∨ pk kind 22 = 20 ∨ pk kind 22 = 21 := by omega
  rcases hk with hk | hk | hk | hk | hk | hk | hk | hk | hk | hk | hk | hk | hk | hk | hk | hk | hk | hk | hk | hk | hk | hk
  all_goals simp [hk, checkCommand, formOk, hs, hst, hc, he, hn, hn0, hn1, hn2]
theorem nodup_le {α : Type} [DecidableEq α] : ∀ (l m : List α), l.Pairwise (· ≠ ·) → (∀ x ∈ l, x ∈ m) → l.length ≤ m.length
  | [], m, _, _ => Nat.zero_le _
  | x :: l, m, h, hm => by
    obtain ⟨h1, h2⟩ := List.pairwise_cons.1 h
    have hx := hm x (List.mem_cons_self ..)
    have := nodup_le l (m.erase x) h2 fun y hy => (List.mem_erase_of_ne fun e => h1 y hy e.symm).2 (hm y (List.mem_cons_of_mem _ hy))
    have hl := List.length_erase_of_mem hx
    have hp := List.length_pos_of_mem hx
    simp only [List.length_cons]; omega
def nine : List ByteArray := (List.range 9).map fun i => ⟨#[UInt8.ofNat (97 + i)]⟩
theorem some_nine (n : Int) : someS n ∈ nine := by
  have hp := pk_range (n := n) (m := 9) (by omega)
  unfold someS nine
  refine List.mem_map.2 ⟨(pk n 9).toNat, List.mem_range.2 (by omega), ?_⟩
  rw [show (97 + pk n 9).toNat = 97 + (pk n 9).toNat by omega]
end Go.Proofs.Ytpdcfljbabpakaa

/- What is given from outside, by its type. -/
set_option linter.unusedVariables false
set_option linter.unusedSimpArgs false
set_option maxRecDepth 100000
set_option maxHeartbeats 8000000
namespace Go.Proofs.Ytpdcfljbabpakaa
open Go Go.RowKit Go.Proofs.AE
theorem wf_i64 {n : Int} (h : (Lit.int .i64 n).wf = true) : i64 n := by
  rw [Lit.wf] at h
  simp only [Bool.and_eq_true, decide_eq_true_eq] at h
  exact h
theorem raw_wt {vs : List V} (h : WT Try.prog 3 59 vs) : ∃ (kind key field n : Int) (text : ByteArray), vs = [.lit (.int .i64 kind), .lit (.int .i64 key), .lit (.int .i64 field), .lit (.int .i64 n), .lit (.string text)] ∧
    i64 kind ∧ i64 key ∧ i64 field ∧ i64 n ∧ text.size ≤ maxLen := by
  simp [WT, ti59, ti3, ti9] at h
  obtain ⟨hl, ⟨a, ha, wa⟩, ⟨b, hb, wb⟩, ⟨c, hc, wc⟩, ⟨d, hd, wd⟩, ⟨s, he, we⟩⟩ := h
  match vs, hl with
  | [v0, v1, v2, v3, v4], _ =>
    simp at ha hb hc hd he
    subst ha hb hc hd he
    exact ⟨a, b, c, d, s, rfl, wf_i64 wa, wf_i64 wb, wf_i64 wc, wf_i64 wd, we⟩
theorem deed_wt {vs : List V} (h : WT Try.prog 4 61 vs) : ∃ (client off wait kind key field n : Int) (text : ByteArray), vs = [.lit (.int .i64 client), .lit (.int .i64 off), .lit (.int .i64 wait), .lit (.int .i64 kind), .lit (.int .i64 key), .lit (.int .i64 field), .lit (.int .i64 n), .lit (.string text)] ∧
    i64 client ∧ i64 off ∧ i64 wait ∧ i64 kind ∧ i64 key ∧ i64 field ∧ i64 n ∧ text.size ≤ maxLen := by
  obtain ⟨hl, hf⟩ := WT_struct ti61 rfl h
  obtain ⟨j0, e0, r0⟩ := hf (3, 0) (by simp)
  obtain ⟨j1, e1, r1⟩ := hf (3, 1) (by simp)
  obtain ⟨j2, e2, r2⟩ := hf (3, 2) (by simp)
  obtain ⟨j3, e3, r3⟩ := hf (59, 3) (by simp)
  rw [ti3] at e0 e1 e2
  rw [ti59] at e3
  cases e0; cases e1; cases e2; cases e3
  obtain ⟨a, b, c, d, s, q, k1, k2, k3, k4, k5⟩ := raw_wt r3
  simp [WT, ti3] at r0 r1 r2
  obtain ⟨x, hx, wx⟩ := r0
  obtain ⟨y, hy, wy⟩ := r1
  obtain ⟨z, hz, wz⟩ := r2
  match vs, hl with
  | [v0, v1, v2, v3, v4, v5, v6, v7], _ =>
    simp at hx hy hz q
    obtain ⟨rfl, rfl, rfl, rfl, rfl⟩ := q
    subst hx hy hz
    exact ⟨x, y, z, a, b, c, d, s, rfl, wf_i64 wx, wf_i64 wy, wf_i64 wz, k1, k2, k3, k4, k5⟩
structure Deed where
  client : Int
  off : Int
  wait : Int
  kind : Int
  key : Int
  field : Int
  n : Int
  text : ByteArray
abbrev iL (n : Int) : V := .lit (.int .i64 n)
abbrev sL (s : ByteArray) : V := .lit (.string s)
def Deed.row (d : Deed) : List V := [iL d.client, iL d.off, iL d.wait, iL d.kind, iL d.key, iL d.field, iL d.n, sL d.text]
structure Deed.Ok (d : Deed) : Prop where
  client : i64 d.client
  off : i64 d.off
  wait : i64 d.wait
  kind : i64 d.kind
  key : i64 d.key
  field : i64 d.field
  n : i64 d.n
theorem deeds_of : ∀ (rows : List (List V)), (∀ r ∈ rows, WT Try.prog 4 61 r) → ∃ ds : List Deed, rows = ds.map Deed.row ∧ ∀ d ∈ ds, d.Ok
  | [], _ => ⟨[], rfl, fun d h => by cases h⟩
  | r :: rows, h => by
    obtain ⟨ds, h1, h2⟩ := deeds_of rows fun r hr => h r (List.mem_cons_of_mem _ hr)
    obtain ⟨client, off, wait, kind, key, field, n, text, rfl, a, b, c, d, e, f, g, _⟩ := deed_wt (h r (List.mem_cons_self ..))
    refine ⟨⟨client, off, wait, kind, key, field, n, text⟩ :: ds, by rw [h1]; rfl, fun x hx => ?_⟩
    rcases List.mem_cons.1 hx with rfl | hx
    · exact ⟨a, b, c, d, e, f, g⟩
    · exact h2 x hx
end Go.Proofs.Ytpdcfljbabpakaa

/- That Do leaves a value that may be, or nothing; and what the keep's helpers answer. -/
set_option linter.unusedVariables false
set_option linter.unusedSimpArgs false
set_option maxRecDepth 100000
set_option maxHeartbeats 8000000
namespace Go.Proofs.Ytpdcfljbabpakaa
open Go Go.RowKit Go.Proofs.AE
variable {G : Nat → AV}
theorem DoEnd_vk {v : Val} {q : Val × Rep} (hv : Vk v) (hq : q.2.code = 0 → OkB q.1) : (DoEnd v q).2.2 = 0 ∧ Vk (DoEnd v q).1 := by
  unfold DoEnd
  by_cases h : q.2.code ≠ 0
  · rw [if_pos h]; exact ⟨rfl, hv⟩
  · rw [if_neg h]
    have h0 : q.2.code = 0 := Classical.not_not.1 h
    by_cases h2 : 3 ≤ q.1.kind ∧ q.1.els = 0
    · rw [if_pos h2]; exact ⟨rfl, .inr rfl⟩
    · rw [if_neg h2]; exact ⟨rfl, .inl ((hq h0).ok h2)⟩
theorem kindOf_zero {k : Int} (h1 : 1 ≤ k) (h2 : k ≤ 16) (h : k ≠ 1) : kindOfC k ≠ 0 := by
  unfold kindOfC
  repeat' split
  all_goals omega
theorem DoV_vk {v : Val} {c : Cmd} (h : Vk v) (hc : checkC c = 0) (hk : c.kind ≤ 18) : (DoV v c).2.2 = 0 ∧ Vk (DoV v c).1 := by
  have hk1 := checkC_kind hc
  rcases h with h | h
  · have hv := checkV_iff.2 h
    by_cases hm : (kindOfC c.kind ≠ 0 ∧ kindOfC c.kind ≠ v.kind) ∨ (17 ≤ c.kind ∧ v.kind < 3)
    · rw [DoV_type hv hc hk hm]; exact ⟨rfl, .inl h⟩
    · rw [DoV_go hv hc hk hm]
      refine DoEnd_vk (.inl h) fun h0 => ?_
      by_cases h17 : 17 ≤ c.kind
      · have hk2 : c.kind = 17 ∨ c.kind = 18 := by omega
        rcases hk2 with e | e <;> (unfold doV; simp [e]; exact h.b)
      · refine doV_ok h.b hc (by omega) ?_ h0
        by_cases e : c.kind = 1
        · exact .inl e
        · have := kindOf_zero hk1 (by omega) e
          refine .inr ?_
          simp only [not_or, not_and, Classical.not_not] at hm
          exact hm.1 this
  · subst h
    rw [DoV_zero hc hk]
    cases hmk : makesC c.kind with
    | false => exact ⟨rfl, .inr rfl⟩
    | true =>
      simp only [if_true]
      have hk2 : c.kind ≤ 14 := by
        unfold makesC at hmk
        simp at hmk
        omega
      refine DoEnd_vk (.inr rfl) fun h0 => ?_
      by_cases e : c.kind = 1
      · have hd : doV ⟨kindOfC c.kind, ⟨#[]⟩, 0, [], [], []⟩ c = doV ⟨1, ⟨#[]⟩, 0, [], [], []⟩ c := by unfold doV; rw [if_pos e, if_pos e]
        rw [hd] at h0 ⊢
        exact doV_ok (fresh_b (by omega) (by omega)) hc (by omega) (.inl e) h0
      · have hne := kindOf_zero hk1 (by omega) e
        have hr : 1 ≤ kindOfC c.kind ∧ kindOfC c.kind ≤ 6 := by
          unfold kindOfC at hne ⊢
          repeat' split
          all_goals simp_all
        exact doV_ok (fresh_b hr.1 hr.2) hc (by omega) (.inr rfl) h0
/-! ### the keep's helpers -/
structure Raw where
  kind : Int
  key : Int
  field : Int
  n : Int
  text : ByteArray
def Raw.row (r : Raw) : List V := [.lit (.int .i64 r.kind), .lit (.int .i64 r.key), .lit (.int .i64 r.field), .lit (.int .i64 r.n), .lit (.string r.text)]
structure Raw.Ok (r : Raw) : Prop where
  kind : i64 r.kind
  key : i64 r.key
  field : i64 r.field
  n : i64 r.n
def cmdK (k : Int) (r : Raw) : Cmd :=
  ⟨k, if k = 22 then ⟨#[]⟩ else someS r.key, if k = 4 ∨ k = 5 ∨ k = 6 then someS r.field else ⟨#[]⟩,
   if k = 1 ∨ k = 4 ∨ k = 7 ∨ k = 8 ∨ k = 11 ∨ k = 12 ∨ k = 13 ∨ k = 14 ∨ k = 15 ∨ k = 16 then cmdText r.n r.text else ⟨#[]⟩,
   if k = 3 then r.n.tmod 1073741824 else if k = 20 then pk r.n 60 else if k = 14 then pk r.n 12 - 6 else 0⟩
def cmdR (r : Raw) : Cmd := cmdK (1 + pk r.kind 22) r
theorem cmdR_ok {r : Raw} (h : r.Ok) : checkC (cmdR r) = 0 := cmd_ok r.kind r.key r.field r.n r.text h.n _ _ _ _ _ rfl
theorem cmdR_kind (r : Raw) : 1 ≤ (cmdR r).kind ∧ (cmdR r).kind ≤ 22 := by
  have := pk_range (n := r.kind) (m := 22) (by omega)
  show 1 ≤ 1 + pk r.kind 22 ∧ 1 + pk r.kind 22 ≤ 22
  omega
theorem commandR_c (r : Raw) (h : r.Ok) : PCall Try.prog G 42 [.agg [iC r.kind, iC r.key, iC r.field, iC r.n, sC r.text]] (.agg (cmdR r).c) := command_c r.kind r.key r.field r.n r.text h.kind h.key h.field h.n
def makerK (kind : Int) : Int := if pk kind 6 = 0 then 1 else if pk kind 6 = 1 then 3 else if pk kind 6 = 2 then 4 else if pk kind 6 = 3 then 7 else if pk kind 6 = 4 then 11 else 14
def makerR (kind : Int) (r : Raw) : Raw := { r with kind := makerK kind - 1 }
def maker (kind : Int) (r : Raw) : Cmd := cmdR (makerR kind r)
theorem makerK_mem (kind : Int) : makerK kind = 1 ∨ makerK kind = 3 ∨ makerK kind = 4 ∨ makerK kind = 7 ∨ makerK kind = 11 ∨ makerK kind = 14 := by
  unfold makerK
  repeat' split
  all_goals omega
theorem pk_small {k m : Int} (h0 : 0 ≤ k) (h1 : k < m) : pk k m = k := by
  unfold pk
  rw [if_neg (by omega), Int.tmod_eq_emod_of_nonneg h0, Int.emod_eq_of_lt h0 h1]
theorem makerR_ok {kind : Int} {r : Raw} (h : r.Ok) : (makerR kind r).Ok := by
  have := makerK_mem kind
  refine ⟨?_, h.key, h.field, h.n⟩
  show i64 (makerK kind - 1)
  unfold i64; omega
theorem maker_eq (kind : Int) (r : Raw) : maker kind r = cmdK (makerK kind) r := by
  unfold maker cmdR
  have := makerK_mem kind
  rw [show pk (makerR kind r).kind 22 = makerK kind - 1 from pk_small (by show 0 ≤ makerK kind - 1; omega) (by show makerK kind - 1 < 22; omega), show 1 + (makerK kind - 1) = makerK kind by omega]
  rfl
def stepV (v : Val) (c : Cmd) : Val := if (DoV v c).2.2 = 0 then (DoV v c).1 else v
def valueV (kind : Int) (l : List Raw) : Val := (l.take 24).foldl (fun v r => stepV v (maker kind r)) zeroV
theorem maker_ok (kind : Int) {r : Raw} (h : r.Ok) : checkC (maker kind r) = 0 ∧ (maker kind r).kind = makerK kind := by
  refine ⟨cmdR_ok (makerR_ok h), ?_⟩
  rw [maker_eq]; rfl
theorem step_vk {v : Val} {c : Cmd} (h : Vk v) (hc : checkC c = 0) (hk : c.kind ≤ 18) : Vk (stepV v c) ∧ stepV v c = (DoV v c).1 := by
  obtain ⟨h1, h2⟩ := DoV_vk h hc hk
  unfold stepV
  rw [if_pos h1]
  exact ⟨h2, rfl⟩
theorem fold_vk (kind : Int) : ∀ (l : List Raw) (v : Val), (∀ r ∈ l, r.Ok) → Vk v → Vk (l.foldl (fun v r => stepV v (maker kind r)) v)
  | [], v, _, h => h
  | r :: l, v, hl, h => by
    have hm := makerK_mem kind
    obtain ⟨m1, m2⟩ := maker_ok kind (hl r (List.mem_cons_self ..))
    exact fold_vk kind l _ (fun x hx => hl x (List.mem_cons_of_mem _ hx)) (step_vk h m1 (by omega)).1
theorem valueV_vk (kind : Int) (l : List Raw) (hl : ∀ r ∈ l, r.Ok) : Vk (valueV kind l) := fold_vk kind _ _ (fun r hr => hl r (List.mem_of_mem_take hr)) (.inr rfl)
end Go.Proofs.Ytpdcfljbabpakaa

/- What the keep's comparisons answer. -/
set_option linter.unusedVariables false
set_option linter.unusedSimpArgs false
set_option maxRecDepth 100000
set_option maxHeartbeats 8000000
namespace Go.Proofs.Ytpdcfljbabpakaa
open Go Go.RowKit Go.Proofs.AE
variable {G : Nat → AV}
instance : DecidableEq Val := fun a b => decidable_of_iff (a.kind = b.kind ∧ a.text = b.text ∧ a.count = b.count ∧ a.pairs = b.pairs ∧ a.items = b.items ∧ a.scores = b.scores) (by
  cases a; cases b; simp)
theorem take_same {α : Type} {a b : List α} {i : Nat} {x y : α} (h : a.take i = b.take i) (ha : a[i]? = some x) (hb : b[i]? = some y) (e : x = y) : a.take (i + 1) = b.take (i + 1) := by
  rw [List.take_add_one, List.take_add_one, h, ha, hb, e]
end Go.Proofs.Ytpdcfljbabpakaa

/- The store layer: its model; what checking and copying a store answer. -/
set_option linter.unusedVariables false
set_option linter.unusedSimpArgs false
set_option maxRecDepth 100000
set_option maxHeartbeats 8000000
namespace Go.Proofs.Ytpdcfljbabpakaa
open Go Go.RowKit Go.Proofs.AE
variable {G : Nat → AV}
structure Ent where
  key : ByteArray
  val : Val
  till : Int
structure Sto where
  now : Int
  ents : List Ent
def Val.v (v : Val) : List V := [.lit (.int .i64 v.kind), .lit (.string v.text), .lit (.int .i64 v.count), .sl (pR v.pairs), .sl (strRows v.items), .sl (sR v.scores)]
def Ent.row (e : Ent) : List V := [.lit (.string e.key), .lit (.int .i64 e.val.kind), .lit (.string e.val.text), .lit (.int .i64 e.val.count), .sl (pR e.val.pairs), .sl (strRows e.val.items), .sl (sR e.val.scores), .lit (.int .i64 e.till)]
def Ent.c (e : Ent) : List C := [sC e.key, iC e.val.kind, sC e.val.text, iC e.val.count, .v (.sl (pR e.val.pairs)), .v (.sl (strRows e.val.items)), .v (.sl (sR e.val.scores)), iC e.till]
abbrev eR (l : List Ent) : List (List V) := l.map Ent.row
def Sto.c (s : Sto) : List C := [iC s.now, .v (.sl (eR s.ents))]
theorem ul_e (l : List Ent) : UL 8 (eR l) := by
  intro r hr
  obtain ⟨y, _, rfl⟩ := List.mem_map.1 hr
  rfl
def Sto.Small (s : Sto) : Prop := s.ents.length ≤ 1000 ∧ ∀ e ∈ s.ents, e.val.Small
/-- One entry, as it stands by itself. -/
def entBad (now : Int) (e : Ent) : Bool := !okField e.key || checkV e.val != 0 || (e.till != 0 && (decide (e.till ≤ now) || decide (1073741824 < e.till)))
def bE (a b : Ent) : Int := cmpB a.key b.key
def checkS (s : Sto) : Int :=
  if s.now < 0 ∨ 1073741824 < s.now ∨ 12 < s.ents.length then 13
  else if s.ents.any (entBad s.now) = true then 13
  else if rising bE s.ents = true then 0 else 13
/-! ### what is done with a key -/
def goneE (now : Int) (e : Ent) : Bool := e.till != 0 && decide (e.till ≤ now)
def findE (l : List Ent) (k : ByteArray) : Nat := plc (fun e => decide (cmpB e.key k < 0)) l
def inE (l : List Ent) (k : ByteArray) : Bool := match l[findE l k]? with | some e => cmpB e.key k == 0 | none => false
def setE (l : List Ent) (c : Cmd) (v : Val) : List Ent :=
  match (if inE l c.key then l[findE l c.key]? else none) with
  | some e => l.set (findE l c.key) ⟨e.key, v, if c.kind = 1 then 0 else e.till⟩
  | none => insAt l (findE l c.key) ⟨c.key, v, 0⟩
def timedE (now : Int) (l : List Ent) (c : Cmd) : List Ent × Rep :=
  match (if inE l c.key then l[findE l c.key]? else none) with
  | none => (l, failR 5)
  | some e =>
    if c.kind = 21 then (l, toldR (if e.till - now < 0 then 0 else e.till - now))
    else if c.n < 1 ∨ 1073741824 - now < c.n then (l, failR 2)
    else (l.set (findE l c.key) ⟨e.key, e.val, now + c.n⟩, toldR 0)
def oldV (l : List Ent) (c : Cmd) : Val := match (if inE l c.key then l[findE l c.key]? else none) with | some e => e.val | none => zeroV
def valE (l : List Ent) (c : Cmd) : List Ent × Rep :=
  if (DoV (oldV l c) c).2.1.code ≠ 0 then (l, (DoV (oldV l c) c).2.1)
  else if (DoV (oldV l c) c).1.kind = 0 ∧ inE l c.key = true then (delAt l (findE l c.key), (DoV (oldV l c) c).2.1)
  else if inE l c.key = false ∧ l.length = 12 then (l, failR 6)
  else if (DoV (oldV l c) c).1.kind ≠ 0 then (setE l c (DoV (oldV l c) c).1, (DoV (oldV l c) c).2.1)
  else (l, (DoV (oldV l c) c).2.1)
def doE (now : Int) (l : List Ent) (c : Cmd) : List Ent × Rep :=
  if c.kind = 22 then (l, ⟨0, ⟨#[]⟩, 0, l.map Ent.key⟩)
  else if c.kind = 19 then (if inE l c.key then (delAt l (findE l c.key), toldR 1) else (l, toldR 0))
  else if c.kind = 20 ∨ c.kind = 21 then timedE now l c
  else valE l c
def zeroS : Sto := ⟨0, []⟩
def maxI (a b : Int) : Int := if b < a then a else b
def ApplyS (s : Sto) (time : Int) (c : Cmd) : Sto × Rep × Int :=
  if checkS s ≠ 0 then (zeroS, toldR 0, checkS s)
  else if time < 0 ∨ 1073741824 < time then (zeroS, toldR 0, 2)
  else if checkC c ≠ 0 then (zeroS, toldR 0, checkC c)
  else (⟨maxI s.now time, (doE (maxI s.now time) (s.ents.filter fun e => !goneE (maxI s.now time) e) c).1⟩, (doE (maxI s.now time) (s.ents.filter fun e => !goneE (maxI s.now time) e) c).2, 0)
/-! ### a store that may be -/
structure OkE (now : Int) (e : Ent) : Prop where
  key : okField e.key = true
  val : OkV e.val
  till : e.till = 0 ∨ now < e.till ∧ e.till ≤ 1073741824
theorem entBad_iff {now : Int} {e : Ent} : entBad now e = false ↔ OkE now e := by
  unfold entBad
  constructor
  · intro h
    simp only [Bool.or_eq_false_iff, Bool.not_eq_false', bne_eq_false_iff_eq, Bool.and_eq_false_iff, decide_eq_false_iff_not] at h
    exact ⟨h.1.1, checkV_iff.1 h.1.2, by rcases h.2 with h | h; exact .inl h; exact .inr (by omega)⟩
  · rintro ⟨h1, h2, h3⟩
    simp only [Bool.or_eq_false_iff, Bool.not_eq_false', bne_eq_false_iff_eq, Bool.and_eq_false_iff, decide_eq_false_iff_not]
    exact ⟨⟨h1, checkV_iff.2 h2⟩, by rcases h3 with h | h; exact .inl h; exact .inr (by omega)⟩
def Rise (l : List Ent) : Prop := l.Pairwise (fun a b => cmpB a.key b.key < 0)
structure OkS (s : Sto) : Prop where
  now : 0 ≤ s.now ∧ s.now ≤ 1073741824
  len : s.ents.length ≤ 12
  all : ∀ e ∈ s.ents, OkE s.now e
  rise : Rise s.ents
theorem bE_tr : ∀ a b c : Ent, bE a b < 0 → bE b c < 0 → bE a c < 0 := fun a b c h1 h2 => cmpB_tr _ _ _ h1 h2
theorem checkS_iff {s : Sto} : checkS s = 0 ↔ OkS s := by
  unfold checkS
  constructor
  · intro h
    split at h
    · cases h
    · rename_i h1
      split at h
      · cases h
      · rename_i h2
        split at h
        · rename_i h3
          refine ⟨by omega, by omega, fun e he => entBad_iff.1 ?_, (rising_iff bE_tr).1 h3⟩
          cases hb : entBad s.now e with
          | false => rfl
          | true => exact absurd (List.any_eq_true.2 ⟨e, he, hb⟩) h2
        · cases h
  · rintro ⟨h1, h2, h3, h4⟩
    rw [if_neg (by omega), if_neg, if_pos ((rising_iff bE_tr).2 h4)]
    intro h
    obtain ⟨e, he, hb⟩ := List.any_eq_true.1 h
    rw [entBad_iff.2 (h3 e he)] at hb; cases hb
theorem OkS.small {s : Sto} (h : OkS s) : s.Small := ⟨by have := h.len; omega, fun e he => (h.all e he).val.small⟩
/-! ### keys -/
def getE (l : List Ent) (k : ByteArray) : Option Ent := l.find? fun e => decide (e.key = k)
theorem getE_none {l : List Ent} {k : ByteArray} : getE l k = none ↔ ∀ e ∈ l, e.key ≠ k := by
  unfold getE
  rw [List.find?_eq_none]
  simp
theorem key_ne {a b : ByteArray} (h : cmpB a b < 0) : a ≠ b := fun e => by
  subst e
  rw [cmpB_self] at h
  omega
theorem getE_append (a b : List Ent) (k : ByteArray) : getE (a ++ b) k = (getE a k).or (getE b k) := List.find?_append
theorem split_E {l : List Ent} {i : Nat} {x : Ent} (h : l[i]? = some x) : l = l.take i ++ x :: l.drop (i + 1) := by
  have hl := (List.getElem?_eq_some_iff.1 h).1
  have hx := (List.getElem?_eq_some_iff.1 h).2
  rw [← hx, ← List.drop_eq_getElem_cons hl, List.take_append_drop]
theorem rise_split {a b : List Ent} {x : Ent} (h : Rise (a ++ x :: b)) : getE a x.key = none ∧ getE b x.key = none := by
  obtain ⟨h1, h2, h3⟩ := List.pairwise_append.1 h
  exact ⟨getE_none.2 fun e he => key_ne (h3 e he _ (List.mem_cons_self ..)), getE_none.2 fun e he => fun e2 => key_ne ((List.pairwise_cons.1 h2).1 e he) e2.symm⟩
theorem getE_at {l : List Ent} (hr : Rise l) {i : Nat} {x : Ent} (hi : l[i]? = some x) : getE l x.key = some x := by
  have hs := split_E hi
  rw [hs] at hr ⊢
  obtain ⟨h1, h2⟩ := rise_split hr
  rw [getE_append, h1]
  simp [getE]
theorem inE_some {l : List Ent} {k : ByteArray} (h : inE l k = true) : ∃ e, l[findE l k]? = some e ∧ e.key = k := by
  unfold inE at h
  cases hx : l[findE l k]? with
  | none => rw [hx] at h; cases h
  | some a => rw [hx] at h; exact ⟨a, rfl, cmpB_eq (by simpa using h)⟩
theorem findE_lt {l : List Ent} {k : ByteArray} : ∀ a ∈ l.take (findE l k), cmpB a.key k < 0 := fun a ha => by
  simpa using take_lt (fun e : Ent => decide (cmpB e.key k < 0)) l a ha
theorem findE_ge {l : List Ent} (hr : Rise l) {k : ByteArray} : ∀ (j : Nat) a, l[j]? = some a → findE l k ≤ j → 0 ≤ cmpB a.key k := fun j a h1 h2 => by
  have := plc_ge (cmp := bE) (fun e : Ent => decide (cmpB e.key k < 0)) bE_tr (fun a b h1 h2 => by
    simp only [decide_eq_true_eq] at h2 ⊢
    exact cmpB_tr _ _ _ h1 h2) l ((rising_iff bE_tr).2 hr) j a h1 h2
  simpa using this
theorem findE_le (l : List Ent) (k : ByteArray) : findE l k ≤ l.length := plc_le _ _
theorem findE_drop {l : List Ent} (hr : Rise l) {k : ByteArray} (h : inE l k = false) : ∀ b ∈ l.drop (findE l k), cmpB k b.key < 0 := by
  intro b hb
  obtain ⟨j, hj, hbj⟩ := mem_drop_get hb
  have hge := findE_ge hr j b hbj hj
  have hne : cmpB b.key k ≠ 0 := by
    intro e
    rcases Nat.lt_or_ge (findE l k) j with hlt | hge'
    · have hlen := lt_of_getElem? hbj
      have ha : l[findE l k]? = some l[findE l k] := List.getElem?_eq_getElem (by omega)
      have h1 := findE_ge hr _ _ ha (Nat.le_refl _)
      have h2 : cmpB l[findE l k].key l[j].key < 0 := List.pairwise_iff_getElem.1 hr _ _ (by omega) hlen hlt
      rw [List.getElem?_eq_getElem hlen] at hbj
      have hb' : l[j] = b := Option.some.inj hbj
      rw [hb'] at h2
      have h3 := cmpB_eq e
      rw [h3] at h2; omega
    · have : j = findE l k := by omega
      subst this
      unfold inE at h
      rw [hbj] at h
      simp at h
      exact h e
  rw [cmpB_anti]; omega
/-- Whether a key is there, and what stands there. -/
theorem inE_get {l : List Ent} (hr : Rise l) (k : ByteArray) : inE l k = (getE l k).isSome ∧ (if inE l k then l[findE l k]? else none) = getE l k := by
  cases h : inE l k with
  | true =>
    obtain ⟨e, h1, h2⟩ := inE_some h
    have := getE_at hr h1
    rw [h2] at this
    rw [this]
    exact ⟨rfl, h1⟩
  | false =>
    have h1 := findE_drop hr h
    have h2 := findE_lt (l := l) (k := k)
    have : getE l k = none := getE_none.2 fun e he => by
      have hm : e ∈ l.take (findE l k) ++ l.drop (findE l k) := by rw [List.take_append_drop]; exact he
      rcases List.mem_append.1 hm with hm | hm
      · exact key_ne (h2 e hm)
      · exact fun e2 => key_ne (h1 e hm) e2.symm
    rw [this]
    exact ⟨rfl, rfl⟩
theorem getE_mem {l : List Ent} {k : ByteArray} {e : Ent} (h : getE l k = some e) : e ∈ l ∧ e.key = k := by
  unfold getE at h
  exact ⟨List.mem_of_find?_eq_some h, by simpa using List.find?_some h⟩
theorem getE_ins {l : List Ent} (hr : Rise l) {x : Ent} (h : inE l x.key = false) : (∀ k, getE (insAt l (findE l x.key) x) k = if k = x.key then some x else getE l k) ∧ Rise (insAt l (findE l x.key) x) := by
  have hl : getE l x.key = none := by have := (inE_get hr x.key).1; rw [h] at this; cases hg : getE l x.key with | none => rfl | some => rw [hg] at this; cases this
  refine ⟨fun k => ?_, ?_⟩
  · have hg : getE l k = (getE (l.take (findE l x.key)) k).or (getE (l.drop (findE l x.key)) k) := by rw [← getE_append, List.take_append_drop]
    unfold insAt
    rw [getE_append]
    by_cases hk : k = x.key
    · subst hk
      have : getE (l.take (findE l x.key)) x.key = none := getE_none.2 fun e he => key_ne (findE_lt e he)
      rw [this]
      simp [getE]
    · have : getE (x :: l.drop (findE l x.key)) k = getE (l.drop (findE l x.key)) k := by
        unfold getE
        rw [List.find?_cons_of_neg]
        simpa using fun e => hk e.symm
      rw [this, if_neg hk, hg]
  · exact pair_ins hr (fun a ha => findE_lt a ha) (fun b hb => findE_drop hr h b hb)
theorem getE_set {l : List Ent} (hr : Rise l) {i : Nat} {x y : Ent} (hi : l[i]? = some x) (hk : y.key = x.key) : (∀ k, getE (l.set i y) k = if k = x.key then some y else getE l k) ∧ Rise (l.set i y) := by
  have hs := split_E hi
  have hlt := (List.getElem?_eq_some_iff.1 hi).1
  have hr' := hr
  rw [hs] at hr'
  obtain ⟨h1, h2⟩ := rise_split hr'
  have hset : l.set i y = l.take i ++ y :: l.drop (i + 1) := by rw [List.set_eq_take_append_cons_drop, if_pos hlt]
  refine ⟨fun k => ?_, ?_⟩
  · have hg : getE l k = (getE (l.take i) k).or (getE (x :: l.drop (i + 1)) k) := by rw [← getE_append, ← hs]
    rw [hset, getE_append, hg]
    by_cases h : k = x.key
    · subst h; rw [h1, if_pos rfl]; simp [getE, hk]
    · rw [if_neg h]
      congr 1
      unfold getE
      rw [List.find?_cons_of_neg, List.find?_cons_of_neg]
      · simpa using fun e => h e.symm
      · rw [hk]; simpa using fun e => h e.symm
  · rw [hset]
    obtain ⟨a1, a2, a3⟩ := List.pairwise_append.1 hr'
    obtain ⟨b1, b2⟩ := List.pairwise_cons.1 a2
    refine List.pairwise_append.2 ⟨a1, List.pairwise_cons.2 ⟨fun e he => by rw [hk]; exact b1 e he, b2⟩, fun e he f hf => ?_⟩
    rcases List.mem_cons.1 hf with rfl | hf
    · rw [hk]; exact a3 e he x (List.mem_cons_self ..)
    · exact a3 e he f (List.mem_cons_of_mem _ hf)
theorem getE_del {l : List Ent} (hr : Rise l) {i : Nat} {x : Ent} (hi : l[i]? = some x) : (∀ k, getE (delAt l i) k = if k = x.key then none else getE l k) ∧ Rise (delAt l i) := by
  have hs := split_E hi
  have hr' := hr
  rw [hs] at hr'
  obtain ⟨h1, h2⟩ := rise_split hr'
  refine ⟨fun k => ?_, hr.sublist (del_sub l i)⟩
  have hg : getE l k = (getE (l.take i) k).or (getE (x :: l.drop (i + 1)) k) := by rw [← getE_append, ← hs]
  unfold delAt
  rw [getE_append, hg]
  by_cases h : k = x.key
  · subst h; rw [h1, h2, if_pos rfl]; rfl
  · rw [if_neg h]
    congr 1
    unfold getE
    rw [List.find?_cons_of_neg]
    simpa using fun e => h e.symm
theorem vk_there {v : Val} (h : Vk v) (hk : v.kind ≠ 0) : OkV v := by
  rcases h with h | h
  · exact h
  · rw [h] at hk; exact absurd rfl hk
theorem checkC_key {c : Cmd} (hc : checkC c = 0) (hk : c.kind ≠ 22) : okField c.key = true := by
  cases hk' : okField c.key with
  | true => rfl
  | false =>
    exfalso
    have h22 : (c.kind != 22) = true := by simpa using hk
    unfold checkC checkCommand at hc
    rw [hk', h22] at hc
    repeat' split at hc
    all_goals first | (cases hc; done) | (simp at *; done)
theorem mem_getE {l : List Ent} (hr : Rise l) {e : Ent} (h : e ∈ l) : getE l e.key = some e := by
  obtain ⟨i, hi, rfl⟩ := List.getElem_of_mem h
  exact getE_at hr (List.getElem?_eq_getElem hi)
theorem insAt_len {α : Type} (l : List α) (i : Nat) (x : α) : (insAt l i x).length = l.length + 1 := insAt_length l i x
theorem delE_len {α : Type} {l : List α} {i : Nat} (h : i < l.length) : (delAt l i).length + 1 = l.length := by
  unfold delAt
  simp only [List.length_append, List.length_take, List.length_drop]; omega
/-- What a command's value becomes, at its key. -/
def putE (l : List Ent) (c : Cmd) (v : Val) : Ent := ⟨c.key, v, match getE l c.key with | some e => if c.kind = 1 then 0 else e.till | none => 0⟩
theorem setE_spec {l : List Ent} (hr : Rise l) (c : Cmd) (v : Val) :
    (∀ k, getE (setE l c v) k = if k = c.key then some (putE l c v) else getE l k) ∧ Rise (setE l c v) ∧ (setE l c v).length = if (getE l c.key).isSome = true then l.length else l.length + 1 := by
  obtain ⟨h1, h2⟩ := inE_get hr c.key
  unfold setE putE
  cases h : inE l c.key with
  | true =>
    obtain ⟨e, h3, h4⟩ := inE_some h
    have hg := getE_at hr h3
    rw [h4] at hg
    rw [if_pos rfl, h3, hg]
    simp only
    obtain ⟨g1, g2⟩ := getE_set hr (y := ⟨e.key, v, if c.kind = 1 then 0 else e.till⟩) h3 rfl
    refine ⟨fun k => ?_, g2, by simp⟩
    rw [g1, h4]
  | false =>
    rw [h] at h1
    have hg : getE l c.key = none := by cases hg : getE l c.key with | none => rfl | some => rw [hg] at h1; cases h1
    rw [hg]
    simp only [Bool.false_eq_true, if_false]
    obtain ⟨g1, g2⟩ := getE_ins hr (x := ⟨c.key, v, 0⟩) h
    exact ⟨g1, g2, by rw [insAt_len]; rfl⟩
theorem oldV_get {l : List Ent} (hr : Rise l) (c : Cmd) : oldV l c = ((getE l c.key).map Ent.val).getD zeroV := by
  unfold oldV
  rw [(inE_get hr c.key).2]
  cases getE l c.key <;> rfl
/-- What was done with a key, and that the others stay. -/
structure Did (l : List Ent) (k : ByteArray) (x : Option Ent) (l' : List Ent) : Prop where
  rise : Rise l'
  here : getE l' k = x
  other : ∀ k', k' ≠ k → getE l' k' = getE l k'
  len : l'.length = if x.isSome = true then (if (getE l k).isSome = true then l.length else l.length + 1) else (if (getE l k).isSome = true then l.length - 1 else l.length)
theorem Did.none {l : List Ent} (hr : Rise l) (k : ByteArray) : Did l k (getE l k) l := ⟨hr, rfl, fun _ _ => rfl, by split <;> rfl⟩
theorem did_set {l : List Ent} (hr : Rise l) (c : Cmd) (v : Val) : Did l c.key (some (putE l c v)) (setE l c v) := by
  obtain ⟨h1, h2, h3⟩ := setE_spec hr c v
  exact ⟨h2, by rw [h1, if_pos rfl], fun k hk => by rw [h1, if_neg hk], h3⟩
theorem did_del {l : List Ent} (hr : Rise l) {k : ByteArray} (h : inE l k = true) : Did l k .none (delAt l (findE l k)) := by
  obtain ⟨e, h3, h4⟩ := inE_some h
  obtain ⟨g1, g2⟩ := getE_del hr h3
  have hg := getE_at hr h3
  rw [h4] at g1 hg
  refine ⟨g2, by rw [g1, if_pos rfl], fun k' hk => by rw [g1, if_neg hk], ?_⟩
  rw [hg]
  have := delE_len (lt_of_getElem? h3)
  simp
  omega
theorem did_upd {l : List Ent} (hr : Rise l) {k : ByteArray} {e : Ent} (h : getE l k = some e) (n : Int) (y : Ent) (hy : y.key = k) : Did l k (some y) (l.set (findE l k) y) := by
  have h1 := (inE_get hr k)
  rw [h] at h1
  rw [h1.1] at h1
  obtain ⟨g1, g2⟩ := getE_set hr (y := y) (i := findE l k) (x := e) (by simpa using h1.2) (by rw [hy]; exact (getE_mem h).2.symm)
  rw [(getE_mem h).2] at g1
  refine ⟨g2, by rw [g1, if_pos rfl], fun k' hk => by rw [g1, if_neg hk], ?_⟩
  rw [h]; simp
/-- The value behind a command. -/
def newV (l : List Ent) (c : Cmd) : Val := (DoV (((getE l c.key).map Ent.val).getD zeroV) c).1
def newR (l : List Ent) (c : Cmd) : Rep := (DoV (((getE l c.key).map Ent.val).getD zeroV) c).2.1
/-- What is told, and what stands at the key. -/
theorem valE_spec {l : List Ent} (hr : Rise l) (c : Cmd) :
    Did l c.key (if (newR l c).code ≠ 0 then getE l c.key else if (newV l c).kind = 0 ∧ (getE l c.key).isSome = true then .none else if (getE l c.key).isSome = false ∧ l.length = 12 then getE l c.key else if (newV l c).kind ≠ 0 then some (putE l c (newV l c)) else getE l c.key) (valE l c).1 ∧
    (valE l c).2 = if (newR l c).code ≠ 0 then newR l c else if (newV l c).kind = 0 ∧ (getE l c.key).isSome = true then newR l c else if (getE l c.key).isSome = false ∧ l.length = 12 then failR 6 else newR l c := by
  have h1 := (inE_get hr c.key).1
  unfold valE
  rw [oldV_get hr, h1]
  simp only [← h1]
  change Did _ _ _ (if (newR l c).code ≠ 0 then (l, newR l c) else if (newV l c).kind = 0 ∧ inE l c.key = true then (delAt l (findE l c.key), newR l c) else if inE l c.key = false ∧ l.length = 12 then (l, failR 6) else if (newV l c).kind ≠ 0 then (setE l c (newV l c), newR l c) else (l, newR l c)).1 ∧ (if (newR l c).code ≠ 0 then (l, newR l c) else if (newV l c).kind = 0 ∧ inE l c.key = true then (delAt l (findE l c.key), newR l c) else if inE l c.key = false ∧ l.length = 12 then (l, failR 6) else if (newV l c).kind ≠ 0 then (setE l c (newV l c), newR l c) else (l, newR l c)).2 = _
  by_cases a1 : (newR l c).code ≠ 0
  · simp only [if_pos a1]
    exact ⟨Did.none hr _, trivial⟩
  · simp only [if_neg a1]
    by_cases a2 : (newV l c).kind = 0 ∧ inE l c.key = true
    · simp only [if_pos a2]
      exact ⟨did_del hr a2.2, trivial⟩
    · simp only [if_neg a2]
      by_cases a3 : inE l c.key = false ∧ l.length = 12
      · simp only [if_pos a3]
        exact ⟨Did.none hr _, trivial⟩
      · simp only [if_neg a3]
        by_cases a4 : (newV l c).kind ≠ 0
        · simp only [if_pos a4]
          exact ⟨did_set hr c _, trivial⟩
        · simp only [if_neg a4]
          exact ⟨Did.none hr _, trivial⟩
theorem timedE_spec {l : List Ent} (hr : Rise l) (now : Int) (c : Cmd) :
    (getE l c.key = none → timedE now l c = (l, failR 5)) ∧
    ∀ e, getE l c.key = some e → (c.kind = 21 → timedE now l c = (l, toldR (if e.till - now < 0 then 0 else e.till - now))) ∧
      (c.kind ≠ 21 → (c.n < 1 ∨ 1073741824 - now < c.n) → timedE now l c = (l, failR 2)) ∧
      (c.kind ≠ 21 → ¬ (c.n < 1 ∨ 1073741824 - now < c.n) → (timedE now l c).2 = toldR 0 ∧ Did l c.key (some ⟨c.key, e.val, now + c.n⟩) (timedE now l c).1) := by
  have h1 := (inE_get hr c.key).2
  unfold timedE
  rw [h1]
  constructor
  · intro h; rw [h]
  · intro e h
    rw [h]
    simp only
    refine ⟨fun hk => by rw [if_pos hk], fun hk hn => by rw [if_neg hk, if_pos hn], fun hk hn => ?_⟩
    rw [if_neg hk, if_neg hn]
    have hke := (getE_mem h).2
    rw [hke]
    exact ⟨rfl, did_upd hr h 0 _ rfl⟩
/-- A command touches its key alone. -/
theorem doE_did {l : List Ent} (hr : Rise l) (now : Int) (c : Cmd) : ∃ x, Did l c.key x (doE now l c).1 := by
  unfold doE
  by_cases k1 : c.kind = 22
  · rw [if_pos k1]; exact ⟨_, Did.none hr _⟩
  · rw [if_neg k1]
    by_cases k2 : c.kind = 19
    · rw [if_pos k2]
      cases h : inE l c.key with
      | true => rw [if_pos rfl]; exact ⟨_, did_del hr h⟩
      | false => rw [if_neg (by simp)]; exact ⟨_, Did.none hr _⟩
    · rw [if_neg k2]
      by_cases k3 : c.kind = 20 ∨ c.kind = 21
      · rw [if_pos k3]
        obtain ⟨t1, t2⟩ := timedE_spec hr now c
        cases hg : getE l c.key with
        | none => rw [t1 hg]; exact ⟨_, Did.none hr _⟩
        | some e =>
          obtain ⟨t3, t4, t5⟩ := t2 e hg
          by_cases k4 : c.kind = 21
          · rw [t3 k4]; exact ⟨_, Did.none hr _⟩
          · by_cases k5 : c.n < 1 ∨ 1073741824 - now < c.n
            · rw [t4 k4 k5]; exact ⟨_, Did.none hr _⟩
            · exact ⟨_, (t5 k4 k5).2⟩
      · rw [if_neg k3]; exact ⟨_, (valE_spec hr c).1⟩
theorem Did.all {l l' : List Ent} {k : ByteArray} {x : Option Ent} (h : Did l k x l') (hr : Rise l) {p : Ent → Prop} (hp : ∀ e ∈ l, p e) (hx : ∀ e, x = some e → p e) : ∀ e ∈ l', p e := by
  intro e he
  have hg := mem_getE h.rise he
  by_cases hk : e.key = k
  · rw [hk, h.here] at hg; exact hx e hg
  · rw [h.other _ hk] at hg; exact hp e (getE_mem hg).1
/-- A store that may be, behind a command. -/
theorem doE_ok {now : Int} {l : List Ent} {c : Cmd} (h0 : 0 ≤ now) (hn : now ≤ 1073741824) (hr : Rise l) (ha : ∀ e ∈ l, OkE now e) (hl : l.length ≤ 12) (hc : checkC c = 0) :
    Rise (doE now l c).1 ∧ (∀ e ∈ (doE now l c).1, OkE now e) ∧ (doE now l c).1.length ≤ 12 := by
  have hkind := checkC_kind hc
  have hfacts := checkC_facts hc
  -- the key is a field's
  have keep : ∀ {x : Option Ent} {l' : List Ent}, Did l c.key x l' → (x.isSome = true → (getE l c.key).isSome = false → l.length < 12) → (∀ e, x = some e → OkE now e) → Rise l' ∧ (∀ e ∈ l', OkE now e) ∧ l'.length ≤ 12 := by
    intro x l' hd hx ho
    refine ⟨hd.rise, hd.all hr ha ho, ?_⟩
    rw [hd.len]
    by_cases a1 : x.isSome = true
    · rw [if_pos a1]
      by_cases a2 : (getE l c.key).isSome = true
      · rw [if_pos a2]; exact hl
      · rw [if_neg a2]; have := hx a1 (by simpa using a2); omega
    · rw [if_neg a1]; split <;> omega
  have hin : ∀ e, getE l c.key = some e → OkE now e := fun e he => ha e (getE_mem he).1
  unfold doE
  by_cases k1 : c.kind = 22
  · rw [if_pos k1]; exact ⟨hr, ha, hl⟩
  · have hkey := checkC_key hc k1
    rw [if_neg k1]
    by_cases k2 : c.kind = 19
    · rw [if_pos k2]
      cases h : inE l c.key with
      | true => rw [if_pos rfl]; exact keep (did_del hr h) (fun h => by cases h) (fun e h => by cases h)
      | false => rw [if_neg (by simp)]; exact ⟨hr, ha, hl⟩
    · rw [if_neg k2]
      by_cases k3 : c.kind = 20 ∨ c.kind = 21
      · rw [if_pos k3]
        obtain ⟨t1, t2⟩ := timedE_spec hr now c
        cases hg : getE l c.key with
        | none => rw [t1 hg]; exact ⟨hr, ha, hl⟩
        | some e =>
          obtain ⟨t3, t4, t5⟩ := t2 e hg
          have hoe := hin e hg
          by_cases k4 : c.kind = 21
          · rw [t3 k4]; exact ⟨hr, ha, hl⟩
          · by_cases k5 : c.n < 1 ∨ 1073741824 - now < c.n
            · rw [t4 k4 k5]; exact ⟨hr, ha, hl⟩
            · refine keep (t5 k4 k5).2 (fun _ h => by rw [hg] at h; cases h) (fun y hy => ?_)
              cases hy
              exact ⟨hkey, hoe.val, .inr ⟨by show now < now + c.n; omega, by show now + c.n ≤ 1073741824; omega⟩⟩
      · rw [if_neg k3]
        have hk18 : c.kind ≤ 18 := by omega
        have hvk : Vk (((getE l c.key).map Ent.val).getD zeroV) := by
          cases hg : getE l c.key with
          | none => exact .inr rfl
          | some e => exact .inl (hin e hg).val
        have hnv := (DoV_vk hvk hc hk18).2
        change Vk (newV l c) at hnv
        refine keep (valE_spec hr c).1 (fun h1 h2 => ?_) (fun y hy => ?_)
        · have hgn : getE l c.key = none := by cases hg : getE l c.key with | none => rfl | some => rw [hg] at h2; cases h2
          rw [hgn] at h1
          simp only [Option.isSome_none, Bool.false_eq_true, and_false, if_false, true_and] at h1
          by_cases hl12 : l.length = 12
          · rw [if_pos hl12] at h1
            simp at h1
          · omega
        · by_cases a1 : (newR l c).code ≠ 0
          · rw [if_pos a1] at hy; exact hin y hy
          · rw [if_neg a1] at hy
            by_cases a2 : (newV l c).kind = 0 ∧ (getE l c.key).isSome = true
            · rw [if_pos a2] at hy; cases hy
            · rw [if_neg a2] at hy
              by_cases a3 : (getE l c.key).isSome = false ∧ l.length = 12
              · rw [if_pos a3] at hy; exact hin y hy
              · rw [if_neg a3] at hy
                by_cases a4 : (newV l c).kind ≠ 0
                · rw [if_pos a4] at hy
                  cases hy
                  refine ⟨hkey, vk_there hnv a4, ?_⟩
                  unfold putE
                  simp only
                  cases hg : getE l c.key with
                  | none => exact .inl rfl
                  | some e =>
                    simp only
                    by_cases a5 : c.kind = 1
                    · rw [if_pos a5]; exact .inl rfl
                    · rw [if_neg a5]; exact (hin e hg).till
                · rw [if_neg a4] at hy; exact hin y hy
def aliveS (now : Int) (s : Sto) : List Ent := s.ents.filter fun e => !goneE now e
theorem alive_ok {s : Sto} (h : OkS s) {now : Int} (hn : s.now ≤ now) : Rise (aliveS now s) ∧ (∀ e ∈ aliveS now s, OkE now e) ∧ (aliveS now s).length ≤ 12 := by
  refine ⟨h.rise.filter _, fun e he => ?_, Nat.le_trans (List.length_filter_le ..) h.len⟩
  obtain ⟨h1, h2⟩ := List.mem_filter.1 he
  have ho := h.all e h1
  refine ⟨ho.key, ho.val, ?_⟩
  rcases ho.till with h3 | h3
  · exact .inl h3
  · refine .inr ⟨?_, h3.2⟩
    unfold goneE at h2
    simp at h2
    rcases h2 with h2 | h2
    · have := h.now; omega
    · exact h2
theorem maxI_le (a b : Int) : a ≤ maxI a b ∧ b ≤ maxI a b := by unfold maxI; split <;> omega
theorem maxI_of {a b : Int} (h : a ≤ b) : maxI a b = b := by unfold maxI; rw [if_neg (by omega)]
theorem apply_ok {s : Sto} (h : OkS s) {t : Int} (h0 : 0 ≤ t) (h1 : t ≤ 1073741824) {c : Cmd} (hc : checkC c = 0) :
    ApplyS s t c = (⟨maxI s.now t, (doE (maxI s.now t) (aliveS (maxI s.now t) s) c).1⟩, (doE (maxI s.now t) (aliveS (maxI s.now t) s) c).2, 0) ∧ OkS ⟨maxI s.now t, (doE (maxI s.now t) (aliveS (maxI s.now t) s) c).1⟩ := by
  have hm := maxI_le s.now t
  have hb : maxI s.now t ≤ 1073741824 := by have := h.now; unfold maxI; split <;> omega
  obtain ⟨a1, a2, a3⟩ := alive_ok h hm.1
  obtain ⟨d1, d2, d3⟩ := doE_ok (by have := h.now; omega) hb a1 a2 a3 hc
  refine ⟨?_, ⟨⟨by have := h.now; show 0 ≤ maxI s.now t; omega, hb⟩, d3, d2, d1⟩⟩
  unfold ApplyS
  rw [if_neg (by rw [checkS_iff.2 h]; simp), if_neg (by omega), if_neg (by rw [hc]; simp)]
  rfl
/-- Nothing runs out where no time goes on. -/
theorem alive_same {s : Sto} (h : OkS s) : aliveS s.now s = s.ents := by
  unfold aliveS
  rw [List.filter_eq_self]
  intro e he
  have := (h.all e he).till
  unfold goneE
  simp
  omega
theorem okS_zero : OkS zeroS := ⟨⟨Int.le_refl _, by show (0 : Int) ≤ 1073741824; omega⟩, Nat.zero_le _, (fun e he => by cases he), .nil⟩
structure Stp where
  raw : Raw
  wait : Int
structure Stp.Ok (x : Stp) : Prop where
  raw : x.raw.Ok
  wait : i64 x.wait
def Stp.row (x : Stp) : List V := [.lit (.int .i64 x.raw.kind), .lit (.int .i64 x.raw.key), .lit (.int .i64 x.raw.field), .lit (.int .i64 x.raw.n), .lit (.string x.raw.text), .lit (.int .i64 x.wait)]
def Stp.c (x : Stp) : List C := [iC x.raw.kind, iC x.raw.key, iC x.raw.field, iC x.raw.n, sC x.raw.text, iC x.wait]
/-! ### few keys -/
def Few (l : List Ent) : Prop := ∀ e ∈ l, e.key ∈ nine
theorem few_len {l : List Ent} (hr : Rise l) (h : Few l) : l.length ≤ 9 := by
  have := nodup_le (l.map Ent.key) nine (List.pairwise_map.2 (hr.imp fun h => key_ne h)) fun x hx => by
    obtain ⟨p, hp, rfl⟩ := List.mem_map.1 hx
    exact h p hp
  rw [List.length_map] at this
  exact this
theorem doE_few {l : List Ent} (hr : Rise l) (now : Int) {c : Cmd} (h : Few l) (hc : c.kind = 22 ∨ c.key ∈ nine) : Few (doE now l c).1 := by
  rcases hc with hc | hc
  · unfold doE; rw [if_pos hc]; exact h
  · obtain ⟨x, hd⟩ := doE_did hr now c
    intro e he
    have hg := mem_getE hd.rise he
    by_cases hk : e.key = c.key
    · rw [hk]; exact hc
    · rw [hd.other _ hk] at hg
      exact h e (getE_mem hg).1
/-- A store as the keep makes them. -/
structure OkT (s : Sto) : Prop where
  ok : OkS s
  few : Few s.ents
theorem OkT.len {s : Sto} (h : OkT s) : s.ents.length ≤ 9 := few_len h.ok.rise h.few
theorem okT_zero : OkT zeroS := ⟨okS_zero, fun e he => by cases he⟩
theorem apply_okT {s : Sto} (h : OkT s) {t : Int} (h0 : 0 ≤ t) (h1 : t ≤ 1073741824) {c : Cmd} (hc : checkC c = 0) (hk : c.kind = 22 ∨ c.key ∈ nine) :
    ∃ s' r, ApplyS s t c = (s', r, 0) ∧ OkT s' ∧ s'.now = maxI s.now t := by
  obtain ⟨e, ok⟩ := apply_ok h.ok h0 h1 hc
  refine ⟨_, _, e, ⟨ok, doE_few (alive_ok h.ok (maxI_le _ _).1).1 _ (fun x hx => h.few x (List.mem_filter.1 hx).1) hk⟩, rfl⟩
theorem cmdR_key (r : Raw) : (cmdR r).kind = 22 ∨ (cmdR r).key ∈ nine := by
  unfold cmdR cmdK
  simp only
  by_cases h : 1 + pk r.kind 22 = 22
  · exact .inl h
  · rw [if_neg h]; exact .inr (some_nine _)
def stepT (q : Int × Sto) (x : Stp) : Int × Sto := (q.1 + pk x.wait 12, if (ApplyS q.2 (q.1 + pk x.wait 12) (cmdR x.raw)).2.2 = 0 then (ApplyS q.2 (q.1 + pk x.wait 12) (cmdR x.raw)).1 else q.2)
def foldT (l : List Stp) : Int × Sto := l.foldl stepT (0, zeroS)
def storeV (l : List Stp) : Sto := (foldT (l.take 40)).2
theorem foldT_ok : ∀ (l : List Stp) (q : Int × Sto), (∀ x ∈ l, x.Ok) → 0 ≤ q.1 → q.1 + 11 * (l.length : Int) ≤ 1000000 → OkT q.2 → q.2.now ≤ q.1 →
    OkT (l.foldl stepT q).2 ∧ 0 ≤ (l.foldl stepT q).1 ∧ (l.foldl stepT q).1 ≤ q.1 + 11 * (l.length : Int) ∧ (l.foldl stepT q).2.now ≤ (l.foldl stepT q).1
  | [], q, _, h0, _, h, hn => ⟨h, h0, by simp, hn⟩
  | x :: l, q, hl, h0, hb, h, hn => by
    have hx := hl x (List.mem_cons_self ..)
    have hp := pk_range (n := x.wait) (m := 12) (by omega)
    simp only [List.length_cons] at hb ⊢
    obtain ⟨s', r, e1, e2, e3⟩ := apply_okT h (t := q.1 + pk x.wait 12) (by omega) (by omega) (cmdR_ok hx.raw) (cmdR_key x.raw)
    have hst : stepT q x = (q.1 + pk x.wait 12, s') := by unfold stepT; rw [e1]; simp
    have hm : s'.now ≤ q.1 + pk x.wait 12 := by rw [e3]; unfold maxI; split <;> omega
    obtain ⟨g1, g2, g3, g4⟩ := foldT_ok l (q.1 + pk x.wait 12, s') (fun y hy => hl y (List.mem_cons_of_mem _ hy)) (by show 0 ≤ q.1 + pk x.wait 12; omega) (by show q.1 + pk x.wait 12 + 11 * (l.length : Int) ≤ 1000000; omega) e2 hm
    rw [List.foldl_cons, hst]
    refine ⟨g1, g2, ?_, g4⟩
    have : (l.foldl stepT (q.1 + pk x.wait 12, s')).1 ≤ q.1 + pk x.wait 12 + 11 * (l.length : Int) := g3
    omega
theorem storeV_ok (l : List Stp) (hl : ∀ x ∈ l, x.Ok) : OkT (storeV l) ∧ (storeV l).now ≤ 440 := by
  have ht := List.length_take_le 40 l
  obtain ⟨g1, g2, g3, g4⟩ := foldT_ok (l.take 40) (0, zeroS) (fun x hx => hl x (List.mem_of_mem_take hx)) (Int.le_refl _) (by show (0 : Int) + 11 * ((l.take 40).length : Int) ≤ 1000000; omega) okT_zero (Int.le_refl _)
  refine ⟨g1, ?_⟩
  show (foldT (l.take 40)).2.now ≤ 440
  unfold foldT
  have : ((0, zeroS) : Int × Sto).1 = 0 := rfl
  rw [this] at g3
  omega
theorem foldT_succ {l : List Stp} {i : Nat} {x : Stp} (h : l[i]? = some x) : foldT (l.take (i + 1)) = stepT (foldT (l.take i)) x := by
  unfold foldT
  rw [List.take_add_one, h, Option.toList_some, List.foldl_append]
  rfl
end Go.Proofs.Ytpdcfljbabpakaa
