/- What the functions that make commands answer. -/
import Derived.Test.YtcfpphadlgbfdaaC
import Derived.Test.YtcfpphadlgbfdaaAeRead
set_option linter.unusedVariables false
set_option linter.unusedSimpArgs false
set_option maxRecDepth 100000
set_option maxHeartbeats 8000000
namespace Go.Proofs.Ytcfpphadlgbfdaa
open Go Go.RowKit Go.Proofs.AE
variable {G : Nat → AV}
theorem kids : Kids Try.prog (· < Try.prog.types.size) := kids_rows (by kernel_rfl) (by kernel_rfl)
theorem slok : slicesOk Try.prog = true := by kernel_rfl
def someS (n : Int) : ByteArray := ⟨#[UInt8.ofNat (97 + pk n 9).toNat]⟩
theorem someS_size (n : Int) : (someS n).size = 1 := rfl
theorem some_c (n : Int) (hn : i64 n) : PCall Try.prog G 10 [iV n] (sV (someS n)) := by
  have hk := pk_range (n := n) (m := 9) (by omega)
  have hw : IntKind.i64.wrap (97 + pk n 9) = 97 + pk n 9 := IntWalk.i64_in _ (by omega)
  have hw8 : IntKind.u8.wrap (97 + pk n 9) = 97 + pk n 9 := by
    exact IntWalk.u8_in _ (by omega)
  refine pcallc mixed Try.func10 ac_rostrumkeep_some ?_
  unfold someS
  repeat' (first | (with_reducible first | refine Cn (fun h => ?_) fun h => ?_ | refine And.intro ?_ ?_ | refine wR ?_ | exact wr _ _ | refine wa ?_ | apply awp_join | refine q1 (by exact picked_c _ _ (by assumption) (by simp)) ?_ | refine q1d (by exact picked_c _ _ (by assumption) (by simp)) ?_) | (with_reducible refine CallZ.z ?_) | simp -dsimp [go_sem, hw, hw8, bytesOf, AE.byteOf])
def cutS (s : ByteArray) (n : Int) : ByteArray := s.extract 0 (if n < (s.size : Int) then n else (s.size : Int)).toNat
theorem cut_c (s : ByteArray) (n : Int) (hn : 0 ≤ n) : PCall Try.prog G 11 [sV s, iV n] (sV (cutS s n)) := by
  refine pcallc mixed Try.func11 ac_rostrumkeep_cut ?_
  unfold cutS
  have h1 : 0 ≤ if n < (s.size : Int) then n else (s.size : Int) := by split <;> omega
  have h2 : (if n < (s.size : Int) then n else (s.size : Int)) ≤ (s.size : Int) := by split <;> omega
  simp -dsimp [go_sem, h1, h2]
theorem cutS_size (s : ByteArray) {n : Int} (hn : 0 ≤ n) : ((cutS s n).size : Int) ≤ n := by
  unfold cutS
  rw [ByteArray.size_extract]
  split <;> omega

/-- The command of raw numbers, of a kind. -/
def cmdText (n : Int) (text : ByteArray) : ByteArray := if pk n 3 = 0 then someS n else cutS text 6
def cmdOf (k key field n : Int) (text : ByteArray) : List C :=
  [iC k, sC (if k = 22 then ⟨#[]⟩ else someS key), sC (if k = 4 ∨ k = 5 ∨ k = 6 then someS field else ⟨#[]⟩),
   sC (if k = 1 ∨ k = 4 ∨ k = 7 ∨ k = 8 ∨ k = 11 ∨ k = 12 ∨ k = 13 ∨ k = 14 ∨ k = 15 ∨ k = 16 then cmdText n text else ⟨#[]⟩),
   iC (if k = 3 then n.tmod 1073741824 else if k = 20 then pk n 60 else if k = 14 then pk n 12 - 6 else 0)]
theorem cmd6 (n : Int) : IntKind.i64.wrap (pk n 12 - 6) = pk n 12 - 6 := by
  have := pk_range (n := n) (m := 12) (by omega)
  exact IntWalk.i64_in _ (by omega)
theorem command0_c (kind key field n : Int) (text : ByteArray) (h1 : i64 kind) (h2 : i64 key) (h3 : i64 field) (h4 : i64 n) (hk : pk kind 22 = 0) : PCall Try.prog G 6 [.agg [iC kind, iC key, iC field, iC n, sC text]] (.agg (cmdOf (1 + pk kind 22) key field n text)) := by
  rw [hk]
  refine pcallc mixed Try.func6 ac_rostrumkeep_Command ?_
  have e : IntKind.i64.wrap (1 + 0) = 1 + 0 := by rfl
  simp -dsimp [go_sem]
  refine awp_join ⟨[(1, .one (.ptr 0 0)), (2, .one (.ptr 1 0)), (3, .one (.ptr 2 0))], G, [some (.box 32 [iC kind, iC key, iC field, iC n, sC text]), some (.box 34 [iC 0, sC ⟨#[]⟩, sC ⟨#[]⟩, sC ⟨#[]⟩, iC 0]), some (.box 34 [iC (1 + 0), sC (someS key), sC ⟨#[]⟩, sC ⟨#[]⟩, iC 0])]⟩ ?_ ?_
  repeat' (first | (with_reducible first | refine Cn (fun h => ?_) fun h => ?_ | refine And.intro ?_ ?_ | refine wR ?_ | exact wr _ _ | refine wa ?_ | apply awp_join | refine q1 (by exact picked_c _ _ (by assumption) (by simp)) ?_ | refine q1d (by exact picked_c _ _ (by assumption) (by simp)) ?_ | refine q1 (by exact some_c _ (by assumption)) ?_ | refine q1d (by exact some_c _ (by assumption)) ?_ | refine q1 (by exact picked_c _ _ (by assumption) (by simp)) ?_ | refine q1d (by exact picked_c _ _ (by assumption) (by simp)) ?_ | refine q1 (by exact some_c _ (by assumption)) ?_ | refine q1d (by exact some_c _ (by assumption)) ?_ | refine q1 (by exact cut_c _ _ (by simp)) ?_ | refine q1d (by exact cut_c _ _ (by simp)) ?_) | (with_reducible refine CallZ.z ?_) | simp -dsimp [go_sem, hk, e, cmd6])
  all_goals simp_all [cmdOf, cmdText, coeCs, coeC]
theorem command1_c (kind key field n : Int) (text : ByteArray) (h1 : i64 kind) (h2 : i64 key) (h3 : i64 field) (h4 : i64 n) (hk : pk kind 22 = 1) : PCall Try.prog G 6 [.agg [iC kind, iC key, iC field, iC n, sC text]] (.agg (cmdOf (1 + pk kind 22) key field n text)) := by
  rw [hk]
  refine pcallc mixed Try.func6 ac_rostrumkeep_Command ?_
  have e : IntKind.i64.wrap (1 + 1) = 1 + 1 := by rfl
  simp -dsimp [go_sem]
  refine awp_join ⟨[(1, .one (.ptr 0 0)), (2, .one (.ptr 1 0)), (3, .one (.ptr 2 0))], G, [some (.box 32 [iC kind, iC key, iC field, iC n, sC text]), some (.box 34 [iC 0, sC ⟨#[]⟩, sC ⟨#[]⟩, sC ⟨#[]⟩, iC 0]), some (.box 34 [iC (1 + 1), sC (someS key), sC ⟨#[]⟩, sC ⟨#[]⟩, iC 0])]⟩ ?_ ?_
  repeat' (first | (with_reducible first | refine Cn (fun h => ?_) fun h => ?_ | refine And.intro ?_ ?_ | refine wR ?_ | exact wr _ _ | refine wa ?_ | apply awp_join | refine q1 (by exact picked_c _ _ (by assumption) (by simp)) ?_ | refine q1d (by exact picked_c _ _ (by assumption) (by simp)) ?_ | refine q1 (by exact some_c _ (by assumption)) ?_ | refine q1d (by exact some_c _ (by assumption)) ?_ | refine q1 (by exact picked_c _ _ (by assumption) (by simp)) ?_ | refine q1d (by exact picked_c _ _ (by assumption) (by simp)) ?_ | refine q1 (by exact some_c _ (by assumption)) ?_ | refine q1d (by exact some_c _ (by assumption)) ?_ | refine q1 (by exact cut_c _ _ (by simp)) ?_ | refine q1d (by exact cut_c _ _ (by simp)) ?_) | (with_reducible refine CallZ.z ?_) | simp -dsimp [go_sem, hk, e, cmd6])
  all_goals simp_all [cmdOf, cmdText, coeCs, coeC]
theorem command2_c (kind key field n : Int) (text : ByteArray) (h1 : i64 kind) (h2 : i64 key) (h3 : i64 field) (h4 : i64 n) (hk : pk kind 22 = 2) : PCall Try.prog G 6 [.agg [iC kind, iC key, iC field, iC n, sC text]] (.agg (cmdOf (1 + pk kind 22) key field n text)) := by
  rw [hk]
  refine pcallc mixed Try.func6 ac_rostrumkeep_Command ?_
  have e : IntKind.i64.wrap (1 + 2) = 1 + 2 := by rfl
  simp -dsimp [go_sem]
  refine awp_join ⟨[(1, .one (.ptr 0 0)), (2, .one (.ptr 1 0)), (3, .one (.ptr 2 0))], G, [some (.box 32 [iC kind, iC key, iC field, iC n, sC text]), some (.box 34 [iC 0, sC ⟨#[]⟩, sC ⟨#[]⟩, sC ⟨#[]⟩, iC 0]), some (.box 34 [iC (1 + 2), sC (someS key), sC ⟨#[]⟩, sC ⟨#[]⟩, iC 0])]⟩ ?_ ?_
  repeat' (first | (with_reducible first | refine Cn (fun h => ?_) fun h => ?_ | refine And.intro ?_ ?_ | refine wR ?_ | exact wr _ _ | refine wa ?_ | apply awp_join | refine q1 (by exact picked_c _ _ (by assumption) (by simp)) ?_ | refine q1d (by exact picked_c _ _ (by assumption) (by simp)) ?_ | refine q1 (by exact some_c _ (by assumption)) ?_ | refine q1d (by exact some_c _ (by assumption)) ?_ | refine q1 (by exact picked_c _ _ (by assumption) (by simp)) ?_ | refine q1d (by exact picked_c _ _ (by assumption) (by simp)) ?_ | refine q1 (by exact some_c _ (by assumption)) ?_ | refine q1d (by exact some_c _ (by assumption)) ?_ | refine q1 (by exact cut_c _ _ (by simp)) ?_ | refine q1d (by exact cut_c _ _ (by simp)) ?_) | (with_reducible refine CallZ.z ?_) | simp -dsimp [go_sem, hk, e, cmd6])
  all_goals simp_all [cmdOf, cmdText, coeCs, coeC]
theorem command3_c (kind key field n : Int) (text : ByteArray) (h1 : i64 kind) (h2 : i64 key) (h3 : i64 field) (h4 : i64 n) (hk : pk kind 22 = 3) : PCall Try.prog G 6 [.agg [iC kind, iC key, iC field, iC n, sC text]] (.agg (cmdOf (1 + pk kind 22) key field n text)) := by
  rw [hk]
  refine pcallc mixed Try.func6 ac_rostrumkeep_Command ?_
  have e : IntKind.i64.wrap (1 + 3) = 1 + 3 := by rfl
  simp -dsimp [go_sem]
  refine awp_join ⟨[(1, .one (.ptr 0 0)), (2, .one (.ptr 1 0)), (3, .one (.ptr 2 0))], G, [some (.box 32 [iC kind, iC key, iC field, iC n, sC text]), some (.box 34 [iC 0, sC ⟨#[]⟩, sC ⟨#[]⟩, sC ⟨#[]⟩, iC 0]), some (.box 34 [iC (1 + 3), sC (someS key), sC ⟨#[]⟩, sC ⟨#[]⟩, iC 0])]⟩ ?_ ?_
  repeat' (first | (with_reducible first | refine Cn (fun h => ?_) fun h => ?_ | refine And.intro ?_ ?_ | refine wR ?_ | exact wr _ _ | refine wa ?_ | apply awp_join | refine q1 (by exact picked_c _ _ (by assumption) (by simp)) ?_ | refine q1d (by exact picked_c _ _ (by assumption) (by simp)) ?_ | refine q1 (by exact some_c _ (by assumption)) ?_ | refine q1d (by exact some_c _ (by assumption)) ?_ | refine q1 (by exact picked_c _ _ (by assumption) (by simp)) ?_ | refine q1d (by exact picked_c _ _ (by assumption) (by simp)) ?_ | refine q1 (by exact some_c _ (by assumption)) ?_ | refine q1d (by exact some_c _ (by assumption)) ?_ | refine q1 (by exact cut_c _ _ (by simp)) ?_ | refine q1d (by exact cut_c _ _ (by simp)) ?_) | (with_reducible refine CallZ.z ?_) | simp -dsimp [go_sem, hk, e, cmd6])
  all_goals simp_all [cmdOf, cmdText, coeCs, coeC]
theorem command4_c (kind key field n : Int) (text : ByteArray) (h1 : i64 kind) (h2 : i64 key) (h3 : i64 field) (h4 : i64 n) (hk : pk kind 22 = 4) : PCall Try.prog G 6 [.agg [iC kind, iC key, iC field, iC n, sC text]] (.agg (cmdOf (1 + pk kind 22) key field n text)) := by
  rw [hk]
  refine pcallc mixed Try.func6 ac_rostrumkeep_Command ?_
  have e : IntKind.i64.wrap (1 + 4) = 1 + 4 := by rfl
  simp -dsimp [go_sem]
  refine awp_join ⟨[(1, .one (.ptr 0 0)), (2, .one (.ptr 1 0)), (3, .one (.ptr 2 0))], G, [some (.box 32 [iC kind, iC key, iC field, iC n, sC text]), some (.box 34 [iC 0, sC ⟨#[]⟩, sC ⟨#[]⟩, sC ⟨#[]⟩, iC 0]), some (.box 34 [iC (1 + 4), sC (someS key), sC ⟨#[]⟩, sC ⟨#[]⟩, iC 0])]⟩ ?_ ?_
  repeat' (first | (with_reducible first | refine Cn (fun h => ?_) fun h => ?_ | refine And.intro ?_ ?_ | refine wR ?_ | exact wr _ _ | refine wa ?_ | apply awp_join | refine q1 (by exact picked_c _ _ (by assumption) (by simp)) ?_ | refine q1d (by exact picked_c _ _ (by assumption) (by simp)) ?_ | refine q1 (by exact some_c _ (by assumption)) ?_ | refine q1d (by exact some_c _ (by assumption)) ?_ | refine q1 (by exact picked_c _ _ (by assumption) (by simp)) ?_ | refine q1d (by exact picked_c _ _ (by assumption) (by simp)) ?_ | refine q1 (by exact some_c _ (by assumption)) ?_ | refine q1d (by exact some_c _ (by assumption)) ?_ | refine q1 (by exact cut_c _ _ (by simp)) ?_ | refine q1d (by exact cut_c _ _ (by simp)) ?_) | (with_reducible refine CallZ.z ?_) | simp -dsimp [go_sem, hk, e, cmd6])
  all_goals simp_all [cmdOf, cmdText, coeCs, coeC]
theorem command5_c (kind key field n : Int) (text : ByteArray) (h1 : i64 kind) (h2 : i64 key) (h3 : i64 field) (h4 : i64 n) (hk : pk kind 22 = 5) : PCall Try.prog G 6 [.agg [iC kind, iC key, iC field, iC n, sC text]] (.agg (cmdOf (1 + pk kind 22) key field n text)) := by
  rw [hk]
  refine pcallc mixed Try.func6 ac_rostrumkeep_Command ?_
  have e : IntKind.i64.wrap (1 + 5) = 1 + 5 := by rfl
  simp -dsimp [go_sem]
  refine awp_join ⟨[(1, .one (.ptr 0 0)), (2, .one (.ptr 1 0)), (3, .one (.ptr 2 0))], G, [some (.box 32 [iC kind, iC key, iC field, iC n, sC text]), some (.box 34 [iC 0, sC ⟨#[]⟩, sC ⟨#[]⟩, sC ⟨#[]⟩, iC 0]), some (.box 34 [iC (1 + 5), sC (someS key), sC ⟨#[]⟩, sC ⟨#[]⟩, iC 0])]⟩ ?_ ?_
  repeat' (first | (with_reducible first | refine Cn (fun h => ?_) fun h => ?_ | refine And.intro ?_ ?_ | refine wR ?_ | exact wr _ _ | refine wa ?_ | apply awp_join | refine q1 (by exact picked_c _ _ (by assumption) (by simp)) ?_ | refine q1d (by exact picked_c _ _ (by assumption) (by simp)) ?_ | refine q1 (by exact some_c _ (by assumption)) ?_ | refine q1d (by exact some_c _ (by assumption)) ?_ | refine q1 (by exact picked_c _ _ (by assumption) (by simp)) ?_ | refine q1d (by exact picked_c _ _ (by assumption) (by simp)) ?_ | refine q1 (by exact some_c _ (by assumption)) ?_ | refine q1d (by exact some_c _ (by assumption)) ?_ | refine q1 (by exact cut_c _ _ (by simp)) ?_ | refine q1d (by exact cut_c _ _ (by simp)) ?_) | (with_reducible refine CallZ.z ?_) | simp -dsimp [go_sem, hk, e, cmd6])
  all_goals simp_all [cmdOf, cmdText, coeCs, coeC]
theorem command6_c (kind key field n : Int) (text : ByteArray) (h1 : i64 kind) (h2 : i64 key) (h3 : i64 field) (h4 : i64 n) (hk : pk kind 22 = 6) : PCall Try.prog G 6 [.agg [iC kind, iC key, iC field, iC n, sC text]] (.agg (cmdOf (1 + pk kind 22) key field n text)) := by
  rw [hk]
  refine pcallc mixed Try.func6 ac_rostrumkeep_Command ?_
  have e : IntKind.i64.wrap (1 + 6) = 1 + 6 := by rfl
  simp -dsimp [go_sem]
  refine awp_join ⟨[(1, .one (.ptr 0 0)), (2, .one (.ptr 1 0)), (3, .one (.ptr 2 0))], G, [some (.box 32 [iC kind, iC key, iC field, iC n, sC text]), some (.box 34 [iC 0, sC ⟨#[]⟩, sC ⟨#[]⟩, sC ⟨#[]⟩, iC 0]), some (.box 34 [iC (1 + 6), sC (someS key), sC ⟨#[]⟩, sC ⟨#[]⟩, iC 0])]⟩ ?_ ?_
  repeat' (first | (with_reducible first | refine Cn (fun h => ?_) fun h => ?_ | refine And.intro ?_ ?_ | refine wR ?_ | exact wr _ _ | refine wa ?_ | apply awp_join | refine q1 (by exact picked_c _ _ (by assumption) (by simp)) ?_ | refine q1d (by exact picked_c _ _ (by assumption) (by simp)) ?_ | refine q1 (by exact some_c _ (by assumption)) ?_ | refine q1d (by exact some_c _ (by assumption)) ?_ | refine q1 (by exact picked_c _ _ (by assumption) (by simp)) ?_ | refine q1d (by exact picked_c _ _ (by assumption) (by simp)) ?_ | refine q1 (by exact some_c _ (by assumption)) ?_ | refine q1d (by exact some_c _ (by assumption)) ?_ | refine q1 (by exact cut_c _ _ (by simp)) ?_ | refine q1d (by exact cut_c _ _ (by simp)) ?_) | (with_reducible refine CallZ.z ?_) | simp -dsimp [go_sem, hk, e, cmd6])
  all_goals simp_all [cmdOf, cmdText, coeCs, coeC]
theorem command7_c (kind key field n : Int) (text : ByteArray) (h1 : i64 kind) (h2 : i64 key) (h3 : i64 field) (h4 : i64 n) (hk : pk kind 22 = 7) : PCall Try.prog G 6 [.agg [iC kind, iC key, iC field, iC n, sC text]] (.agg (cmdOf (1 + pk kind 22) key field n text)) := by
  rw [hk]
  refine pcallc mixed Try.func6 ac_rostrumkeep_Command ?_
  have e : IntKind.i64.wrap (1 + 7) = 1 + 7 := by rfl
  simp -dsimp [go_sem]
  refine awp_join ⟨[(1, .one (.ptr 0 0)), (2, .one (.ptr 1 0)), (3, .one (.ptr 2 0))], G, [some (.box 32 [iC kind, iC key, iC field, iC n, sC text]), some (.box 34 [iC 0, sC ⟨#[]⟩, sC ⟨#[]⟩, sC ⟨#[]⟩, iC 0]), some (.box 34 [iC (1 + 7), sC (someS key), sC ⟨#[]⟩, sC ⟨#[]⟩, iC 0])]⟩ ?_ ?_
  repeat' (first | (with_reducible first | refine Cn (fun h => ?_) fun h => ?_ | refine And.intro ?_ ?_ | refine wR ?_ | exact wr _ _ | refine wa ?_ | apply awp_join | refine q1 (by exact picked_c _ _ (by assumption) (by simp)) ?_ | refine q1d (by exact picked_c _ _ (by assumption) (by simp)) ?_ | refine q1 (by exact some_c _ (by assumption)) ?_ | refine q1d (by exact some_c _ (by assumption)) ?_ | refine q1 (by exact picked_c _ _ (by assumption) (by simp)) ?_ | refine q1d (by exact picked_c _ _ (by assumption) (by simp)) ?_ | refine q1 (by exact some_c _ (by assumption)) ?_ | refine q1d (by exact some_c _ (by assumption)) ?_ | refine q1 (by exact cut_c _ _ (by simp)) ?_ | refine q1d (by exact cut_c _ _ (by simp)) ?_) | (with_reducible refine CallZ.z ?_) | simp -dsimp [go_sem, hk, e, cmd6])
  all_goals simp_all [cmdOf, cmdText, coeCs, coeC]
theorem command8_c (kind key field n : Int) (text : ByteArray) (h1 : i64 kind) (h2 : i64 key) (h3 : i64 field) (h4 : i64 n) (hk : pk kind 22 = 8) : PCall Try.prog G 6 [.agg [iC kind, iC key, iC field, iC n, sC text]] (.agg (cmdOf (1 + pk kind 22) key field n text)) := by
  rw [hk]
  refine pcallc mixed Try.func6 ac_rostrumkeep_Command ?_
  have e : IntKind.i64.wrap (1 + 8) = 1 + 8 := by rfl
  simp -dsimp [go_sem]
  refine awp_join ⟨[(1, .one (.ptr 0 0)), (2, .one (.ptr 1 0)), (3, .one (.ptr 2 0))], G, [some (.box 32 [iC kind, iC key, iC field, iC n, sC text]), some (.box 34 [iC 0, sC ⟨#[]⟩, sC ⟨#[]⟩, sC ⟨#[]⟩, iC 0]), some (.box 34 [iC (1 + 8), sC (someS key), sC ⟨#[]⟩, sC ⟨#[]⟩, iC 0])]⟩ ?_ ?_
  repeat' (first | (with_reducible first | refine Cn (fun h => ?_) fun h => ?_ | refine And.intro ?_ ?_ | refine wR ?_ | exact wr _ _ | refine wa ?_ | apply awp_join | refine q1 (by exact picked_c _ _ (by assumption) (by simp)) ?_ | refine q1d (by exact picked_c _ _ (by assumption) (by simp)) ?_ | refine q1 (by exact some_c _ (by assumption)) ?_ | refine q1d (by exact some_c _ (by assumption)) ?_ | refine q1 (by exact picked_c _ _ (by assumption) (by simp)) ?_ | refine q1d (by exact picked_c _ _ (by assumption) (by simp)) ?_ | refine q1 (by exact some_c _ (by assumption)) ?_ | refine q1d (by exact some_c _ (by assumption)) ?_ | refine q1 (by exact cut_c _ _ (by simp)) ?_ | refine q1d (by exact cut_c _ _ (by simp)) ?_) | (with_reducible refine CallZ.z ?_) | simp -dsimp [go_sem, hk, e, cmd6])
  all_goals simp_all [cmdOf, cmdText, coeCs, coeC]
theorem command9_c (kind key field n : Int) (text : ByteArray) (h1 : i64 kind) (h2 : i64 key) (h3 : i64 field) (h4 : i64 n) (hk : pk kind 22 = 9) : PCall Try.prog G 6 [.agg [iC kind, iC key, iC field, iC n, sC text]] (.agg (cmdOf (1 + pk kind 22) key field n text)) := by
  rw [hk]
  refine pcallc mixed Try.func6 ac_rostrumkeep_Command ?_
  have e : IntKind.i64.wrap (1 + 9) = 1 + 9 := by rfl
  simp -dsimp [go_sem]
  refine awp_join ⟨[(1, .one (.ptr 0 0)), (2, .one (.ptr 1 0)), (3, .one (.ptr 2 0))], G, [some (.box 32 [iC kind, iC key, iC field, iC n, sC text]), some (.box 34 [iC 0, sC ⟨#[]⟩, sC ⟨#[]⟩, sC ⟨#[]⟩, iC 0]), some (.box 34 [iC (1 + 9), sC (someS key), sC ⟨#[]⟩, sC ⟨#[]⟩, iC 0])]⟩ ?_ ?_
  repeat' (first | (with_reducible first | refine Cn (fun h => ?_) fun h => ?_ | refine And.intro ?_ ?_ | refine wR ?_ | exact wr _ _ | refine wa ?_ | apply awp_join | refine q1 (by exact picked_c _ _ (by assumption) (by simp)) ?_ | refine q1d (by exact picked_c _ _ (by assumption) (by simp)) ?_ | refine q1 (by exact some_c _ (by assumption)) ?_ | refine q1d (by exact some_c _ (by assumption)) ?_ | refine q1 (by exact picked_c _ _ (by assumption) (by simp)) ?_ | refine q1d (by exact picked_c _ _ (by assumption) (by simp)) ?_ | refine q1 (by exact some_c _ (by assumption)) ?_ | refine q1d (by exact some_c _ (by assumption)) ?_ | refine q1 (by exact cut_c _ _ (by simp)) ?_ | refine q1d (by exact cut_c _ _ (by simp)) ?_) | (with_reducible refine CallZ.z ?_) | simp -dsimp [go_sem, hk, e, cmd6])
  all_goals simp_all [cmdOf, cmdText, coeCs, coeC]
theorem command10_c (kind key field n : Int) (text : ByteArray) (h1 : i64 kind) (h2 : i64 key) (h3 : i64 field) (h4 : i64 n) (hk : pk kind 22 = 10) : PCall Try.prog G 6 [.agg [iC kind, iC key, iC field, iC n, sC text]] (.agg (cmdOf (1 + pk kind 22) key field n text)) := by
  rw [hk]
  refine pcallc mixed Try.func6 ac_rostrumkeep_Command ?_
  have e : IntKind.i64.wrap (1 + 10) = 1 + 10 := by rfl
  simp -dsimp [go_sem]
  refine awp_join ⟨[(1, .one (.ptr 0 0)), (2, .one (.ptr 1 0)), (3, .one (.ptr 2 0))], G, [some (.box 32 [iC kind, iC key, iC field, iC n, sC text]), some (.box 34 [iC 0, sC ⟨#[]⟩, sC ⟨#[]⟩, sC ⟨#[]⟩, iC 0]), some (.box 34 [iC (1 + 10), sC (someS key), sC ⟨#[]⟩, sC ⟨#[]⟩, iC 0])]⟩ ?_ ?_
  repeat' (first | (with_reducible first | refine Cn (fun h => ?_) fun h => ?_ | refine And.intro ?_ ?_ | refine wR ?_ | exact wr _ _ | refine wa ?_ | apply awp_join | refine q1 (by exact picked_c _ _ (by assumption) (by simp)) ?_ | refine q1d (by exact picked_c _ _ (by assumption) (by simp)) ?_ | refine q1 (by exact some_c _ (by assumption)) ?_ | refine q1d (by exact some_c _ (by assumption)) ?_ | refine q1 (by exact picked_c _ _ (by assumption) (by simp)) ?_ | refine q1d (by exact picked_c _ _ (by assumption) (by simp)) ?_ | refine q1 (by exact some_c _ (by assumption)) ?_ | refine q1d (by exact some_c _ (by assumption)) ?_ | refine q1 (by exact cut_c _ _ (by simp)) ?_ | refine q1d (by exact cut_c _ _ (by simp)) ?_) | (with_reducible refine CallZ.z ?_) | simp -dsimp [go_sem, hk, e, cmd6])
  all_goals simp_all [cmdOf, cmdText, coeCs, coeC]
theorem command11_c (kind key field n : Int) (text : ByteArray) (h1 : i64 kind) (h2 : i64 key) (h3 : i64 field) (h4 : i64 n) (hk : pk kind 22 = 11) : PCall Try.prog G 6 [.agg [iC kind, iC key, iC field, iC n, sC text]] (.agg (cmdOf (1 + pk kind 22) key field n text)) := by
  rw [hk]
  refine pcallc mixed Try.func6 ac_rostrumkeep_Command ?_
  have e : IntKind.i64.wrap (1 + 11) = 1 + 11 := by rfl
  simp -dsimp [go_sem]
  refine awp_join ⟨[(1, .one (.ptr 0 0)), (2, .one (.ptr 1 0)), (3, .one (.ptr 2 0))], G, [some (.box 32 [iC kind, iC key, iC field, iC n, sC text]), some (.box 34 [iC 0, sC ⟨#[]⟩, sC ⟨#[]⟩, sC ⟨#[]⟩, iC 0]), some (.box 34 [iC (1 + 11), sC (someS key), sC ⟨#[]⟩, sC ⟨#[]⟩, iC 0])]⟩ ?_ ?_
  repeat' (first | (with_reducible first | refine Cn (fun h => ?_) fun h => ?_ | refine And.intro ?_ ?_ | refine wR ?_ | exact wr _ _ | refine wa ?_ | apply awp_join | refine q1 (by exact picked_c _ _ (by assumption) (by simp)) ?_ | refine q1d (by exact picked_c _ _ (by assumption) (by simp)) ?_ | refine q1 (by exact some_c _ (by assumption)) ?_ | refine q1d (by exact some_c _ (by assumption)) ?_ | refine q1 (by exact picked_c _ _ (by assumption) (by simp)) ?_ | refine q1d (by exact picked_c _ _ (by assumption) (by simp)) ?_ | refine q1 (by exact some_c _ (by assumption)) ?_ | refine q1d (by exact some_c _ (by assumption)) ?_ | refine q1 (by exact cut_c _ _ (by simp)) ?_ | refine q1d (by exact cut_c _ _ (by simp)) ?_) | (with_reducible refine CallZ.z ?_) | simp -dsimp [go_sem, hk, e, cmd6])
  all_goals simp_all [cmdOf, cmdText, coeCs, coeC]
theorem command12_c (kind key field n : Int) (text : ByteArray) (h1 : i64 kind) (h2 : i64 key) (h3 : i64 field) (h4 : i64 n) (hk : pk kind 22 = 12) : PCall Try.prog G 6 [.agg [iC kind, iC key, iC field, iC n, sC text]] (.agg (cmdOf (1 + pk kind 22) key field n text)) := by
  rw [hk]
  refine pcallc mixed Try.func6 ac_rostrumkeep_Command ?_
  have e : IntKind.i64.wrap (1 + 12) = 1 + 12 := by rfl
  simp -dsimp [go_sem]
  refine awp_join ⟨[(1, .one (.ptr 0 0)), (2, .one (.ptr 1 0)), (3, .one (.ptr 2 0))], G, [some (.box 32 [iC kind, iC key, iC field, iC n, sC text]), some (.box 34 [iC 0, sC ⟨#[]⟩, sC ⟨#[]⟩, sC ⟨#[]⟩, iC 0]), some (.box 34 [iC (1 + 12), sC (someS key), sC ⟨#[]⟩, sC ⟨#[]⟩, iC 0])]⟩ ?_ ?_
  repeat' (first | (with_reducible first | refine Cn (fun h => ?_) fun h => ?_ | refine And.intro ?_ ?_ | refine wR ?_ | exact wr _ _ | refine wa ?_ | apply awp_join | refine q1 (by exact picked_c _ _ (by assumption) (by simp)) ?_ | refine q1d (by exact picked_c _ _ (by assumption) (by simp)) ?_ | refine q1 (by exact some_c _ (by assumption)) ?_ | refine q1d (by exact some_c _ (by assumption)) ?_ | refine q1 (by exact picked_c _ _ (by assumption) (by simp)) ?_ | refine q1d (by exact picked_c _ _ (by assumption) (by simp)) ?_ | refine q1 (by exact some_c _ (by assumption)) ?_ | refine q1d (by exact some_c _ (by assumption)) ?_ | refine q1 (by exact cut_c _ _ (by simp)) ?_ | refine q1d (by exact cut_c _ _ (by simp)) ?_) | (with_reducible refine CallZ.z ?_) | simp -dsimp [go_sem, hk, e, cmd6])
  all_goals simp_all [cmdOf, cmdText, coeCs, coeC]
theorem command13_c (kind key field n : Int) (text : ByteArray) (h1 : i64 kind) (h2 : i64 key) (h3 : i64 field) (h4 : i64 n) (hk : pk kind 22 = 13) : PCall Try.prog G 6 [.agg [iC kind, iC key, iC field, iC n, sC text]] (.agg (cmdOf (1 + pk kind 22) key field n text)) := by
  rw [hk]
  refine pcallc mixed Try.func6 ac_rostrumkeep_Command ?_
  have e : IntKind.i64.wrap (1 + 13) = 1 + 13 := by rfl
  simp -dsimp [go_sem]
  refine awp_join ⟨[(1, .one (.ptr 0 0)), (2, .one (.ptr 1 0)), (3, .one (.ptr 2 0))], G, [some (.box 32 [iC kind, iC key, iC field, iC n, sC text]), some (.box 34 [iC 0, sC ⟨#[]⟩, sC ⟨#[]⟩, sC ⟨#[]⟩, iC 0]), some (.box 34 [iC (1 + 13), sC (someS key), sC ⟨#[]⟩, sC ⟨#[]⟩, iC 0])]⟩ ?_ ?_
  repeat' (first | (with_reducible first | refine Cn (fun h => ?_) fun h => ?_ | refine And.intro ?_ ?_ | refine wR ?_ | exact wr _ _ | refine wa ?_ | apply awp_join | refine q1 (by exact picked_c _ _ (by assumption) (by simp)) ?_ | refine q1d (by exact picked_c _ _ (by assumption) (by simp)) ?_ | refine q1 (by exact some_c _ (by assumption)) ?_ | refine q1d (by exact some_c _ (by assumption)) ?_ | refine q1 (by exact picked_c _ _ (by assumption) (by simp)) ?_ | refine q1d (by exact picked_c _ _ (by assumption) (by simp)) ?_ | refine q1 (by exact some_c _ (by assumption)) ?_ | refine q1d (by exact some_c _ (by assumption)) ?_ | refine q1 (by exact cut_c _ _ (by simp)) ?_ | refine q1d (by exact cut_c _ _ (by simp)) ?_) | (with_reducible refine CallZ.z ?_) | simp -dsimp [go_sem, hk, e, cmd6])
  all_goals simp_all [cmdOf, cmdText, coeCs, coeC]
theorem command14_c (kind key field n : Int) (text : ByteArray) (h1 : i64 kind) (h2 : i64 key) (h3 : i64 field) (h4 : i64 n) (hk : pk kind 22 = 14) : PCall Try.prog G 6 [.agg [iC kind, iC key, iC field, iC n, sC text]] (.agg (cmdOf (1 + pk kind 22) key field n text)) := by
  rw [hk]
  refine pcallc mixed Try.func6 ac_rostrumkeep_Command ?_
  have e : IntKind.i64.wrap (1 + 14) = 1 + 14 := by rfl
  simp -dsimp [go_sem]
  refine awp_join ⟨[(1, .one (.ptr 0 0)), (2, .one (.ptr 1 0)), (3, .one (.ptr 2 0))], G, [some (.box 32 [iC kind, iC key, iC field, iC n, sC text]), some (.box 34 [iC 0, sC ⟨#[]⟩, sC ⟨#[]⟩, sC ⟨#[]⟩, iC 0]), some (.box 34 [iC (1 + 14), sC (someS key), sC ⟨#[]⟩, sC ⟨#[]⟩, iC 0])]⟩ ?_ ?_
  repeat' (first | (with_reducible first | refine Cn (fun h => ?_) fun h => ?_ | refine And.intro ?_ ?_ | refine wR ?_ | exact wr _ _ | refine wa ?_ | apply awp_join | refine q1 (by exact picked_c _ _ (by assumption) (by simp)) ?_ | refine q1d (by exact picked_c _ _ (by assumption) (by simp)) ?_ | refine q1 (by exact some_c _ (by assumption)) ?_ | refine q1d (by exact some_c _ (by assumption)) ?_ | refine q1 (by exact picked_c _ _ (by assumption) (by simp)) ?_ | refine q1d (by exact picked_c _ _ (by assumption) (by simp)) ?_ | refine q1 (by exact some_c _ (by assumption)) ?_ | refine q1d (by exact some_c _ (by assumption)) ?_ | refine q1 (by exact cut_c _ _ (by simp)) ?_ | refine q1d (by exact cut_c _ _ (by simp)) ?_) | (with_reducible refine CallZ.z ?_) | simp -dsimp [go_sem, hk, e, cmd6])
  all_goals simp_all [cmdOf, cmdText, coeCs, coeC]
theorem command15_c (kind key field n : Int) (text : ByteArray) (h1 : i64 kind) (h2 : i64 key) (h3 : i64 field) (h4 : i64 n) (hk : pk kind 22 = 15) : PCall Try.prog G 6 [.agg [iC kind, iC key, iC field, iC n, sC text]] (.agg (cmdOf (1 + pk kind 22) key field n text)) := by
  rw [hk]
  refine pcallc mixed Try.func6 ac_rostrumkeep_Command ?_
  have e : IntKind.i64.wrap (1 + 15) = 1 + 15 := by rfl
  simp -dsimp [go_sem]
  refine awp_join ⟨[(1, .one (.ptr 0 0)), (2, .one (.ptr 1 0)), (3, .one (.ptr 2 0))], G, [some (.box 32 [iC kind, iC key, iC field, iC n, sC text]), some (.box 34 [iC 0, sC ⟨#[]⟩, sC ⟨#[]⟩, sC ⟨#[]⟩, iC 0]), some (.box 34 [iC (1 + 15), sC (someS key), sC ⟨#[]⟩, sC ⟨#[]⟩, iC 0])]⟩ ?_ ?_
  repeat' (first | (with_reducible first | refine Cn (fun h => ?_) fun h => ?_ | refine And.intro ?_ ?_ | refine wR ?_ | exact wr _ _ | refine wa ?_ | apply awp_join | refine q1 (by exact picked_c _ _ (by assumption) (by simp)) ?_ | refine q1d (by exact picked_c _ _ (by assumption) (by simp)) ?_ | refine q1 (by exact some_c _ (by assumption)) ?_ | refine q1d (by exact some_c _ (by assumption)) ?_ | refine q1 (by exact picked_c _ _ (by assumption) (by simp)) ?_ | refine q1d (by exact picked_c _ _ (by assumption) (by simp)) ?_ | refine q1 (by exact some_c _ (by assumption)) ?_ | refine q1d (by exact some_c _ (by assumption)) ?_ | refine q1 (by exact cut_c _ _ (by simp)) ?_ | refine q1d (by exact cut_c _ _ (by simp)) ?_) | (with_reducible refine CallZ.z ?_) | simp -dsimp [go_sem, hk, e, cmd6])
  all_goals simp_all [cmdOf, cmdText, coeCs, coeC]
theorem command16_c (kind key field n : Int) (text : ByteArray) (h1 : i64 kind) (h2 : i64 key) (h3 : i64 field) (h4 : i64 n) (hk : pk kind 22 = 16) : PCall Try.prog G 6 [.agg [iC kind, iC key, iC field, iC n, sC text]] (.agg (cmdOf (1 + pk kind 22) key field n text)) := by
  rw [hk]
  refine pcallc mixed Try.func6 ac_rostrumkeep_Command ?_
  have e : IntKind.i64.wrap (1 + 16) = 1 + 16 := by rfl
  simp -dsimp [go_sem]
  refine awp_join ⟨[(1, .one (.ptr 0 0)), (2, .one (.ptr 1 0)), (3, .one (.ptr 2 0))], G, [some (.box 32 [iC kind, iC key, iC field, iC n, sC text]), some (.box 34 [iC 0, sC ⟨#[]⟩, sC ⟨#[]⟩, sC ⟨#[]⟩, iC 0]), some (.box 34 [iC (1 + 16), sC (someS key), sC ⟨#[]⟩, sC ⟨#[]⟩, iC 0])]⟩ ?_ ?_
  repeat' (first | (with_reducible first | refine Cn (fun h => ?_) fun h => ?_ | refine And.intro ?_ ?_ | refine wR ?_ | exact wr _ _ | refine wa ?_ | apply awp_join | refine q1 (by exact picked_c _ _ (by assumption) (by simp)) ?_ | refine q1d (by exact picked_c _ _ (by assumption) (by simp)) ?_ | refine q1 (by exact some_c _ (by assumption)) ?_ | refine q1d (by exact some_c _ (by assumption)) ?_ | refine q1 (by exact picked_c _ _ (by assumption) (by simp)) ?_ | refine q1d (by exact picked_c _ _ (by assumption) (by simp)) ?_ | refine q1 (by exact some_c _ (by assumption)) ?_ | refine q1d (by exact some_c _ (by assumption)) ?_ | refine q1 (by exact cut_c _ _ (by simp)) ?_ | refine q1d (by exact cut_c _ _ (by simp)) ?_) | (with_reducible refine CallZ.z ?_) | simp -dsimp [go_sem, hk, e, cmd6])
  all_goals simp_all [cmdOf, cmdText, coeCs, coeC]
theorem command17_c (kind key field n : Int) (text : ByteArray) (h1 : i64 kind) (h2 : i64 key) (h3 : i64 field) (h4 : i64 n) (hk : pk kind 22 = 17) : PCall Try.prog G 6 [.agg [iC kind, iC key, iC field, iC n, sC text]] (.agg (cmdOf (1 + pk kind 22) key field n text)) := by
  rw [hk]
  refine pcallc mixed Try.func6 ac_rostrumkeep_Command ?_
  have e : IntKind.i64.wrap (1 + 17) = 1 + 17 := by rfl
  simp -dsimp [go_sem]
  refine awp_join ⟨[(1, .one (.ptr 0 0)), (2, .one (.ptr 1 0)), (3, .one (.ptr 2 0))], G, [some (.box 32 [iC kind, iC key, iC field, iC n, sC text]), some (.box 34 [iC 0, sC ⟨#[]⟩, sC ⟨#[]⟩, sC ⟨#[]⟩, iC 0]), some (.box 34 [iC (1 + 17), sC (someS key), sC ⟨#[]⟩, sC ⟨#[]⟩, iC 0])]⟩ ?_ ?_
  repeat' (first | (with_reducible first | refine Cn (fun h => ?_) fun h => ?_ | refine And.intro ?_ ?_ | refine wR ?_ | exact wr _ _ | refine wa ?_ | apply awp_join | refine q1 (by exact picked_c _ _ (by assumption) (by simp)) ?_ | refine q1d (by exact picked_c _ _ (by assumption) (by simp)) ?_ | refine q1 (by exact some_c _ (by assumption)) ?_ | refine q1d (by exact some_c _ (by assumption)) ?_ | refine q1 (by exact picked_c _ _ (by assumption) (by simp)) ?_ | refine q1d (by exact picked_c _ _ (by assumption) (by simp)) ?_ | refine q1 (by exact some_c _ (by assumption)) ?_ | refine q1d (by exact some_c _ (by assumption)) ?_ | refine q1 (by exact cut_c _ _ (by simp)) ?_ | refine q1d (by exact cut_c _ _ (by simp)) ?_) | (with_reducible refine CallZ.z ?_) | simp -dsimp [go_sem, hk, e, cmd6])
  all_goals simp_all [cmdOf, cmdText, coeCs, coeC]
theorem command18_c (kind key field n : Int) (text : ByteArray) (h1 : i64 kind) (h2 : i64 key) (h3 : i64 field) (h4 : i64 n) (hk : pk kind 22 = 18) : PCall Try.prog G 6 [.agg [iC kind, iC key, iC field, iC n, sC text]] (.agg (cmdOf (1 + pk kind 22) key field n text)) := by
  rw [hk]
  refine pcallc mixed Try.func6 ac_rostrumkeep_Command ?_
  have e : IntKind.i64.wrap (1 + 18) = 1 + 18 := by rfl
  simp -dsimp [go_sem]
  refine awp_join ⟨[(1, .one (.ptr 0 0)), (2, .one (.ptr 1 0)), (3, .one (.ptr 2 0))], G, [some (.box 32 [iC kind, iC key, iC field, iC n, sC text]), some (.box 34 [iC 0, sC ⟨#[]⟩, sC ⟨#[]⟩, sC ⟨#[]⟩, iC 0]), some (.box 34 [iC (1 + 18), sC (someS key), sC ⟨#[]⟩, sC ⟨#[]⟩, iC 0])]⟩ ?_ ?_
  repeat' (first | (with_reducible first | refine Cn (fun h => ?_) fun h => ?_ | refine And.intro ?_ ?_ | refine wR ?_ | exact wr _ _ | refine wa ?_ | apply awp_join | refine q1 (by exact picked_c _ _ (by assumption) (by simp)) ?_ | refine q1d (by exact picked_c _ _ (by assumption) (by simp)) ?_ | refine q1 (by exact some_c _ (by assumption)) ?_ | refine q1d (by exact some_c _ (by assumption)) ?_ | refine q1 (by exact picked_c _ _ (by assumption) (by simp)) ?_ | refine q1d (by exact picked_c _ _ (by assumption) (by simp)) ?_ | refine q1 (by exact some_c _ (by assumption)) ?_ | refine q1d (by exact some_c _ (by assumption)) ?_ | refine q1 (by exact cut_c _ _ (by simp)) ?_ | refine q1d (by exact cut_c _ _ (by simp)) ?_) | (with_reducible refine CallZ.z ?_) | simp -dsimp [go_sem, hk, e, cmd6])
  all_goals simp_all [cmdOf, cmdText, coeCs, coeC]
theorem command19_c (kind key field n : Int) (text : ByteArray) (h1 : i64 kind) (h2 : i64 key) (h3 : i64 field) (h4 : i64 n) (hk : pk kind 22 = 19) : PCall Try.prog G 6 [.agg [iC kind, iC key, iC field, iC n, sC text]] (.agg (cmdOf (1 + pk kind 22) key field n text)) := by
  rw [hk]
  refine pcallc mixed Try.func6 ac_rostrumkeep_Command ?_
  have e : IntKind.i64.wrap (1 + 19) = 1 + 19 := by rfl
  simp -dsimp [go_sem]
  refine awp_join ⟨[(1, .one (.ptr 0 0)), (2, .one (.ptr 1 0)), (3, .one (.ptr 2 0))], G, [some (.box 32 [iC kind, iC key, iC field, iC n, sC text]), some (.box 34 [iC 0, sC ⟨#[]⟩, sC ⟨#[]⟩, sC ⟨#[]⟩, iC 0]), some (.box 34 [iC (1 + 19), sC (someS key), sC ⟨#[]⟩, sC ⟨#[]⟩, iC 0])]⟩ ?_ ?_
  repeat' (first | (with_reducible first | refine Cn (fun h => ?_) fun h => ?_ | refine And.intro ?_ ?_ | refine wR ?_ | exact wr _ _ | refine wa ?_ | apply awp_join | refine q1 (by exact picked_c _ _ (by assumption) (by simp)) ?_ | refine q1d (by exact picked_c _ _ (by assumption) (by simp)) ?_ | refine q1 (by exact some_c _ (by assumption)) ?_ | refine q1d (by exact some_c _ (by assumption)) ?_ | refine q1 (by exact picked_c _ _ (by assumption) (by simp)) ?_ | refine q1d (by exact picked_c _ _ (by assumption) (by simp)) ?_ | refine q1 (by exact some_c _ (by assumption)) ?_ | refine q1d (by exact some_c _ (by assumption)) ?_ | refine q1 (by exact cut_c _ _ (by simp)) ?_ | refine q1d (by exact cut_c _ _ (by simp)) ?_) | (with_reducible refine CallZ.z ?_) | simp -dsimp [go_sem, hk, e, cmd6])
  all_goals simp_all [cmdOf, cmdText, coeCs, coeC]
theorem command20_c (kind key field n : Int) (text : ByteArray) (h1 : i64 kind) (h2 : i64 key) (h3 : i64 field) (h4 : i64 n) (hk : pk kind 22 = 20) : PCall Try.prog G 6 [.agg [iC kind, iC key, iC field, iC n, sC text]] (.agg (cmdOf (1 + pk kind 22) key field n text)) := by
  rw [hk]
  refine pcallc mixed Try.func6 ac_rostrumkeep_Command ?_
  have e : IntKind.i64.wrap (1 + 20) = 1 + 20 := by rfl
  simp -dsimp [go_sem]
  refine awp_join ⟨[(1, .one (.ptr 0 0)), (2, .one (.ptr 1 0)), (3, .one (.ptr 2 0))], G, [some (.box 32 [iC kind, iC key, iC field, iC n, sC text]), some (.box 34 [iC 0, sC ⟨#[]⟩, sC ⟨#[]⟩, sC ⟨#[]⟩, iC 0]), some (.box 34 [iC (1 + 20), sC (someS key), sC ⟨#[]⟩, sC ⟨#[]⟩, iC 0])]⟩ ?_ ?_
  repeat' (first | (with_reducible first | refine Cn (fun h => ?_) fun h => ?_ | refine And.intro ?_ ?_ | refine wR ?_ | exact wr _ _ | refine wa ?_ | apply awp_join | refine q1 (by exact picked_c _ _ (by assumption) (by simp)) ?_ | refine q1d (by exact picked_c _ _ (by assumption) (by simp)) ?_ | refine q1 (by exact some_c _ (by assumption)) ?_ | refine q1d (by exact some_c _ (by assumption)) ?_ | refine q1 (by exact picked_c _ _ (by assumption) (by simp)) ?_ | refine q1d (by exact picked_c _ _ (by assumption) (by simp)) ?_ | refine q1 (by exact some_c _ (by assumption)) ?_ | refine q1d (by exact some_c _ (by assumption)) ?_ | refine q1 (by exact cut_c _ _ (by simp)) ?_ | refine q1d (by exact cut_c _ _ (by simp)) ?_) | (with_reducible refine CallZ.z ?_) | simp -dsimp [go_sem, hk, e, cmd6])
  all_goals simp_all [cmdOf, cmdText, coeCs, coeC]
theorem command21_c (kind key field n : Int) (text : ByteArray) (h1 : i64 kind) (h2 : i64 key) (h3 : i64 field) (h4 : i64 n) (hk : pk kind 22 = 21) : PCall Try.prog G 6 [.agg [iC kind, iC key, iC field, iC n, sC text]] (.agg (cmdOf (1 + pk kind 22) key field n text)) := by
  rw [hk]
  refine pcallc mixed Try.func6 ac_rostrumkeep_Command ?_
  have e : IntKind.i64.wrap (1 + 21) = 1 + 21 := by rfl
  simp -dsimp [go_sem]
  refine awp_join ⟨[(1, .one (.ptr 0 0)), (2, .one (.ptr 1 0)), (3, .one (.ptr 2 0))], G, [some (.box 32 [iC kind, iC key, iC field, iC n, sC text]), some (.box 34 [iC 0, sC ⟨#[]⟩, sC ⟨#[]⟩, sC ⟨#[]⟩, iC 0]), some (.box 34 [iC (1 + 21), sC (someS key), sC ⟨#[]⟩, sC ⟨#[]⟩, iC 0])]⟩ ?_ ?_
  repeat' (first | (with_reducible first | refine Cn (fun h => ?_) fun h => ?_ | refine And.intro ?_ ?_ | refine wR ?_ | exact wr _ _ | refine wa ?_ | apply awp_join | refine q1 (by exact picked_c _ _ (by assumption) (by simp)) ?_ | refine q1d (by exact picked_c _ _ (by assumption) (by simp)) ?_ | refine q1 (by exact some_c _ (by assumption)) ?_ | refine q1d (by exact some_c _ (by assumption)) ?_ | refine q1 (by exact picked_c _ _ (by assumption) (by simp)) ?_ | refine q1d (by exact picked_c _ _ (by assumption) (by simp)) ?_ | refine q1 (by exact some_c _ (by assumption)) ?_ | refine q1d (by exact some_c _ (by assumption)) ?_ | refine q1 (by exact cut_c _ _ (by simp)) ?_ | refine q1d (by exact cut_c _ _ (by simp)) ?_) | (with_reducible refine CallZ.z ?_) | simp -dsimp [go_sem, hk, e, cmd6])
  all_goals simp_all [cmdOf, cmdText, coeCs, coeC]
theorem command_c (kind key field n : Int) (text : ByteArray) (h1 : i64 kind) (h2 : i64 key) (h3 : i64 field) (h4 : i64 n) : PCall Try.prog G 6 [.agg [iC kind, iC key, iC field, iC n, sC text]] (.agg (cmdOf (1 + pk kind 22) key field n text)) := by
  have hr := pk_range (n := kind) (m := 22) (by omega)
  have hk : pk kind 22 = 0 ∨ pk kind 22 = 1 ∨ pk kind 22 = 2 ∨ pk kind 22 = 3 ∨ pk kind 22 = 4 ∨ pk kind 22 = 5 ∨ pk kind 22 = 6 ∨ pk kind 22 = 7 ∨ pk kind 22 = 8 ∨ pk kind 22 = 9 ∨ pk kind 22 = 10 ∨ pk kind 22 = 11 ∨ pk kind 22 = 12 ∨ pk kind 22 = 13 ∨ pk kind 22 = 14 ∨ pk kind 22 = 15 ∨ pk kind 22 = 16 ∨ pk kind 22 = 17 ∨ pk kind 22 = 18 ∨ pk kind 22 = 19 ∨ pk kind 22 = 20 ∨ pk kind 22 = 21 := by omega
  rcases hk with hk | hk | hk | hk | hk | hk | hk | hk | hk | hk | hk | hk | hk | hk | hk | hk | hk | hk | hk | hk | hk | hk
  · exact command0_c kind key field n text h1 h2 h3 h4 hk
  · exact command1_c kind key field n text h1 h2 h3 h4 hk
  · exact command2_c kind key field n text h1 h2 h3 h4 hk
  · exact command3_c kind key field n text h1 h2 h3 h4 hk
  · exact command4_c kind key field n text h1 h2 h3 h4 hk
  · exact command5_c kind key field n text h1 h2 h3 h4 hk
  · exact command6_c kind key field n text h1 h2 h3 h4 hk
  · exact command7_c kind key field n text h1 h2 h3 h4 hk
  · exact command8_c kind key field n text h1 h2 h3 h4 hk
  · exact command9_c kind key field n text h1 h2 h3 h4 hk
  · exact command10_c kind key field n text h1 h2 h3 h4 hk
  · exact command11_c kind key field n text h1 h2 h3 h4 hk
  · exact command12_c kind key field n text h1 h2 h3 h4 hk
  · exact command13_c kind key field n text h1 h2 h3 h4 hk
  · exact command14_c kind key field n text h1 h2 h3 h4 hk
  · exact command15_c kind key field n text h1 h2 h3 h4 hk
  · exact command16_c kind key field n text h1 h2 h3 h4 hk
  · exact command17_c kind key field n text h1 h2 h3 h4 hk
  · exact command18_c kind key field n text h1 h2 h3 h4 hk
  · exact command19_c kind key field n text h1 h2 h3 h4 hk
  · exact command20_c kind key field n text h1 h2 h3 h4 hk
  · exact command21_c kind key field n text h1 h2 h3 h4 hk
end Go.Proofs.Ytcfpphadlgbfdaa
