/- What the functions of plain scalars answer. -/
import Derived.Test.YtcfpphadlgbfdaaAeFacts
import Derived.Test.YtcfpphadlgbfdaaAeRun
import Derived.IntWalk
set_option linter.unusedVariables false
set_option linter.unusedSimpArgs false
set_option maxRecDepth 100000
set_option maxHeartbeats 8000000
namespace Go.Proofs.Ytcfpphadlgbfdaa
open Go Go.RowKit Go.Proofs.AE
theorem mixed : Try.prog.follows .mixedOrders = true := by kernel_rfl
variable {G : Nat → AV}
abbrev iV (n : Int) : AV := .one (.v (.lit (.int .i64 n)))
abbrev sV (s : ByteArray) : AV := .one (.v (.lit (.string s)))
abbrev bV (b : Bool) : AV := .one (.v (.lit (.bool b)))
abbrev iC (n : Int) : C := .v (.lit (.int .i64 n))
abbrev sC (s : ByteArray) : C := .v (.lit (.string s))

def okField (s : ByteArray) : Bool := decide (1 ≤ (s.size : Int)) && decide ((s.size : Int) ≤ 12)
def okText (s : ByteArray) : Bool := decide ((s.size : Int) ≤ 20)
def okCount (n : Int) : Bool := decide (-1099511627776 ≤ n) && decide (n ≤ 1099511627776)
def okNumber (n : Int) : Bool := decide (1 ≤ n) && decide (n ≤ 1048576)

theorem field_c (s : ByteArray) : PCall Try.prog G 25 [sV s] (bV (okField s)) := by
  refine pcallc mixed Try.func25 ac_value_field ?_
  unfold okField
  simp -dsimp [go_sem]
  refine Cnd.intro (fun h => ?_) (fun h => ?_) <;> simp -dsimp [go_sem, h]
theorem text_c (s : ByteArray) : PCall Try.prog G 20 [sV s] (bV (okText s)) := by
  refine pcallc mixed Try.func20 ac_value_text ?_
  unfold okText
  simp -dsimp [go_sem]
theorem count_c (n : Int) : PCall Try.prog G 28 [iV n] (bV (okCount n)) := by
  refine pcallc mixed Try.func28 ac_value_count ?_
  unfold okCount
  simp -dsimp [go_sem]
  refine Cnd.intro (fun h => ?_) (fun h => ?_) <;> simp -dsimp [go_sem, h]

def pk (n m : Int) : Int := (if n < 0 then -(n + 1) else n).tmod m
theorem pk_range {n m : Int} (hm : 0 < m) : 0 ≤ pk n m ∧ pk n m < m := by
  unfold pk
  have h0 : 0 ≤ (if n < 0 then -(n + 1) else n) := by split <;> omega
  rw [Int.tmod_eq_emod_of_nonneg h0]
  exact ⟨Int.emod_nonneg _ (by omega), Int.emod_lt_of_pos _ hm⟩
def i64 (n : Int) : Prop := -9223372036854775808 ≤ n ∧ n ≤ 9223372036854775807
theorem picked_c (n m : Int) (hn : i64 n) (hm : m ≠ 0) : PCall Try.prog G 5 [iV n, iV m] (iV (pk n m)) := by
  refine pcallc mixed Try.func5 ac_rostrumkeep_picked ?_
  unfold pk
  unfold i64 at hn
  simp -dsimp [go_sem]
  refine Cnd.intro (fun h => ?_) (fun h => ?_)
  · simp at h
    simp -dsimp [go_sem, h, hm]
    rw [IntWalk.i64_in (n + 1) (by omega), IntWalk.i64_in _ (by omega), Int.neg_tmod]
  · simp at h
    have h' : ¬ n < 0 := by omega
    simp -dsimp [go_sem, h', hm]

def formOk (k : Int) (key field text : ByteArray) (n : Int) : Bool :=
  (k != 22 || decide (key = ⟨#[]⟩)) && ((k == 4 || k == 5 || k == 6) || decide (field = ⟨#[]⟩)) && ((k == 1 || k == 4 || k == 7 || k == 8 || k == 11 || k == 12 || k == 13 || k == 14 || k == 15 || k == 16) || decide (text = ⟨#[]⟩)) && ((k == 3 || k == 14 || k == 20) || n == 0)
def checkCommand (k : Int) (key field text : ByteArray) (n : Int) : Int :=
  if k < 1 then 3 else if 22 < k then 3 else if formOk k key field text n = false then 8
  else if (k != 22 && !okField key || ((k == 4 || k == 5 || k == 6) && !okField field)) || !okText text then 1
  else if okCount n = false then 2 else 0

theorem check1_c (key field text : ByteArray) (n : Int) : PCall Try.prog G 14 [.agg [iC 1, sC key, sC field, sC text, iC n]] (iV (checkCommand 1 key field text n)) := by
  refine pcallc mixed Try.func14 ac_value_CheckCommand ?_
  repeat' (first | (with_reducible first | refine Cn (fun h => ?_) fun h => ?_ | refine And.intro ?_ ?_ | refine wR ?_ | exact wr _ _ | refine wa ?_ | apply awp_join | refine q (field_c _) ?_ | refine qd (field_c _) ?_ | refine qz (field_c _) ?_ | refine q (text_c _) ?_ | refine qd (text_c _) ?_ | refine qz (text_c _) ?_ | refine q (count_c _) ?_ | refine qd (count_c _) ?_ | refine qz (count_c _) ?_) | (with_reducible refine CallZ.z ?_) | simp -dsimp [go_sem])
  all_goals (try simp_all [checkCommand, formOk])
  all_goals (intros; first | (simp_all; done) | trace_state)
theorem check2_c (key field text : ByteArray) (n : Int) : PCall Try.prog G 14 [.agg [iC 2, sC key, sC field, sC text, iC n]] (iV (checkCommand 2 key field text n)) := by
  refine pcallc mixed Try.func14 ac_value_CheckCommand ?_
  repeat' (first | (with_reducible first | refine Cn (fun h => ?_) fun h => ?_ | refine And.intro ?_ ?_ | refine wR ?_ | exact wr _ _ | refine wa ?_ | apply awp_join | refine q (field_c _) ?_ | refine qd (field_c _) ?_ | refine qz (field_c _) ?_ | refine q (text_c _) ?_ | refine qd (text_c _) ?_ | refine qz (text_c _) ?_ | refine q (count_c _) ?_ | refine qd (count_c _) ?_ | refine qz (count_c _) ?_) | (with_reducible refine CallZ.z ?_) | simp -dsimp [go_sem])
  all_goals (try simp_all [checkCommand, formOk])
  all_goals (intros; first | (simp_all; done) | trace_state)
theorem check3_c (key field text : ByteArray) (n : Int) : PCall Try.prog G 14 [.agg [iC 3, sC key, sC field, sC text, iC n]] (iV (checkCommand 3 key field text n)) := by
  refine pcallc mixed Try.func14 ac_value_CheckCommand ?_
  repeat' (first | (with_reducible first | refine Cn (fun h => ?_) fun h => ?_ | refine And.intro ?_ ?_ | refine wR ?_ | exact wr _ _ | refine wa ?_ | apply awp_join | refine q (field_c _) ?_ | refine qd (field_c _) ?_ | refine qz (field_c _) ?_ | refine q (text_c _) ?_ | refine qd (text_c _) ?_ | refine qz (text_c _) ?_ | refine q (count_c _) ?_ | refine qd (count_c _) ?_ | refine qz (count_c _) ?_) | (with_reducible refine CallZ.z ?_) | simp -dsimp [go_sem])
  all_goals (try simp_all [checkCommand, formOk])
  all_goals (intros; first | (simp_all; done) | trace_state)
theorem check4_c (key field text : ByteArray) (n : Int) : PCall Try.prog G 14 [.agg [iC 4, sC key, sC field, sC text, iC n]] (iV (checkCommand 4 key field text n)) := by
  refine pcallc mixed Try.func14 ac_value_CheckCommand ?_
  repeat' (first | (with_reducible first | refine Cn (fun h => ?_) fun h => ?_ | refine And.intro ?_ ?_ | refine wR ?_ | exact wr _ _ | refine wa ?_ | apply awp_join | refine q (field_c _) ?_ | refine qd (field_c _) ?_ | refine qz (field_c _) ?_ | refine q (text_c _) ?_ | refine qd (text_c _) ?_ | refine qz (text_c _) ?_ | refine q (count_c _) ?_ | refine qd (count_c _) ?_ | refine qz (count_c _) ?_) | (with_reducible refine CallZ.z ?_) | simp -dsimp [go_sem])
  all_goals (try simp_all [checkCommand, formOk])
  all_goals (intros; first | (simp_all; done) | trace_state)
theorem check5_c (key field text : ByteArray) (n : Int) : PCall Try.prog G 14 [.agg [iC 5, sC key, sC field, sC text, iC n]] (iV (checkCommand 5 key field text n)) := by
  refine pcallc mixed Try.func14 ac_value_CheckCommand ?_
  repeat' (first | (with_reducible first | refine Cn (fun h => ?_) fun h => ?_ | refine And.intro ?_ ?_ | refine wR ?_ | exact wr _ _ | refine wa ?_ | apply awp_join | refine q (field_c _) ?_ | refine qd (field_c _) ?_ | refine qz (field_c _) ?_ | refine q (text_c _) ?_ | refine qd (text_c _) ?_ | refine qz (text_c _) ?_ | refine q (count_c _) ?_ | refine qd (count_c _) ?_ | refine qz (count_c _) ?_) | (with_reducible refine CallZ.z ?_) | simp -dsimp [go_sem])
  all_goals (try simp_all [checkCommand, formOk])
  all_goals (intros; first | (simp_all; done) | trace_state)
theorem check6_c (key field text : ByteArray) (n : Int) : PCall Try.prog G 14 [.agg [iC 6, sC key, sC field, sC text, iC n]] (iV (checkCommand 6 key field text n)) := by
  refine pcallc mixed Try.func14 ac_value_CheckCommand ?_
  repeat' (first | (with_reducible first | refine Cn (fun h => ?_) fun h => ?_ | refine And.intro ?_ ?_ | refine wR ?_ | exact wr _ _ | refine wa ?_ | apply awp_join | refine q (field_c _) ?_ | refine qd (field_c _) ?_ | refine qz (field_c _) ?_ | refine q (text_c _) ?_ | refine qd (text_c _) ?_ | refine qz (text_c _) ?_ | refine q (count_c _) ?_ | refine qd (count_c _) ?_ | refine qz (count_c _) ?_) | (with_reducible refine CallZ.z ?_) | simp -dsimp [go_sem])
  all_goals (try simp_all [checkCommand, formOk])
  all_goals (intros; first | (simp_all; done) | trace_state)
theorem check7_c (key field text : ByteArray) (n : Int) : PCall Try.prog G 14 [.agg [iC 7, sC key, sC field, sC text, iC n]] (iV (checkCommand 7 key field text n)) := by
  refine pcallc mixed Try.func14 ac_value_CheckCommand ?_
  repeat' (first | (with_reducible first | refine Cn (fun h => ?_) fun h => ?_ | refine And.intro ?_ ?_ | refine wR ?_ | exact wr _ _ | refine wa ?_ | apply awp_join | refine q (field_c _) ?_ | refine qd (field_c _) ?_ | refine qz (field_c _) ?_ | refine q (text_c _) ?_ | refine qd (text_c _) ?_ | refine qz (text_c _) ?_ | refine q (count_c _) ?_ | refine qd (count_c _) ?_ | refine qz (count_c _) ?_) | (with_reducible refine CallZ.z ?_) | simp -dsimp [go_sem])
  all_goals (try simp_all [checkCommand, formOk])
  all_goals (intros; first | (simp_all; done) | trace_state)
theorem check8_c (key field text : ByteArray) (n : Int) : PCall Try.prog G 14 [.agg [iC 8, sC key, sC field, sC text, iC n]] (iV (checkCommand 8 key field text n)) := by
  refine pcallc mixed Try.func14 ac_value_CheckCommand ?_
  repeat' (first | (with_reducible first | refine Cn (fun h => ?_) fun h => ?_ | refine And.intro ?_ ?_ | refine wR ?_ | exact wr _ _ | refine wa ?_ | apply awp_join | refine q (field_c _) ?_ | refine qd (field_c _) ?_ | refine qz (field_c _) ?_ | refine q (text_c _) ?_ | refine qd (text_c _) ?_ | refine qz (text_c _) ?_ | refine q (count_c _) ?_ | refine qd (count_c _) ?_ | refine qz (count_c _) ?_) | (with_reducible refine CallZ.z ?_) | simp -dsimp [go_sem])
  all_goals (try simp_all [checkCommand, formOk])
  all_goals (intros; first | (simp_all; done) | trace_state)
theorem check9_c (key field text : ByteArray) (n : Int) : PCall Try.prog G 14 [.agg [iC 9, sC key, sC field, sC text, iC n]] (iV (checkCommand 9 key field text n)) := by
  refine pcallc mixed Try.func14 ac_value_CheckCommand ?_
  repeat' (first | (with_reducible first | refine Cn (fun h => ?_) fun h => ?_ | refine And.intro ?_ ?_ | refine wR ?_ | exact wr _ _ | refine wa ?_ | apply awp_join | refine q (field_c _) ?_ | refine qd (field_c _) ?_ | refine qz (field_c _) ?_ | refine q (text_c _) ?_ | refine qd (text_c _) ?_ | refine qz (text_c _) ?_ | refine q (count_c _) ?_ | refine qd (count_c _) ?_ | refine qz (count_c _) ?_) | (with_reducible refine CallZ.z ?_) | simp -dsimp [go_sem])
  all_goals (try simp_all [checkCommand, formOk])
  all_goals (intros; first | (simp_all; done) | trace_state)
theorem check10_c (key field text : ByteArray) (n : Int) : PCall Try.prog G 14 [.agg [iC 10, sC key, sC field, sC text, iC n]] (iV (checkCommand 10 key field text n)) := by
  refine pcallc mixed Try.func14 ac_value_CheckCommand ?_
  repeat' (first | (with_reducible first | refine Cn (fun h => ?_) fun h => ?_ | refine And.intro ?_ ?_ | refine wR ?_ | exact wr _ _ | refine wa ?_ | apply awp_join | refine q (field_c _) ?_ | refine qd (field_c _) ?_ | refine qz (field_c _) ?_ | refine q (text_c _) ?_ | refine qd (text_c _) ?_ | refine qz (text_c _) ?_ | refine q (count_c _) ?_ | refine qd (count_c _) ?_ | refine qz (count_c _) ?_) | (with_reducible refine CallZ.z ?_) | simp -dsimp [go_sem])
  all_goals (try simp_all [checkCommand, formOk])
  all_goals (intros; first | (simp_all; done) | trace_state)
theorem check11_c (key field text : ByteArray) (n : Int) : PCall Try.prog G 14 [.agg [iC 11, sC key, sC field, sC text, iC n]] (iV (checkCommand 11 key field text n)) := by
  refine pcallc mixed Try.func14 ac_value_CheckCommand ?_
  repeat' (first | (with_reducible first | refine Cn (fun h => ?_) fun h => ?_ | refine And.intro ?_ ?_ | refine wR ?_ | exact wr _ _ | refine wa ?_ | apply awp_join | refine q (field_c _) ?_ | refine qd (field_c _) ?_ | refine qz (field_c _) ?_ | refine q (text_c _) ?_ | refine qd (text_c _) ?_ | refine qz (text_c _) ?_ | refine q (count_c _) ?_ | refine qd (count_c _) ?_ | refine qz (count_c _) ?_) | (with_reducible refine CallZ.z ?_) | simp -dsimp [go_sem])
  all_goals (try simp_all [checkCommand, formOk])
  all_goals (intros; first | (simp_all; done) | trace_state)
theorem check12_c (key field text : ByteArray) (n : Int) : PCall Try.prog G 14 [.agg [iC 12, sC key, sC field, sC text, iC n]] (iV (checkCommand 12 key field text n)) := by
  refine pcallc mixed Try.func14 ac_value_CheckCommand ?_
  repeat' (first | (with_reducible first | refine Cn (fun h => ?_) fun h => ?_ | refine And.intro ?_ ?_ | refine wR ?_ | exact wr _ _ | refine wa ?_ | apply awp_join | refine q (field_c _) ?_ | refine qd (field_c _) ?_ | refine qz (field_c _) ?_ | refine q (text_c _) ?_ | refine qd (text_c _) ?_ | refine qz (text_c _) ?_ | refine q (count_c _) ?_ | refine qd (count_c _) ?_ | refine qz (count_c _) ?_) | (with_reducible refine CallZ.z ?_) | simp -dsimp [go_sem])
  all_goals (try simp_all [checkCommand, formOk])
  all_goals (intros; first | (simp_all; done) | trace_state)
theorem check13_c (key field text : ByteArray) (n : Int) : PCall Try.prog G 14 [.agg [iC 13, sC key, sC field, sC text, iC n]] (iV (checkCommand 13 key field text n)) := by
  refine pcallc mixed Try.func14 ac_value_CheckCommand ?_
  repeat' (first | (with_reducible first | refine Cn (fun h => ?_) fun h => ?_ | refine And.intro ?_ ?_ | refine wR ?_ | exact wr _ _ | refine wa ?_ | apply awp_join | refine q (field_c _) ?_ | refine qd (field_c _) ?_ | refine qz (field_c _) ?_ | refine q (text_c _) ?_ | refine qd (text_c _) ?_ | refine qz (text_c _) ?_ | refine q (count_c _) ?_ | refine qd (count_c _) ?_ | refine qz (count_c _) ?_) | (with_reducible refine CallZ.z ?_) | simp -dsimp [go_sem])
  all_goals (try simp_all [checkCommand, formOk])
  all_goals (intros; first | (simp_all; done) | trace_state)
theorem check14_c (key field text : ByteArray) (n : Int) : PCall Try.prog G 14 [.agg [iC 14, sC key, sC field, sC text, iC n]] (iV (checkCommand 14 key field text n)) := by
  refine pcallc mixed Try.func14 ac_value_CheckCommand ?_
  repeat' (first | (with_reducible first | refine Cn (fun h => ?_) fun h => ?_ | refine And.intro ?_ ?_ | refine wR ?_ | exact wr _ _ | refine wa ?_ | apply awp_join | refine q (field_c _) ?_ | refine qd (field_c _) ?_ | refine qz (field_c _) ?_ | refine q (text_c _) ?_ | refine qd (text_c _) ?_ | refine qz (text_c _) ?_ | refine q (count_c _) ?_ | refine qd (count_c _) ?_ | refine qz (count_c _) ?_) | (with_reducible refine CallZ.z ?_) | simp -dsimp [go_sem])
  all_goals (try simp_all [checkCommand, formOk])
  all_goals (intros; first | (simp_all; done) | trace_state)
theorem check15_c (key field text : ByteArray) (n : Int) : PCall Try.prog G 14 [.agg [iC 15, sC key, sC field, sC text, iC n]] (iV (checkCommand 15 key field text n)) := by
  refine pcallc mixed Try.func14 ac_value_CheckCommand ?_
  repeat' (first | (with_reducible first | refine Cn (fun h => ?_) fun h => ?_ | refine And.intro ?_ ?_ | refine wR ?_ | exact wr _ _ | refine wa ?_ | apply awp_join | refine q (field_c _) ?_ | refine qd (field_c _) ?_ | refine qz (field_c _) ?_ | refine q (text_c _) ?_ | refine qd (text_c _) ?_ | refine qz (text_c _) ?_ | refine q (count_c _) ?_ | refine qd (count_c _) ?_ | refine qz (count_c _) ?_) | (with_reducible refine CallZ.z ?_) | simp -dsimp [go_sem])
  all_goals (try simp_all [checkCommand, formOk])
  all_goals (intros; first | (simp_all; done) | trace_state)
theorem check16_c (key field text : ByteArray) (n : Int) : PCall Try.prog G 14 [.agg [iC 16, sC key, sC field, sC text, iC n]] (iV (checkCommand 16 key field text n)) := by
  refine pcallc mixed Try.func14 ac_value_CheckCommand ?_
  repeat' (first | (with_reducible first | refine Cn (fun h => ?_) fun h => ?_ | refine And.intro ?_ ?_ | refine wR ?_ | exact wr _ _ | refine wa ?_ | apply awp_join | refine q (field_c _) ?_ | refine qd (field_c _) ?_ | refine qz (field_c _) ?_ | refine q (text_c _) ?_ | refine qd (text_c _) ?_ | refine qz (text_c _) ?_ | refine q (count_c _) ?_ | refine qd (count_c _) ?_ | refine qz (count_c _) ?_) | (with_reducible refine CallZ.z ?_) | simp -dsimp [go_sem])
  all_goals (try simp_all [checkCommand, formOk])
  all_goals (intros; first | (simp_all; done) | trace_state)
theorem check17_c (key field text : ByteArray) (n : Int) : PCall Try.prog G 14 [.agg [iC 17, sC key, sC field, sC text, iC n]] (iV (checkCommand 17 key field text n)) := by
  refine pcallc mixed Try.func14 ac_value_CheckCommand ?_
  repeat' (first | (with_reducible first | refine Cn (fun h => ?_) fun h => ?_ | refine And.intro ?_ ?_ | refine wR ?_ | exact wr _ _ | refine wa ?_ | apply awp_join | refine q (field_c _) ?_ | refine qd (field_c _) ?_ | refine qz (field_c _) ?_ | refine q (text_c _) ?_ | refine qd (text_c _) ?_ | refine qz (text_c _) ?_ | refine q (count_c _) ?_ | refine qd (count_c _) ?_ | refine qz (count_c _) ?_) | (with_reducible refine CallZ.z ?_) | simp -dsimp [go_sem])
  all_goals (try simp_all [checkCommand, formOk])
  all_goals (intros; first | (simp_all; done) | trace_state)
theorem check18_c (key field text : ByteArray) (n : Int) : PCall Try.prog G 14 [.agg [iC 18, sC key, sC field, sC text, iC n]] (iV (checkCommand 18 key field text n)) := by
  refine pcallc mixed Try.func14 ac_value_CheckCommand ?_
  repeat' (first | (with_reducible first | refine Cn (fun h => ?_) fun h => ?_ | refine And.intro ?_ ?_ | refine wR ?_ | exact wr _ _ | refine wa ?_ | apply awp_join | refine q (field_c _) ?_ | refine qd (field_c _) ?_ | refine qz (field_c _) ?_ | refine q (text_c _) ?_ | refine qd (text_c _) ?_ | refine qz (text_c _) ?_ | refine q (count_c _) ?_ | refine qd (count_c _) ?_ | refine qz (count_c _) ?_) | (with_reducible refine CallZ.z ?_) | simp -dsimp [go_sem])
  all_goals (try simp_all [checkCommand, formOk])
  all_goals (intros; first | (simp_all; done) | trace_state)
theorem check19_c (key field text : ByteArray) (n : Int) : PCall Try.prog G 14 [.agg [iC 19, sC key, sC field, sC text, iC n]] (iV (checkCommand 19 key field text n)) := by
  refine pcallc mixed Try.func14 ac_value_CheckCommand ?_
  repeat' (first | (with_reducible first | refine Cn (fun h => ?_) fun h => ?_ | refine And.intro ?_ ?_ | refine wR ?_ | exact wr _ _ | refine wa ?_ | apply awp_join | refine q (field_c _) ?_ | refine qd (field_c _) ?_ | refine qz (field_c _) ?_ | refine q (text_c _) ?_ | refine qd (text_c _) ?_ | refine qz (text_c _) ?_ | refine q (count_c _) ?_ | refine qd (count_c _) ?_ | refine qz (count_c _) ?_) | (with_reducible refine CallZ.z ?_) | simp -dsimp [go_sem])
  all_goals (try simp_all [checkCommand, formOk])
  all_goals (intros; first | (simp_all; done) | trace_state)
theorem check20_c (key field text : ByteArray) (n : Int) : PCall Try.prog G 14 [.agg [iC 20, sC key, sC field, sC text, iC n]] (iV (checkCommand 20 key field text n)) := by
  refine pcallc mixed Try.func14 ac_value_CheckCommand ?_
  repeat' (first | (with_reducible first | refine Cn (fun h => ?_) fun h => ?_ | refine And.intro ?_ ?_ | refine wR ?_ | exact wr _ _ | refine wa ?_ | apply awp_join | refine q (field_c _) ?_ | refine qd (field_c _) ?_ | refine qz (field_c _) ?_ | refine q (text_c _) ?_ | refine qd (text_c _) ?_ | refine qz (text_c _) ?_ | refine q (count_c _) ?_ | refine qd (count_c _) ?_ | refine qz (count_c _) ?_) | (with_reducible refine CallZ.z ?_) | simp -dsimp [go_sem])
  all_goals (try simp_all [checkCommand, formOk])
  all_goals (intros; first | (simp_all; done) | trace_state)
theorem check21_c (key field text : ByteArray) (n : Int) : PCall Try.prog G 14 [.agg [iC 21, sC key, sC field, sC text, iC n]] (iV (checkCommand 21 key field text n)) := by
  refine pcallc mixed Try.func14 ac_value_CheckCommand ?_
  repeat' (first | (with_reducible first | refine Cn (fun h => ?_) fun h => ?_ | refine And.intro ?_ ?_ | refine wR ?_ | exact wr _ _ | refine wa ?_ | apply awp_join | refine q (field_c _) ?_ | refine qd (field_c _) ?_ | refine qz (field_c _) ?_ | refine q (text_c _) ?_ | refine qd (text_c _) ?_ | refine qz (text_c _) ?_ | refine q (count_c _) ?_ | refine qd (count_c _) ?_ | refine qz (count_c _) ?_) | (with_reducible refine CallZ.z ?_) | simp -dsimp [go_sem])
  all_goals (try simp_all [checkCommand, formOk])
  all_goals (intros; first | (simp_all; done) | trace_state)
theorem check22_c (key field text : ByteArray) (n : Int) : PCall Try.prog G 14 [.agg [iC 22, sC key, sC field, sC text, iC n]] (iV (checkCommand 22 key field text n)) := by
  refine pcallc mixed Try.func14 ac_value_CheckCommand ?_
  repeat' (first | (with_reducible first | refine Cn (fun h => ?_) fun h => ?_ | refine And.intro ?_ ?_ | refine wR ?_ | exact wr _ _ | refine wa ?_ | apply awp_join | refine q (field_c _) ?_ | refine qd (field_c _) ?_ | refine qz (field_c _) ?_ | refine q (text_c _) ?_ | refine qd (text_c _) ?_ | refine qz (text_c _) ?_ | refine q (count_c _) ?_ | refine qd (count_c _) ?_ | refine qz (count_c _) ?_) | (with_reducible refine CallZ.z ?_) | simp -dsimp [go_sem])
  all_goals (try simp_all [checkCommand, formOk])
  all_goals (intros; first | (simp_all; done) | trace_state)
theorem check_c (k : Int) (key field text : ByteArray) (n : Int) : PCall Try.prog G 14 [.agg [iC k, sC key, sC field, sC text, iC n]] (iV (checkCommand k key field text n)) := by
  have hk : k < 1 ∨ 22 < k ∨ k = 1 ∨ k = 2 ∨ k = 3 ∨ k = 4 ∨ k = 5 ∨ k = 6 ∨ k = 7 ∨ k = 8 ∨ k = 9 ∨ k = 10 ∨ k = 11 ∨ k = 12 ∨ k = 13 ∨ k = 14 ∨ k = 15 ∨ k = 16 ∨ k = 17 ∨ k = 18 ∨ k = 19 ∨ k = 20 ∨ k = 21 ∨ k = 22 := by omega
  rcases hk with hk | hk | rfl | rfl | rfl | rfl | rfl | rfl | rfl | rfl | rfl | rfl | rfl | rfl | rfl | rfl | rfl | rfl | rfl | rfl | rfl | rfl | rfl | rfl
  · refine pcallc mixed Try.func14 ac_value_CheckCommand ?_
    simp -dsimp [go_sem, hk, checkCommand]
  · refine pcallc mixed Try.func14 ac_value_CheckCommand ?_
    have h' : ¬ k < 1 := by omega
    simp -dsimp [go_sem, hk, h', checkCommand]
  · exact check1_c key field text n
  · exact check2_c key field text n
  · exact check3_c key field text n
  · exact check4_c key field text n
  · exact check5_c key field text n
  · exact check6_c key field text n
  · exact check7_c key field text n
  · exact check8_c key field text n
  · exact check9_c key field text n
  · exact check10_c key field text n
  · exact check11_c key field text n
  · exact check12_c key field text n
  · exact check13_c key field text n
  · exact check14_c key field text n
  · exact check15_c key field text n
  · exact check16_c key field text n
  · exact check17_c key field text n
  · exact check18_c key field text n
  · exact check19_c key field text n
  · exact check20_c key field text n
  · exact check21_c key field text n
  · exact check22_c key field text n
end Go.Proofs.Ytcfpphadlgbfdaa
